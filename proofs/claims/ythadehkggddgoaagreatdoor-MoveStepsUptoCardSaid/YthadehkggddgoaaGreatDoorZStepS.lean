/- What happens in a tick, as values; contract: move.Step. -/
import Derived.Test.YthadehkggddgoaaGreatDoorZMay
set_option maxRecDepth 100000
set_option maxHeartbeats 0
set_option linter.unusedVariables false
set_option linter.unusedSimpArgs false
namespace Go.Proofs.YthadehkggddgoaaGreatDoor
open Go Go.Num
noncomputable def wishC (l:List Q):List AE.AV:=[.l 3 (lsAv Q.c l)]
def walkOK (w:Wk) (v:V2):Prop:=v.x.Good∧v.y.Good∧absR v.x.v≤w.walk.v∧absR v.y.v≤w.walk.v
instance (w:Wk) (v:V2):Decidable (walkOK w v):=by unfold walkOK; infer_instance
def stepI (st:Int) (nu np nw na npe:Int) (ok:Bool) (tick:Int):Int:=if st≠0 then st else if nu≠na∨np≠na∨nw≠npe then 1 else if ok=false then 1 else if tick=2000 then 7 else 0
def stepC (w:Wk) (s:Ss) (us:List (List Q)) (ps:List Bool) (vs:List V2):Int:=stepI (stateC w s) us.length ps.length vs.length w.arms.length s.people.length (decide (∀ v∈vs,walkOK w v)) s.tick
def nA (w:Wk) (s:Ss) (us:List (List Q)) (ps:List Bool) (i:Nat):As:=oneA (arAt w i) (asAt s i) (us.getD i []) (ps.getD i false)
def armsT (w:Wk) (s:Ss) (us:List (List Q)) (ps:List Bool):Nat→List As
 | 0=>s.arms
 | t+1=>(armsT w s us ps t).set t (nA w s us ps t)
def partsT (w:Wk) (s:Ss) (us:List (List Q)) (ps:List Bool):Nat→List Fr
 | 0=>s.parts
 | t+1=>if 0≤(nA w s us ps t).holds then (partsT w s us ps t).set (nA w s us ps t).holds.toNat (heldF (arAt w t) (nA w s us ps t).q (partAt w (nA w s us ps t).holds)) else partsT w s us ps t
def pAt (l:List V2) (i:Nat):V2:=l.getD i ⟨Q.nil,Q.nil⟩
def peopleT (s:Ss) (vs:List V2):Nat→List V2
 | 0=>s.people
 | t+1=>(peopleT s vs t).set t (V2.of ((pAt s.people t).v.add (pAt vs t).v))
def stepped (w:Wk) (s:Ss) (us:List (List Q)) (ps:List Bool) (vs:List V2):Ss:=⟨s.tick+1,armsT w s us ps w.arms.length,partsT w s us ps w.arms.length,peopleT s vs vs.length,s.opens⟩
theorem armsT_len (w:Wk) (s:Ss) (us:List (List Q)) (ps:List Bool):∀ t,(armsT w s us ps t).length=s.arms.length
 | 0=>rfl
 | t+1=>by rw [armsT,List.length_set]; exact armsT_len w s us ps t
theorem partsT_len (w:Wk) (s:Ss) (us:List (List Q)) (ps:List Bool):∀ t,(partsT w s us ps t).length=s.parts.length
 | 0=>rfl
 | t+1=>by
  rw [partsT]
  split
  ·rw [List.length_set]; exact partsT_len w s us ps t
  ·exact partsT_len w s us ps t
theorem peopleT_len (s:Ss) (vs:List V2):∀ t,(peopleT s vs t).length=s.people.length
 | 0=>rfl
 | t+1=>by rw [peopleT,List.length_set]; exact peopleT_len s vs t
theorem peopleT_get (s:Ss) (vs:List V2):∀ t i,t≤i→(peopleT s vs t)[i]? = s.people[i]?
 | 0,i,_=>rfl
 | t+1,i,h=>by rw [peopleT,List.getElem?_set_ne (by omega)]; exact peopleT_get s vs t i (by omega)
theorem oneA_holds (a:Ar) (x:As) (u:List Q) (p:Bool):(oneA a x u p).holds=x.holds:=by
 rw [oneA]; split <;> rfl
structure StepOK (w:Wk) (s:Ss) (us:List (List Q)) (ps:List Bool) (vs:List V2):Prop where
 st:stateC w s=0
 brake:∀ (i:Nat) a x,w.arms[i]? = some a→s.arms[i]? = some x→BrakeOK a x.q x.v
 wish:∀ u∈us,(∀ y∈u,y.sz≤2^28)∧u.length<2^40
 tip:∀ (i:Nat) a,w.arms[i]? = some a→TipOK a (nA w s us ps i).q
 part:∀ p∈w.parts,p.grasp.le (2^20)
theorem all_take {α : Type} {P:α → Prop} {l:List α} {i:Nat} {y:α} (hI:∀ x∈l.take i,P x) (h:l[i]? = some y) (hy:P y):∀ x∈l.take (i+1),P x:=by
 rw [take_snoc h]; intro x hx
 rcases List.mem_append.1 hx with hx|hx
 ·exact hI x hx
 ·rw [List.mem_singleton.1 hx]; exact hy
theorem moveStep_ok (w : Wk) (hw : w.Le) (s : Ss) (hs : s.Le) (hf : s.Few) (us : List (List Q)) (ps : List Bool) (vs : List V2) (hul : us.length < 2 ^ 40) (hpl : ps.length < 2 ^ 40) (hvl : vs.length < 2 ^ 40) (hvz : ∀ v ∈ vs, v.sz ≤ 2 ^ 28) (hpz : ∀ v ∈ s.people, v.sz ≤ 2 ^ 28) (e : Int) (he : e = stepC w s us ps vs) (hK : e = 0 → StepOK w s us ps vs) (r : Ss) (hr : r = if e ≠ 0 then Ss.nil else stepped w s us ps vs) (eu ep ev : List (List AE.AV)) (heu : eu = lsAv wishC us) (hep : ep = lsAv boolC ps) (hev : ev = lsAv V2.c vs) : AE.ACallG GG Tryz.prog 30 [] [.a w.c, .a s.c, .l 1 eu, .l 1 ep, .l 6 ev] [] (.t [.a r.c, .v (.int .i64 e)]) := by
  obtain ⟨st, hst⟩ : ∃ e, e = stateC w s := ⟨_, rfl⟩
  have kC := worldCheck_ok w hw s hs st hst
  rw [stepC, ← hst] at he
  obtain ⟨na, hna⟩ : ∃ k : Int, k = (w.arms.length : Int) := ⟨_, rfl⟩
  obtain ⟨np, hnp⟩ : ∃ k : Int, k = (s.people.length : Int) := ⟨_, rfl⟩
  rw [← hna, ← hnp] at he
  have hwl := hw.narms
  have hwalk : w.walk.sz ≤ 2 ^ 28 := hw.walk
  obtain ⟨ex, hex⟩ : ∃ es, es = lsAv As.c s.arms := ⟨_, rfl⟩
  obtain ⟨ef, hef⟩ : ∃ es, es = lsAv Fr.c s.parts := ⟨_, rfl⟩
  obtain ⟨epl, hepl⟩ : ∃ es, es = lsAv V2.c s.people := ⟨_, rfl⟩
  obtain ⟨eo, heo⟩ : ∃ es, es = lsAv boolC s.opens := ⟨_, rfl⟩
  have kY := worldCopyO_ok s hf ex ef epl eo hex hef hepl heo
  obtain ⟨gX, hgX⟩ : ∃ g : Nat → List (List AE.AV), ∀ i, g i = lsAv As.c (armsT w s us ps i) := ⟨_, fun _ => rfl⟩
  obtain ⟨gF, hgF⟩ : ∃ g : Nat → List (List AE.AV), ∀ i, g i = lsAv Fr.c (partsT w s us ps i) := ⟨_, fun _ => rfl⟩
  obtain ⟨gP, hgP⟩ : ∃ g : Nat → List (List AE.AV), ∀ i, g i = lsAv V2.c (peopleT s vs i) := ⟨_, fun _ => rfl⟩
  have hX0 : ex = gX 0 := by rw [hgX, hex]; rfl
  have hF0 : ef = gF 0 := by rw [hgF, hef]; rfl
  have hP0 : epl = gP 0 := by rw [hgP, hepl]; rfl
  obtain ⟨rt, hrt⟩ : ∃ t, t = r.tick := ⟨_, rfl⟩
  obtain ⟨rx, hrx⟩ : ∃ es, es = lsAv As.c r.arms := ⟨_, rfl⟩
  obtain ⟨rf, hrf⟩ : ∃ es, es = lsAv Fr.c r.parts := ⟨_, rfl⟩
  obtain ⟨rv, hrv⟩ : ∃ es, es = lsAv V2.c r.people := ⟨_, rfl⟩
  obtain ⟨ro, hro⟩ : ∃ es, es = lsAv boolC r.opens := ⟨_, rfl⟩
  have hrb : e ≠ 0 → rt = 0 ∧ rx = [] ∧ rf = [] ∧ rv = [] ∧ ro = [] := fun h => by
    rw [if_pos h] at hr
    rw [hrt, hrx, hrf, hrv, hro, hr]; exact ⟨rfl, lsAv_nil _, lsAv_nil _, lsAv_nil _, lsAv_nil _⟩
  have hrc : e = 0 → rt = s.tick + 1 ∧ rx = gX w.arms.length ∧ rf = gF w.arms.length ∧ rv = gP vs.length ∧ ro = eo := fun h => by
    rw [if_neg (by rw [h]; decide)] at hr
    rw [hrt, hrx, hrf, hrv, hro, hr, hgX, hgF, hgP, heo]; exact ⟨rfl, rfl, rfl, rfl, rfl⟩
  have hin : e = 0 → (∀ (i : Nat) a, w.arms[i]? = some a → ∃ x u p y, s.arms[i]? = some x ∧ us[i]? = some u ∧ ps[i]? = some p ∧ y = nA w s us ps i ∧ AE.ACallG GG Tryz.prog 93 [] [.a a.c, .a x.c, .l 3 (lsAv Q.c u), .b p] [] (.t [.a y.c, .v (.int .i64 0)]) ∧ (0 ≤ y.holds → ∃ (j : Nat) (q : Pt) (f : Fr), y.holds = j ∧ w.parts[j]? = some q ∧ j < s.parts.length ∧ f = heldF a y.q q ∧ gF (i + 1) = (gF i).set j f.c ∧ AE.ACallG GG Tryz.prog 94 [] [.a w.c, .v (.int .i64 (i : Int)), .a y.c] [] (.t [.a f.c, .v (.int .i64 0)])) ∧ (y.holds < 0 → gF (i + 1) = gF i) ∧ gX (i + 1) = (gX i).set i y.c) ∧ vs.length = s.people.length ∧ 0 ≤ s.tick ∧ s.tick ≤ 2000 := fun h => by
    have K := hK h
    have e0 : st = 0 := by
      apply Classical.byContradiction; intro g
      rw [h, stepI, if_pos g] at he; omega
    rw [h, stepI, if_neg (fun g => g e0)] at he
    have e1 : us.length = w.arms.length ∧ ps.length = w.arms.length ∧ vs.length = s.people.length := by
      split at he
      · omega
      · omega
    obtain ⟨_, _, gx, gp, _, _, g7, g8⟩ := stateC_opens K.st
    refine ⟨fun i a ha => ?_, e1.2.2, g7, g8⟩
    have hi := (List.getElem?_eq_some_iff.1 ha).1
    have ga : arAt w (i : Int) = a := by rw [arAt, Int.toNat_natCast, List.getD_eq_getElem?_getD, ha]; rfl
    have hx : s.arms[i]? = some (asAt s i) := by rw [asAt, Int.toNat_natCast]; exact getD_some (by omega) _
    have hu : us[i]? = some (us.getD i []) := getD_some (by omega) _
    have hp : ps[i]? = some (ps.getD i false) := getD_some (by omega) _
    obtain ⟨z1, z2⟩ := K.wish _ (List.mem_of_getElem? hu)
    have one := oneC_zero (stateC_one K.st ha hx)
    have hh : (nA w s us ps i).holds = (asAt s i).holds := oneA_holds _ _ _ _
    refine ⟨_, _, _, _, hx, hu, hp, rfl, moveOne_ok a _ (K.brake i a _ ha hx) _ z1 z2 _ rfl _ _ (by rw [nA, ga]), fun g => ?_, fun g => ?_, ?_⟩
    · obtain ⟨j, hj⟩ : ∃ j : Nat, (nA w s us ps i).holds = j := ⟨_, (Int.toNat_of_nonneg g).symm⟩
      have hjl : j < w.parts.length := by omega
      have hq : w.parts[j]? = some (partAt w (nA w s us ps i).holds) := by rw [partAt, hj, Int.toNat_natCast]; exact getD_some hjl _
      refine ⟨j, _, _, hj, hq, by omega, rfl, ?_, moveCarried_ok w i i rfl a ha _ j hj _ hq (K.tip i a ha) (K.part _ (List.mem_of_getElem? hq)) _ rfl⟩
      rw [hgF, hgF, partsT, if_pos g, ga, lsAv_set, hj, Int.toNat_natCast]
    · rw [hgF, hgF, partsT, if_neg (by omega)]
    · rw [hgX, hgX, armsT, lsAv_set]
  have hrl : r.c = [.v (.int .i64 rt), .l 4 rx, .l 10 rf, .l 6 rv, .l 1 ro] := by rw [Ss.c, hrt, hrx, hrf, hrv, hro]
  rw [hrl]
  clear hrl
  have hxl : ∀ i, (gX i).length = s.arms.length := fun i => by rw [hgX, lsAv_len, armsT_len]
  have hfl : ∀ i, (gF i).length = s.parts.length := fun i => by rw [hgF, lsAv_len, partsT_len]
  have hpl' : ∀ i, (gP i).length = s.people.length := fun i => by rw [hgP, lsAv_len, peopleT_len]
  have hal : e = 0 → s.arms.length = w.arms.length := fun h => (stateC_opens (hK h).st).2.2.1
  have hP1 : ∀ (i : Nat) q v, s.people[i]? = some q → vs[i]? = some v → gP (i + 1) = (gP i).set i (V2.of (q.v.add v.v)).c := fun i q v hq hv => by
    rw [hgP, hgP, peopleT, lsAv_set]
    have e1 : pAt s.people i = q := by rw [pAt, List.getD_eq_getElem?_getD, hq]; rfl
    have e2 : pAt vs i = v := by rw [pAt, List.getD_eq_getElem?_getD, hv]; rfl
    rw [e1, e2]
  clear hr hrt hrx hrf hrv hro hs hf hK hst hw
  have hwk : ∀ v, walkOK w v ↔ v.x.Good ∧ v.y.Good ∧ absR v.x.v ≤ w.walk.v ∧ absR v.y.v ≤ w.walk.v := fun v => Iff.rfl
  obtain ⟨ok, hok⟩ : ∃ P : V2 → Prop, P = walkOK w := ⟨_, rfl⟩
  obtain ⟨bk, hbk⟩ : ∃ b, b = decide (∀ v ∈ vs, walkOK w v) := ⟨_, rfl⟩
  rw [← hbk] at he
  have hb2 : bk = true ↔ ∀ v ∈ vs, ok v := by rw [hbk, hok, decide_eq_true_iff]
  clear hbk
  rw [← hok] at hwk
  clear hok hgX hgF hgP
  obtain ⟨arms, walls, parts, slots, gates, walk⟩ := w
  obtain ⟨tick, xs, fs, pp, os⟩ := s
  simp only at hna hnp hwl hwalk hex hef hepl heo hrc hin hxl hfl hpl' hal hP1 hwk hpz
  obtain ⟨ea, hea⟩ : ∃ es, es = lsAv Ar.c arms := ⟨_, rfl⟩
  obtain ⟨ew, hew⟩ : ∃ es, es = lsAv wallC walls := ⟨_, rfl⟩
  obtain ⟨ept, hept⟩ : ∃ es, es = lsAv Pt.c parts := ⟨_, rfl⟩
  obtain ⟨es, hes⟩ : ∃ es, es = lsAv Sl.c slots := ⟨_, rfl⟩
  obtain ⟨eg, heg⟩ : ∃ es, es = lsAv Gt.c gates := ⟨_, rfl⟩
  simp only [Wk.c, Ss.c, ← hea, ← hew, ← hept, ← hes, ← heg, ← hex, ← hef, ← hepl, ← heo] at kC kY hin ⊢
  clear hew hept hes heg hef heo
  refine AE.ACallG.of_walk (fn := Tryz.f30) (c := bodyOf Tryz.f30) GG_stays tabOK Tryz.func30 rfl rfl mixed fun A hA X => ?_
  have c0 : A.cmp .neq 0 0 = false := by rw [AE.c_neq hA]; rfl
  have n1 : A.bnot true = false := by rw [AE.c_not hA]; rfl
  have n2 : A.bnot false = true := by rw [AE.c_not hA]; rfl
  have lu : A.llen eu = (us.length : Int) := by rw [llen hA, heu, lsAv_len]
  have lp : A.llen ep = (ps.length : Int) := by rw [llen hA, hep, lsAv_len]
  have lv : A.llen ev = (vs.length : Int) := by rw [llen hA, hev, lsAv_len]
  have la : A.llen ea = na := by rw [llen hA, hea, lsAv_len, hna]
  have lpp : A.llen epl = np := by rw [llen hA, hepl, lsAv_len, hnp]
  by_cases h0 : st = 0
  rotate_left
  · have e1 : e = st := by rw [he, stepI, if_pos h0]
    obtain ⟨q1, q2, q3, q4, q5⟩ := hrb (by rw [e1]; exact h0)
    have d0 : A.cmp .neq st 0 = true := by rw [AE.c_neq hA]; simpa using h0
    subst e1 q1 q2 q3 q4 q5
    clear hin hrc hrb kY he
    (repeat' (first | (refine X.g ?_; cbv) | refine X.splitT ?_ | refine X.splitF ?_ | refine X.sp (fun hc => ?_) (fun hc => ?_) | refine X.needT ?_ | refine X.callsGA [] kC ?_ | fail))
    all_goals (refine X.ret _ (X.done rfl ?_); cbv <;> (and_intros <;> first | rfl | trivial))
  subst h0
  rw [stepI, if_neg (fun h => h rfl)] at he
  by_cases h1 : (us.length : Int) ≠ na ∨ (ps.length : Int) ≠ na ∨ (vs.length : Int) ≠ np
  · rw [if_pos h1] at he
    obtain ⟨q1, q2, q3, q4, q5⟩ := hrb (by rw [he]; decide)
    subst he q1 q2 q3 q4 q5
    clear hin hrc hrb kY
    by_cases h2 : (us.length : Int) = na
    · have d1 : A.cmp .neq (A.llen eu) (A.llen ea) = false := by rw [AE.c_neq hA, lu, la, h2]; simp
      by_cases h3 : (ps.length : Int) = na
      · have d2 : A.cmp .neq (A.llen ep) (A.llen ea) = false := by rw [AE.c_neq hA, lp, la, h3]; simp
        have d3 : A.cmp .neq (A.llen ev) (A.llen epl) = true := by
          rw [AE.c_neq hA, lv, lpp, decide_eq_false (by rcases h1 with h | h | h; exact absurd h2 h; exact absurd h3 h; exact h)]; rfl
        clear lu lp lv la lpp
        (repeat' (first | (refine X.g ?_; cbv) | refine X.splitT ?_ | refine X.splitF ?_ | refine X.sp (fun hc => ?_) (fun hc => ?_) | refine X.needT ?_ | refine X.callsGA [] kC ?_ | fail))
        all_goals (refine X.ret _ (X.done rfl ?_); cbv <;> (and_intros <;> first | rfl | trivial))
      · have d2 : A.cmp .neq (A.llen ep) (A.llen ea) = true := by rw [AE.c_neq hA, lp, la, decide_eq_false h3]; rfl
        clear lu lp lv la lpp
        (repeat' (first | (refine X.g ?_; cbv) | refine X.splitT ?_ | refine X.splitF ?_ | refine X.sp (fun hc => ?_) (fun hc => ?_) | refine X.needT ?_ | refine X.callsGA [] kC ?_ | fail))
        all_goals (refine X.ret _ (X.done rfl ?_); cbv <;> (and_intros <;> first | rfl | trivial))
    · have d1 : A.cmp .neq (A.llen eu) (A.llen ea) = true := by rw [AE.c_neq hA, lu, la, decide_eq_false h2]; rfl
      clear lu lp lv la lpp
      (repeat' (first | (refine X.g ?_; cbv) | refine X.splitT ?_ | refine X.splitF ?_ | refine X.sp (fun hc => ?_) (fun hc => ?_) | refine X.needT ?_ | refine X.callsGA [] kC ?_ | fail))
      all_goals (refine X.ret _ (X.done rfl ?_); cbv <;> (and_intros <;> first | rfl | trivial))
  rw [if_neg h1] at he
  have d1 : A.cmp .neq (A.llen eu) (A.llen ea) = false := by rw [AE.c_neq hA, lu, la, Classical.not_not.1 fun h => h1 (.inl h)]; simp
  have d2 : A.cmp .neq (A.llen ep) (A.llen ea) = false := by rw [AE.c_neq hA, lp, la, Classical.not_not.1 fun h => h1 (.inr (.inl h))]; simp
  have d3 : A.cmp .neq (A.llen ev) (A.llen epl) = false := by rw [AE.c_neq hA, lv, lpp, Classical.not_not.1 fun h => h1 (.inr (.inr h))]; simp
  clear lu lp lv la lpp
  (repeat' (first | (refine X.g ?_; cbv) | refine X.splitT ?_ | refine X.splitF ?_ | refine X.sp (fun hc => ?_) (fun hc => ?_) | refine X.needT ?_ | refine X.callsGA [] kC ?_ | fail))
  refine X.loopG _ _ _ (X.frzB 0 _ _ (Nat.zero_le _) (X.frzB 1 _ _ (Nat.zero_le _) ?_))
  (refine X.g ?_; cbv)
  refine rangeL0 X hA hev (by omega) (fun i => ∀ v ∈ vs.take i, ok v) (fun z _ => [(54, .v (.int .i64 z))]) (fun v h => by simp at h) ?_ (fun i z y hz hy hye c9 hI B hB => ?_) (fun z c9 hI B => ?_)
  · (cbv <;> (and_intros <;> first | rfl | trivial))
  · have zy := hvz y (List.mem_of_getElem? hy)
    have hmem := List.mem_of_getElem? hy
    obtain ⟨yx, yy⟩ := y
    simp only [V2.sz] at zy
    obtain ⟨g1, hg1⟩ : ∃ b, b = decide yx.Good := ⟨_, rfl⟩
    obtain ⟨g2, hg2⟩ : ∃ b, b = decide yy.Good := ⟨_, rfl⟩
    obtain ⟨ax, hax⟩ : ∃ q, q = Q.of (absR yx.v) := ⟨_, rfl⟩
    obtain ⟨ay, hay⟩ : ∃ q, q = Q.of (absR yy.v) := ⟨_, rfl⟩
    obtain ⟨c1, hc1⟩ : ∃ c, c = cmpR ax.v walk.v := ⟨_, rfl⟩
    obtain ⟨c2, hc2⟩ : ∃ c, c = cmpR ay.v walk.v := ⟨_, rfl⟩
    have k1 := good_ok yx (by omega) g1 hg1
    have k2 := good_ok yy (by omega) g2 hg2
    have k3 := ratAbs_ok yx (by omega) ax hax
    have k4 := ratAbs_ok yy (by omega) ay hay
    have k5 := ratCmp_ok ax walk (by rw [hax, sz_of, rs_abs]; have := yx.rs; omega) (by omega) c1 hc1
    have k6 := ratCmp_ok ay walk (by rw [hay, sz_of, rs_abs]; have := yy.rs; omega) (by omega) c2 hc2
    have t1 : c1 ≤ 0 ↔ absR yx.v ≤ walk.v := by rw [hc1, cmpR_le, hax, Q.v_of]
    have t2 : c2 ≤ 0 ↔ absR yy.v ≤ walk.v := by rw [hc2, cmpR_le, hay, Q.v_of]
    have hok : ok ⟨yx, yy⟩ ↔ g1 = true ∧ g2 = true ∧ c1 ≤ 0 ∧ c2 ≤ 0 := by
      rw [hwk, t1, t2, hg1, hg2, decide_eq_true_iff, decide_eq_true_iff]
    clear hax hay hc1 hc2 t1 t2 hg1 hg2 kC kY hin hrc hwk
    by_cases hk : ok ⟨yx, yy⟩
    · obtain ⟨u1, u2, u3, u4⟩ := hok.1 hk
      subst u1 u2
      have f1 : A.cmp .gtr c1 0 = false := by rw [AE.c_gtr hA]; exact decide_eq_false (by omega)
      have f2 : A.cmp .gtr c2 0 = false := by rw [AE.c_gtr hA]; exact decide_eq_false (by omega)
      have hI' := all_take hI hy hk
      (repeat' (first | (refine X.g ?_; cbv) | refine X.splitT ?_ | refine X.splitF ?_ | refine X.sp (fun hc => ?_) (fun hc => ?_) | refine X.needT ?_ | refine X.idx _ _ _ _ _ _ _ _ hye hz ?_ | refine X.drawX _ _ _ (by kernel_rfl) (X.frzB 3 _ _ (Nat.zero_le _) ?_) | refine X.fork _ _ ?_ ?_ | refine X.callsGA [] k1 ?_ | refine X.callsGA [] k2 ?_ | refine X.callsGA [] k3 ?_ | refine X.callsGA [] k4 ?_ | refine X.callsGA [] k5 ?_ | refine X.callsGA [] k6 ?_ | fail))
      all_goals (refine hB hI' _ ?_; clear hB; (cbv <;> (and_intros <;> first | rfl | trivial)))
    · have e0 : bk = false := by
        cases bk
        · rfl
        · exact absurd (hb2.1 rfl _ hmem) hk
      rw [if_pos e0] at he
      obtain ⟨q1, q2, q3, q4, q5⟩ := hrb (by rw [he]; decide)
      subst he q1 q2 q3 q4 q5
      clear hB hrb
      cases g1
      · (repeat' (first | (refine X.g ?_; cbv) | refine X.splitT ?_ | refine X.splitF ?_ | refine X.sp (fun hc => ?_) (fun hc => ?_) | refine X.needT ?_ | refine X.idx _ _ _ _ _ _ _ _ hye hz ?_ | refine X.drawX _ _ _ (by kernel_rfl) (X.frzB 3 _ _ (Nat.zero_le _) ?_) | refine X.fork _ _ ?_ ?_ | refine X.callsGA [] k1 ?_ | fail))
        all_goals (refine X.ret _ (X.done rfl ?_); cbv <;> (and_intros <;> first | rfl | trivial))
      cases g2
      · (repeat' (first | (refine X.g ?_; cbv) | refine X.splitT ?_ | refine X.splitF ?_ | refine X.sp (fun hc => ?_) (fun hc => ?_) | refine X.needT ?_ | refine X.idx _ _ _ _ _ _ _ _ hye hz ?_ | refine X.drawX _ _ _ (by kernel_rfl) (X.frzB 3 _ _ (Nat.zero_le _) ?_) | refine X.fork _ _ ?_ ?_ | refine X.callsGA [] k1 ?_ | refine X.callsGA [] k2 ?_ | fail))
        all_goals (refine X.ret _ (X.done rfl ?_); cbv <;> (and_intros <;> first | rfl | trivial))
      by_cases h3 : c1 ≤ 0
      · have f1 : A.cmp .gtr c1 0 = false := by rw [AE.c_gtr hA]; exact decide_eq_false (by omega)
        have f2 : A.cmp .gtr c2 0 = true := by rw [AE.c_gtr hA]; exact decide_eq_true (by have h4 : ¬ c2 ≤ 0 := fun h => hk (hok.2 ⟨rfl, rfl, h3, h⟩)
                                                                                          omega)
        (repeat' (first | (refine X.g ?_; cbv) | refine X.splitT ?_ | refine X.splitF ?_ | refine X.sp (fun hc => ?_) (fun hc => ?_) | refine X.needT ?_ | refine X.idx _ _ _ _ _ _ _ _ hye hz ?_ | refine X.drawX _ _ _ (by kernel_rfl) (X.frzB 3 _ _ (Nat.zero_le _) ?_) | refine X.fork _ _ ?_ ?_ | refine X.callsGA [] k1 ?_ | refine X.callsGA [] k2 ?_ | refine X.callsGA [] k3 ?_ | refine X.callsGA [] k4 ?_ | refine X.callsGA [] k5 ?_ | refine X.callsGA [] k6 ?_ | fail))
        all_goals (refine X.ret _ (X.done rfl ?_); cbv <;> (and_intros <;> first | rfl | trivial))
      · have f1 : A.cmp .gtr c1 0 = true := by rw [AE.c_gtr hA]; exact decide_eq_true (by omega)
        (repeat' (first | (refine X.g ?_; cbv) | refine X.splitT ?_ | refine X.splitF ?_ | refine X.sp (fun hc => ?_) (fun hc => ?_) | refine X.needT ?_ | refine X.idx _ _ _ _ _ _ _ _ hye hz ?_ | refine X.drawX _ _ _ (by kernel_rfl) (X.frzB 3 _ _ (Nat.zero_le _) ?_) | refine X.fork _ _ ?_ ?_ | refine X.callsGA [] k1 ?_ | refine X.callsGA [] k2 ?_ | refine X.callsGA [] k3 ?_ | refine X.callsGA [] k5 ?_ | fail))
        all_goals (refine X.ret _ (X.done rfl ?_); cbv <;> (and_intros <;> first | rfl | trivial))
  rw [List.take_length] at hI
  rw [if_neg (fun h => by rw [hb2.2 hI] at h; cases h)] at he
  clear kC hb2 hwk hI
  by_cases ht : tick = 2000
  · rw [if_pos ht] at he
    obtain ⟨q1, q2, q3, q4, q5⟩ := hrb (by rw [he]; decide)
    have d4 : A.cmp .eql tick 2000 = true := by rw [AE.c_eql hA]; exact decide_eq_true ht
    subst he q1 q2 q3 q4 q5
    clear hin hrc hrb kY
    (repeat' (first | (refine X.g ?_; cbv) | refine X.splitT ?_ | refine X.splitF ?_ | refine X.sp (fun hc => ?_) (fun hc => ?_) | refine X.needT ?_ | fail))
    all_goals (refine X.ret _ (X.done rfl ?_); cbv <;> (and_intros <;> first | rfl | trivial))
  rw [if_neg ht] at he
  have d4 : A.cmp .eql tick 2000 = false := by rw [AE.c_eql hA]; exact decide_eq_false ht
  obtain ⟨hin2, hlv, ht0, ht1⟩ := hin he
  have hal2 := hal he
  clear hin hal
  obtain ⟨q1, q2, q3, q4, q5⟩ := hrc he
  have htk : A.bin .add .i64 tick 1 = rt := by
    rw [q1]
    obtain ⟨k, hk⟩ : ∃ k : Nat, tick = k := ⟨tick.toNat, by omega⟩
    rw [addI hA hk (y := 1) (b := 1) rfl (by omega), hk]; rfl
  subst he q2 q3 q4 q5
  clear hrc hrb q1
  (repeat' (first | (refine X.g ?_; cbv) | refine X.splitT ?_ | refine X.splitF ?_ | refine X.sp (fun hc => ?_) (fun hc => ?_) | refine X.needT ?_ | refine X.callsA [] kY ?_ | fail))
  refine rangeLS X hA hea (by omega) (fun _ => True) (fun z _ => [(101, .v (.int .i64 z))]) (fun i o => (o.set 9 (.row 76 4 (gX i))).set 5 (.row 66 10 (gF i))) trivial ?_ (fun i z y hz hy hye c10 hI B hB => ?_) (fun z c10 hI B => ?_)
  · clear kY hin2
    (cbv <;> (and_intros <;> first | exact hX0 | exact hF0 | rfl | trivial))
  · obtain ⟨x, u, p, n, hx, hu, hp, hn, kO, kH, kN, hX1⟩ := hin2 i y hy
    clear hin2 kY hn
    have hi := (List.getElem?_eq_some_iff.1 hy).1
    have hxe : ex[i]? = some x.c := by rw [hex]; exact lsAv_get hx
    have hue : eu[i]? = some [.l 3 (lsAv Q.c u)] := by rw [heu]; exact lsAv_get hu
    have hpe : ep[i]? = some [.b p] := by rw [hep]; exact lsAv_get hp
    obtain ⟨euu, heuu⟩ : ∃ es, es = lsAv Q.c u := ⟨_, rfl⟩
    rw [← heuu] at hue kO
    obtain ⟨xq, xv, xp, xh⟩ := x
    obtain ⟨nq, nv, npw, nh⟩ := n
    obtain ⟨exq, hexq⟩ : ∃ es, es = lsAv Q.c xq := ⟨_, rfl⟩
    obtain ⟨exv, hexv⟩ : ∃ es, es = lsAv Q.c xv := ⟨_, rfl⟩
    obtain ⟨enq, henq⟩ : ∃ es, es = lsAv Q.c nq := ⟨_, rfl⟩
    obtain ⟨env, henv⟩ : ∃ es, es = lsAv Q.c nv := ⟨_, rfl⟩
    simp only [As.c, ← hexq, ← hexv] at hxe kO
    simp only [As.c, ← henq, ← henv] at kO kH kN hX1
    clear hexq hexv henq henv heuu
    have atX : AE.AtR i (gX i) := ⟨by rw [hxl]; omega⟩
    have hsX : A.lset (gX i) i [.l 3 enq, .l 3 env, .b npw, .v (.int .i64 nh)] = gX (i + 1) := by rw [lset_std hA, hX1]
    have hsX2 := hsX
    cbv at hsX2
    (repeat' (first | (refine X.g ?_; cbv) | refine X.splitT ?_ | refine X.splitF ?_ | refine X.sp (fun hc => ?_) (fun hc => ?_) | refine X.needT ?_ | refine X.idx _ _ _ _ _ _ _ _ hye hz ?_ | fail))
    apply shareG X
    · intro hs
      refine X.drawX _ _ _ (by kernel_rfl) (X.frzB 11 _ _ (Nat.zero_le _) ?_)
      (repeat' (first | (refine X.g ?_; cbv) | refine X.splitT ?_ | refine X.splitF ?_ | refine X.sp (fun hc => ?_) (fun hc => ?_) | refine X.needT ?_ | refine X.fork _ _ ?_ ?_ | refine X.idx _ _ _ _ _ _ _ _ hxe hz ?_ | refine X.idx _ _ _ _ _ _ _ _ hue hz ?_ | refine X.idx _ _ _ _ _ _ _ _ hpe hz ?_ | refine X.callsGA [] kO ?_ | fail))
      all_goals exact hs
    by_cases hh : 0 ≤ nh
    · obtain ⟨j, q, f, hj, hq, hjl, hf, hF1, kcar⟩ := kH hh
      clear kH kN hf hX1
      rw [← hz] at kcar
      have atF : AE.AtR j (gF i) := ⟨by rw [hfl]; omega⟩
      have f1 : A.cmp .geq nh 0 = true := by rw [AE.c_geq hA]; exact decide_eq_true hh
      obtain ⟨⟨fx, fy⟩, fh, ft⟩ := f
      have hsF : A.lset (gF i) j (Fr.c ⟨⟨fx, fy⟩, fh, ft⟩) = gF (i + 1) := by rw [lset_std hA, hF1]
      have hsF2 := hsF
      cbv at hsF2
      (repeat' (first | (refine X.g ?_; cbv) | refine X.splitT ?_ | refine X.splitF ?_ | refine X.sp (fun hc => ?_) (fun hc => ?_) | refine X.needT ?_ | refine X.idxA i atX hz ?_ | refine X.need _ _ _ atX ?_ | fail))
      refine X.drawX _ _ _ (by kernel_rfl) (X.frzB 12 _ _ (Nat.zero_le _) ?_)
      (repeat' (first | (refine X.g ?_; cbv) | refine X.splitT ?_ | refine X.splitF ?_ | refine X.sp (fun hc => ?_) (fun hc => ?_) | refine X.needT ?_ | refine X.fork _ _ ?_ ?_ | refine X.callsGA [] kcar ?_ | refine X.idxA j atF hj ?_ | refine X.need _ _ _ atF ?_ | fail))
      all_goals (refine hB trivial _ ?_; clear hB; (cbv <;> (and_intros <;> first | exact hsX | exact hsX2 | exact hsF | exact hsF2 | rfl | trivial)))
    · have hF1 := kN (by omega)
      clear kH kN hX1
      have f1 : A.cmp .geq nh 0 = false := by rw [AE.c_geq hA]; exact decide_eq_false hh
      (repeat' (first | (refine X.g ?_; cbv) | refine X.splitT ?_ | refine X.splitF ?_ | refine X.sp (fun hc => ?_) (fun hc => ?_) | refine X.needT ?_ | refine X.idxA i atX hz ?_ | refine X.need _ _ _ atX ?_ | fail))
      all_goals (refine hB trivial _ ?_; clear hB; (cbv <;> (and_intros <;> first | exact hsX | exact hsX2 | exact hF1.symm | rfl | trivial)))
  clear kY hin2
  (repeat' (first | (refine X.g ?_; cbv) | refine X.splitT ?_ | refine X.splitF ?_ | refine X.sp (fun hc => ?_) (fun hc => ?_) | refine X.needT ?_ | fail))
  refine rangeLS X hA hev (by omega) (fun _ => True) (fun z _ => [(155, .v (.int .i64 z))]) (fun i o => o.set 6 (.row 44 6 (gP i))) trivial ?_ (fun i z y hz hy hye c11 hI B hB => ?_) (fun z c11 hI B => ?_)
  · (cbv <;> (and_intros <;> first | exact hP0 | rfl | trivial))
  · have hi := (List.getElem?_eq_some_iff.1 hy).1
    obtain ⟨q, hq⟩ : ∃ q, pp[i]? = some q := ⟨_, List.getElem?_eq_getElem (by omega)⟩
    have zy := hvz y (List.mem_of_getElem? hy)
    have zq := hpz q (List.mem_of_getElem? hq)
    obtain ⟨n, hn⟩ : ∃ n, n = V2.of (q.v.add y.v) := ⟨_, rfl⟩
    have kA := vecAdd_ok q y (by omega) (by omega) n hn
    have hP := hP1 i q y hq hy
    rw [← hn] at hP
    have hqe : epl[i]? = some q.c := by rw [hepl]; exact lsAv_get hq
    have atP : AE.AtR i (gP i) := ⟨by rw [hpl']; omega⟩
    clear hn
    obtain ⟨n1, n2⟩ := n
    have hsP : A.lset (gP i) i (V2.c ⟨n1, n2⟩) = gP (i + 1) := by rw [lset_std hA, hP]
    have hsP2 := hsP
    cbv at hsP2
    (repeat' (first | (refine X.g ?_; cbv) | refine X.splitT ?_ | refine X.splitF ?_ | refine X.sp (fun hc => ?_) (fun hc => ?_) | refine X.needT ?_ | refine X.idx _ _ _ _ _ _ _ _ hye hz ?_ | fail))
    refine X.drawX _ _ _ (by kernel_rfl) (X.frzB 11 _ _ (Nat.zero_le _) ?_)
    (repeat' (first | (refine X.g ?_; cbv) | refine X.splitT ?_ | refine X.splitF ?_ | refine X.sp (fun hc => ?_) (fun hc => ?_) | refine X.needT ?_ | refine X.fork _ _ ?_ ?_ | refine X.idx _ _ _ _ _ _ _ _ hqe hz ?_ | refine X.callsGA [] kA ?_ | refine X.idxA i atP hz ?_ | refine X.need _ _ _ atP ?_ | fail))
    all_goals (refine hB trivial _ ?_; clear hB; (cbv <;> (and_intros <;> first | exact hsP | exact hsP2 | rfl | trivial)))
  (repeat' (first | (refine X.g ?_; cbv) | refine X.splitT ?_ | refine X.splitF ?_ | refine X.sp (fun hc => ?_) (fun hc => ?_) | refine X.needT ?_ | fail))
  all_goals (refine X.ret _ ?_; refine X.frz 5 _ _ ?_; refine X.frz 6 _ _ ?_; refine X.frz 7 _ _ ?_; refine X.frz 9 _ _ ?_; refine X.done rfl ?_; cbv <;> (and_intros <;> first | exact htk | rfl | trivial))
end Go.Proofs.YthadehkggddgoaaGreatDoor
