/- Contracts: slices.Clone and world.Copy, of which what they return is the caller's own; move.Open, move.Enter. -/
import Derived.Test.YthadehkggddgoaaGreatDoorZWorld
set_option maxRecDepth 100000
set_option maxHeartbeats 0
set_option linter.unusedVariables false
set_option linter.unusedSimpArgs false
namespace Go.Proofs.YthadehkggddgoaaGreatDoor
open Go Go.Num
theorem cloneBoolO_ok (es : List (List AE.AV)) (hl : es.length ≤ 2 ^ 30) : AE.ACall Tryz.prog 60 [] [.l 1 es] [.row 4 1 es] (.r 0) := by
  refine AE.ACall.of_walk (fn := Tryz.f60) (c := bodyOf Tryz.f60) tabOK Tryz.func60 rfl rfl mixed fun A hA X => ?_
  have hg := grow0 hA hl (b := 1) (by decide) (by decide)
  have e1 : A.lapp [] es = es := by subst hA; rfl
  (refine X.g ?_; cbv)
  refine X.coin _ _ _ _ _ (fun b hb => ?_)
  cases b
  · (repeat' (first | (refine X.g ?_; cbv) | refine X.splitT ?_ | refine X.splitF ?_ | refine X.sp (fun hc => ?_) (fun hc => ?_) | refine X.needT ?_ | refine X.need _ _ _ hg ?_ | fail))
    all_goals (refine X.ret _ (X.done rfl ?_); cbv <;> (and_intros <;> first | exact e1 | rfl | trivial))
  · have e2 := hb rfl
    (repeat' (first | (refine X.g ?_; cbv) | refine X.splitT ?_ | refine X.splitF ?_ | refine X.sp (fun hc => ?_) (fun hc => ?_) | refine X.needT ?_ | fail))
    all_goals (refine X.ret _ (X.nilT 2 4 1 _ _ (X.done rfl ?_)); cbv <;> (and_intros <;> first | exact e2.symm | exact e2 | rfl | trivial))
theorem cloneVecO_ok (es : List (List AE.AV)) (hl : es.length ≤ 2 ^ 30) : AE.ACall Tryz.prog 63 [] [.l 6 es] [.row 44 6 es] (.r 0) := by
  refine AE.ACall.of_walk (fn := Tryz.f63) (c := bodyOf Tryz.f63) tabOK Tryz.func63 rfl rfl mixed fun A hA X => ?_
  have hg := grow0 hA hl (b := 80) (by decide) (by decide)
  have e1 : A.lapp [] es = es := by subst hA; rfl
  (refine X.g ?_; cbv)
  refine X.coin _ _ _ _ _ (fun b hb => ?_)
  cases b
  · (repeat' (first | (refine X.g ?_; cbv) | refine X.splitT ?_ | refine X.splitF ?_ | refine X.sp (fun hc => ?_) (fun hc => ?_) | refine X.needT ?_ | refine X.need _ _ _ hg ?_ | fail))
    all_goals (refine X.ret _ (X.done rfl ?_); cbv <;> (and_intros <;> first | exact e1 | rfl | trivial))
  · have e2 := hb rfl
    (repeat' (first | (refine X.g ?_; cbv) | refine X.splitT ?_ | refine X.splitF ?_ | refine X.sp (fun hc => ?_) (fun hc => ?_) | refine X.needT ?_ | fail))
    all_goals (refine X.ret _ (X.nilT 2 44 6 _ _ (X.done rfl ?_)); cbv <;> (and_intros <;> first | exact e2.symm | exact e2 | rfl | trivial))
theorem cloneFrameO_ok (es : List (List AE.AV)) (hl : es.length ≤ 2 ^ 30) : AE.ACall Tryz.prog 79 [] [.l 10 es] [.row 66 10 es] (.r 0) := by
  refine AE.ACall.of_walk (fn := Tryz.f79) (c := bodyOf Tryz.f79) tabOK Tryz.func79 rfl rfl mixed fun A hA X => ?_
  have hg := grow0 hA hl (b := 128) (by decide) (by decide)
  have e1 : A.lapp [] es = es := by subst hA; rfl
  (refine X.g ?_; cbv)
  refine X.coin _ _ _ _ _ (fun b hb => ?_)
  cases b
  · (repeat' (first | (refine X.g ?_; cbv) | refine X.splitT ?_ | refine X.splitF ?_ | refine X.sp (fun hc => ?_) (fun hc => ?_) | refine X.needT ?_ | refine X.need _ _ _ hg ?_ | fail))
    all_goals (refine X.ret _ (X.done rfl ?_); cbv <;> (and_intros <;> first | exact e1 | rfl | trivial))
  · have e2 := hb rfl
    (repeat' (first | (refine X.g ?_; cbv) | refine X.splitT ?_ | refine X.splitF ?_ | refine X.sp (fun hc => ?_) (fun hc => ?_) | refine X.needT ?_ | fail))
    all_goals (refine X.ret _ (X.nilT 2 66 10 _ _ (X.done rfl ?_)); cbv <;> (and_intros <;> first | exact e2.symm | exact e2 | rfl | trivial))
structure Ss.Few (s : Ss) : Prop where
  arms : s.arms.length ≤ 2 ^ 30 ∧ ∀ x ∈ s.arms, x.q.length ≤ 2 ^ 30 ∧ x.v.length ≤ 2 ^ 30
  parts : s.parts.length ≤ 2 ^ 30
  people : s.people.length ≤ 2 ^ 30
  opens : s.opens.length ≤ 2 ^ 30
theorem worldCopyO_ok (s : Ss) (hs : s.Few) (ex ef ev eo : List (List AE.AV)) (hex : ex = lsAv As.c s.arms) (hef : ef = lsAv Fr.c s.parts) (hev : ev = lsAv V2.c s.people) (heo : eo = lsAv boolC s.opens) : AE.ACall Tryz.prog 25 [] [.a [.v (.int .i64 s.tick), .l 4 ex, .l 10 ef, .l 6 ev, .l 1 eo]] [.dead, .box [.any, .any, .any, .any, .any] 37, .row 66 10 ef, .row 44 6 ev, .row 4 1 eo, .box [.any, .any, .any, .any, .any] 37, .row 76 4 ex] (.a [.v (.int .i64 s.tick), .r 6, .r 2, .r 3, .r 4]) := by
  obtain ⟨⟨f1, f2⟩, f3, f4, f5⟩ := hs
  obtain ⟨tick, xs, fs, ps, os⟩ := s
  simp only at f1 f2 f3 f4 f5 hex hef hev heo
  have k1 := cloneFrameO_ok ef (by rw [hef, lsAv_len]; exact f3)
  have k2 := cloneVecO_ok ev (by rw [hev, lsAv_len]; exact f4)
  have k3 := cloneBoolO_ok eo (by rw [heo, lsAv_len]; exact f5)
  refine AE.ACall.of_walk (fn := Tryz.f25) (c := bodyOf Tryz.f25) tabOK Tryz.func25 rfl rfl mixed fun A hA X => ?_
  obtain ⟨gX, hgX⟩ : ∃ g : Nat → List (List AE.AV), ∀ i, g i = lsAv As.c (xs.take i) := ⟨_, fun _ => rfl⟩
  (refine X.g ?_; cbv)
  apply shareG X
  · intro hs
    refine X.drawX _ _ _ (by kernel_rfl) (X.frzB 0 _ _ (Nat.zero_le _) ?_)
    (repeat' (first | (refine X.g ?_; cbv) | refine X.splitT ?_ | refine X.splitF ?_ | refine X.sp (fun hc => ?_) (fun hc => ?_) | refine X.needT ?_ | refine X.fork _ _ ?_ ?_ | refine X.callsA [] k1 ?_ | refine X.callsA [] k2 ?_ | refine X.callsA [] k3 ?_ | fail))
    all_goals first | (refine X.loopG _ _ _ (X.perm [0, 1, 2, 3, 4, 5] [5] _ _ rfl ?_); (refine X.g ?_; cbv); exact hs) | (refine X.loopG _ _ _ (X.perm [0, 1, 2, 3, 5, 4] [5] _ _ rfl ?_); (refine X.g ?_; cbv); exact hs) | (refine X.loopG _ _ _ (X.perm [0, 1, 2, 4, 5, 3] [5] _ _ rfl ?_); (refine X.g ?_; cbv); exact hs) | (refine X.loopG _ _ _ (X.perm [0, 1, 3, 4, 5, 2] [5] _ _ rfl ?_); (refine X.g ?_; cbv); exact hs)
  refine X.loopG _ _ _ (X.nilB 5 1 76 4 _ _ ?_)
  (refine X.g ?_; cbv)
  refine rangeLS X hA hex (by omega) (fun _ => True) (fun z _ => [(21, .v (.int .i64 z))]) (fun i o => o.set 6 (.row 76 4 (gX i))) trivial ?_ (fun i z y hz hy hye c3 hI B hB => ?_) (fun z c3 hI B => ?_)
  · have h0 : [] = gX 0 := by rw [hgX]; exact (lsAv_nil _).symm
    (cbv <;> (and_intros <;> first | exact h0 | rfl | trivial))
  · obtain ⟨g1, g2⟩ := f2 y (List.mem_of_getElem? hy)
    have e1 := lapp_take hA hy (hgX i) (hgX (i + 1))
    obtain ⟨q, v, power, holds⟩ := y
    simp only at g1 g2
    obtain ⟨eq, heq⟩ : ∃ es, es = lsAv Q.c q := ⟨_, rfl⟩
    obtain ⟨ew, hew⟩ : ∃ es, es = lsAv Q.c v := ⟨_, rfl⟩
    simp only [As.c, ← heq, ← hew] at hye e1
    have k4 := cloneRat_ok eq (by rw [heq, lsAv_len]; exact g1)
    have k5 := cloneRat_ok ew (by rw [hew, lsAv_len]; exact g2)
    have hgrow : ∀ c, AE.GrowR (A.llen (gX i)) (A.llen [c]) 64 := fun c => grow1 hA (n := 2 ^ 30) (by rw [hgX]; exact Nat.le_trans (take_len _ _ _) f1) (by decide) (by decide)
    clear k1 k2 k3
    (repeat' (first | (refine X.g ?_; cbv) | refine X.splitT ?_ | refine X.splitF ?_ | refine X.sp (fun hc => ?_) (fun hc => ?_) | refine X.needT ?_ | refine X.idx _ _ _ _ _ _ _ _ hye hz ?_ | fail))
    apply shareG X
    · intro hs
      refine X.drawX _ _ _ (by kernel_rfl) ?_
      (repeat' (first | (refine X.g ?_; cbv) | refine X.splitT ?_ | refine X.splitF ?_ | refine X.sp (fun hc => ?_) (fun hc => ?_) | refine X.needT ?_ | refine X.fork _ _ ?_ ?_ | refine X.callsA [] k4 ?_ | refine X.callsA [] k5 ?_ | fail))
      all_goals exact hs
    (repeat' (first | (refine X.g ?_; cbv) | refine X.splitT ?_ | refine X.splitF ?_ | refine X.sp (fun hc => ?_) (fun hc => ?_) | refine X.needT ?_ | refine X.need _ _ _ (hgrow _) ?_ | fail))
    all_goals (refine hB trivial _ ?_; clear hB; (cbv <;> (and_intros <;> first | exact e1 | rfl | trivial)))
  · have r1 : gX xs.length = ex := by rw [hgX, List.take_length, hex]
    (repeat' (first | (refine X.g ?_; cbv) | refine X.splitT ?_ | refine X.splitF ?_ | refine X.sp (fun hc => ?_) (fun hc => ?_) | refine X.needT ?_ | fail))
    all_goals (refine X.ret _ (X.done rfl ?_); cbv <;> (and_intros <;> first | exact r1 | rfl | trivial))
def Ss.opened (s : Ss) (i : Nat) (b : Bool) : Ss := { s with opens := s.opens.set i b }
def gateQ (st g ng : Int) : Int := if st ≠ 0 then st else if g < 0 ∨ ng ≤ g then 1 else 0
theorem lset_std {A : AE.Ari} (hA : A = AE.std) (es : List (List AE.AV)) (i : Nat) (c : List AE.AV) : A.lset es i c = es.set i c := by subst hA; rfl
theorem moveOpen_ok (w : Wk) (hw : w.Le) (s : Ss) (hs : s.Le) (hf : s.Few) (g : Int) (is : Bool) (r : Ss) (e : Int) (he : e = gateQ (stateC w s) g w.gates.length) (hr : r = if e ≠ 0 then Ss.nil else s.opened g.toNat is) : AE.ACallG GG Tryz.prog 14 [] [.a w.c, .a s.c, .v (.int .i64 g), .b is] [] (.t [.a r.c, .v (.int .i64 e)]) := by
  refine AE.ACallG.of_walk (fn := Tryz.f14) (c := bodyOf Tryz.f14) GG_stays tabOK Tryz.func14 rfl rfl mixed fun A hA X => ?_
  obtain ⟨st, hst⟩ : ∃ e, e = stateC w s := ⟨_, rfl⟩
  have k1 := worldCheck_ok w hw s hs st hst
  rw [← hst] at he
  obtain ⟨ng, hng⟩ : ∃ n, n = w.gates.length := ⟨_, rfl⟩
  rw [← hng] at he
  have hog : st = 0 → s.opens.length = ng := fun h => by
    rw [h] at hst
    rw [stateC, stateI] at hst
    split at hst
    · omega
    · split at hst
      · omega
      · split at hst
        · omega
        · omega
  clear hst
  obtain ⟨ex, hex⟩ : ∃ es, es = lsAv As.c s.arms := ⟨_, rfl⟩
  obtain ⟨ef, hef⟩ : ∃ es, es = lsAv Fr.c s.parts := ⟨_, rfl⟩
  obtain ⟨ev, hev⟩ : ∃ es, es = lsAv V2.c s.people := ⟨_, rfl⟩
  obtain ⟨eo, heo⟩ : ∃ es, es = lsAv boolC s.opens := ⟨_, rfl⟩
  have k2 := worldCopyO_ok s hf ex ef ev eo hex hef hev heo
  obtain ⟨arms, walls, parts, slots, gates, walk⟩ := w
  obtain ⟨tick, xs, fs, ps, os⟩ := s
  simp only at hng hex hef hev heo hog
  obtain ⟨ea, hea⟩ : ∃ es, es = lsAv Ar.c arms := ⟨_, rfl⟩
  obtain ⟨ew, hew⟩ : ∃ es, es = lsAv wallC walls := ⟨_, rfl⟩
  obtain ⟨ep, hep⟩ : ∃ es, es = lsAv Pt.c parts := ⟨_, rfl⟩
  obtain ⟨es, hes⟩ : ∃ es, es = lsAv Sl.c slots := ⟨_, rfl⟩
  obtain ⟨eg, heg⟩ : ∃ es, es = lsAv Gt.c gates := ⟨_, rfl⟩
  have lg : A.llen eg = (ng : Int) := by rw [llen hA, heg, lsAv_len, hng]
  simp only [Wk.c, Ss.c, ← hea, ← hew, ← hep, ← hes, ← heg, ← hex, ← hef, ← hev, ← heo] at k1 k2 ⊢
  by_cases h0 : st = 0
  · have c0 : A.cmp .neq st 0 = false := by rw [AE.c_neq hA, h0]; rfl
    by_cases h1 : g < 0
    · have c1 : A.cmp .lss g 0 = true := by rw [AE.c_lss hA]; exact decide_eq_true h1
      have he1 : e = 1 := by rw [he, gateQ, if_neg (by omega), if_pos (.inl h1)]
      have hr1 : r = Ss.nil := by rw [hr, if_pos (by omega)]
      subst hr1
      simp only [Ss.c, Ss.nil, lsAv_nil]
      (repeat' (first | (refine X.g ?_; cbv) | refine X.splitT ?_ | refine X.splitF ?_ | refine X.sp (fun hc => ?_) (fun hc => ?_) | refine X.needT ?_ | refine X.callsGA [] k1 ?_ | fail))
      all_goals (refine X.ret _ (X.done rfl ?_); cbv <;> (and_intros <;> first | exact he1.symm | exact lsAv_nil _ | rfl | trivial))
    · have c1 : A.cmp .lss g 0 = false := by rw [AE.c_lss hA]; exact decide_eq_false h1
      by_cases h2 : (ng : Int) ≤ g
      · have c2 : A.cmp .geq g (A.llen eg) = true := by rw [AE.c_geq hA, lg]; exact decide_eq_true h2
        have he1 : e = 1 := by rw [he, gateQ, if_neg (by omega), if_pos (.inr h2)]
        have hr1 : r = Ss.nil := by rw [hr, if_pos (by omega)]
        subst hr1
        simp only [Ss.c, Ss.nil, lsAv_nil]
        (repeat' (first | (refine X.g ?_; cbv) | refine X.splitT ?_ | refine X.splitF ?_ | refine X.sp (fun hc => ?_) (fun hc => ?_) | refine X.needT ?_ | refine X.callsGA [] k1 ?_ | fail))
        all_goals (refine X.ret _ (X.done rfl ?_); cbv <;> (and_intros <;> first | exact he1.symm | exact lsAv_nil _ | rfl | trivial))
      · have c2 : A.cmp .geq g (A.llen eg) = false := by rw [AE.c_geq hA, lg]; exact decide_eq_false h2
        have he1 : e = 0 := by rw [he, gateQ, if_neg (by omega), if_neg (by omega)]
        obtain ⟨i, hi⟩ : ∃ i : Nat, g = i := ⟨g.toNat, by omega⟩
        have hio : i < os.length := by rw [hog h0]; omega
        have hr1 : r = ⟨tick, xs, fs, ps, os.set i is⟩ := by rw [hr, if_neg (by omega), hi]; rfl
        obtain ⟨eo2, heo2⟩ : ∃ es, es = lsAv boolC (os.set i is) := ⟨_, rfl⟩
        have hset : A.lset eo i [.b is] = eo2 := by rw [lset_std hA, heo, heo2, ← lsAv_set]; rfl
        have hget : eo[i]? = some [.b os[i]] := by rw [heo]; exact lsAv_get (List.getElem?_eq_getElem hio)
        subst hr1
        simp only [Ss.c, ← hex, ← hef, ← hev, ← heo2]
        have ati : AE.AtR i eo := ⟨by rw [heo, lsAv_len]; exact hio⟩
        have hset2 := hset.trans heo2
        cbv at hset2
        (repeat' (first | (refine X.g ?_; cbv) | refine X.splitT ?_ | refine X.splitF ?_ | refine X.sp (fun hc => ?_) (fun hc => ?_) | refine X.needT ?_ | refine X.callsGA [] k1 ?_ | refine X.callsA [] k2 ?_ | refine X.idx _ _ _ _ _ _ _ _ hget hi ?_ | refine X.idxA i ati hi ?_ | refine X.need _ _ _ ati ?_ | fail))
        all_goals (refine X.ret _ ?_; refine X.frz 5 _ _ ?_; refine X.frz 6 _ _ ?_; refine X.frz 7 _ _ ?_; refine X.frz 9 _ _ ?_; refine X.done rfl ?_; cbv <;> (and_intros <;> first | exact he1.symm | exact hset2 | exact hset.trans heo2 | exact hex | exact hef | exact hev | rfl | trivial))
  · have c0 : A.cmp .neq st 0 = true := by rw [AE.c_neq hA]; simpa using h0
    have he1 : e = st := by rw [he, gateQ, if_pos h0]
    have hr1 : r = Ss.nil := by rw [hr, if_pos (by omega)]
    subst hr1
    simp only [Ss.c, Ss.nil, lsAv_nil]
    (repeat' (first | (refine X.g ?_; cbv) | refine X.splitT ?_ | refine X.splitF ?_ | refine X.sp (fun hc => ?_) (fun hc => ?_) | refine X.needT ?_ | refine X.callsGA [] k1 ?_ | fail))
    all_goals (refine X.ret _ (X.done rfl ?_); cbv <;> (and_intros <;> first | exact he1.symm | exact lsAv_nil _ | rfl | trivial))
def enterI (st g ng : Int) (gx gy op : Bool) (c1 c2 c3 c4 np : Int) : Int := if st ≠ 0 then st else if g < 0 ∨ ng ≤ g ∨ gx = false ∨ gy = false then 1 else if op = false then 7 else if c1 < 0 ∨ 0 < c2 ∨ c3 < 0 ∨ 0 < c4 then 17 else if np = 4 then 6 else 0
def gateAt (w : Wk) (g : Int) : Gt := w.gates.getD g.toNat ⟨⟨⟨[]⟩⟩, ⟨⟨Q.nil, Q.nil⟩, ⟨Q.nil, Q.nil⟩⟩⟩
def enterC (w : Wk) (s : Ss) (g : Int) (p : V2) : Int := enterI (stateC w s) g w.gates.length (decide p.x.Good) (decide p.y.Good) (s.opens.getD g.toNat false) (cmpR p.x.v (gateAt w g).zone.low.x.v) (cmpR p.x.v (gateAt w g).zone.high.x.v) (cmpR p.y.v (gateAt w g).zone.low.y.v) (cmpR p.y.v (gateAt w g).zone.high.y.v) s.people.length
def Ss.entered (s : Ss) (p : V2) : Ss := { s with people := s.people ++ [p] }
theorem moveEnter_ok (w : Wk) (hw : w.Le) (s : Ss) (hs : s.Le) (hf : s.Few) (g : Int) (p : V2) (hp : p.sz ≤ 2 ^ 30) (r : Ss) (e : Int) (he : e = enterC w s g p) (hr : r = if e ≠ 0 then Ss.nil else s.entered p) : AE.ACallG GG Tryz.prog 17 [] [.a w.c, .a s.c, .v (.int .i64 g), .a p.c] [] (.t [.a r.c, .v (.int .i64 e)]) := by
  refine AE.ACallG.of_walk (fn := Tryz.f17) (c := bodyOf Tryz.f17) GG_stays tabOK Tryz.func17 rfl rfl mixed fun A hA X => ?_
  obtain ⟨st, hst⟩ : ∃ e, e = stateC w s := ⟨_, rfl⟩
  have k1 := worldCheck_ok w hw s hs st hst
  have hlen : st = 0 → s.opens.length = w.gates.length := fun h => (stateC_opens (by rw [← hst]; exact h)).1
  obtain ⟨z, hz⟩ : ∃ z, z = gateAt w g := ⟨_, rfl⟩
  rw [enterC, ← hst, ← hz] at he
  have hzg : ∀ i : Nat, g = i → i < w.gates.length → w.gates[i]? = some z := fun i h1 h2 => by
    rw [hz, gateAt, h1, Int.toNat_natCast, List.getD_eq_getElem?_getD, List.getElem?_eq_getElem h2]; rfl
  have hwg := hw.gates
  clear hst hz hw hs
  obtain ⟨ex, hex⟩ : ∃ es, es = lsAv As.c s.arms := ⟨_, rfl⟩
  obtain ⟨ef, hef⟩ : ∃ es, es = lsAv Fr.c s.parts := ⟨_, rfl⟩
  obtain ⟨ev, hev⟩ : ∃ es, es = lsAv V2.c s.people := ⟨_, rfl⟩
  obtain ⟨eo, heo⟩ : ∃ es, es = lsAv boolC s.opens := ⟨_, rfl⟩
  have k2 := worldCopyO_ok s hf ex ef ev eo hex hef hev heo
  have hpl := hf.people
  obtain ⟨arms, walls, parts, slots, gates, walk⟩ := w
  obtain ⟨tick, xs, fs, ps, os⟩ := s
  simp only at hex hef hev heo hlen hzg hwg he hpl
  obtain ⟨ea, hea⟩ : ∃ es, es = lsAv Ar.c arms := ⟨_, rfl⟩
  obtain ⟨ew, hew⟩ : ∃ es, es = lsAv wallC walls := ⟨_, rfl⟩
  obtain ⟨ep, hep⟩ : ∃ es, es = lsAv Pt.c parts := ⟨_, rfl⟩
  obtain ⟨es, hes⟩ : ∃ es, es = lsAv Sl.c slots := ⟨_, rfl⟩
  obtain ⟨eg, heg⟩ : ∃ es, es = lsAv Gt.c gates := ⟨_, rfl⟩
  have lg : A.llen eg = (gates.length : Int) := by rw [llen hA, heg, lsAv_len]
  have lp : A.llen ev = (ps.length : Int) := by rw [llen hA, hev, lsAv_len]
  obtain ⟨x, y⟩ := p
  simp only [V2.sz] at hp
  obtain ⟨gx, hgx⟩ : ∃ b, b = decide x.Good := ⟨_, rfl⟩
  obtain ⟨gy, hgy⟩ : ∃ b, b = decide y.Good := ⟨_, rfl⟩
  have k3 := good_ok x (by omega) gx hgx
  have k4 := good_ok y (by omega) gy hgy
  simp only [← hgx, ← hgy] at he
  simp only [Wk.c, Ss.c, ← hea, ← hew, ← hep, ← hes, ← heg, ← hex, ← hef, ← hev, ← heo] at k1 k2 ⊢
  by_cases h0 : st = 0
  case neg =>
    have c0 : A.cmp .neq st 0 = true := by rw [AE.c_neq hA]; simpa using h0
    have he1 : e = st := by rw [he, enterI, if_pos h0]
    have hr1 : r = Ss.nil := by rw [hr, if_pos (by omega)]
    subst hr1
    simp only [Ss.c, Ss.nil, lsAv_nil]
    (repeat' (first | (refine X.g ?_; cbv) | refine X.splitT ?_ | refine X.splitF ?_ | refine X.sp (fun hc => ?_) (fun hc => ?_) | refine X.needT ?_ | refine X.callsGA [] k1 ?_ | fail))
    all_goals (refine X.ret _ (X.done rfl ?_); cbv <;> (and_intros <;> first | exact he1.symm | exact lsAv_nil _ | rfl | trivial))
  have c0 : A.cmp .neq st 0 = false := by rw [AE.c_neq hA, h0]; rfl
  by_cases h1 : g < 0 ∨ (gates.length : Int) ≤ g ∨ gx = false ∨ gy = false
  case pos =>
    have he1 : e = 1 := by rw [he, enterI, if_neg (by omega), if_pos h1]
    have hr1 : r = Ss.nil := by rw [hr, if_pos (by omega)]
    subst hr1
    simp only [Ss.c, Ss.nil, lsAv_nil]
    rw [← lg] at h1
    (repeat' (first | (refine X.g ?_; cbv) | refine X.splitT ?_ | refine X.splitF ?_ | refine X.sp (fun hc => ?_) (fun hc => ?_) | refine X.needT ?_ | refine X.callsGA [] k1 ?_ | refine X.callsGA [] k3 ?_ | refine X.callsGA [] k4 ?_ | fail))
    all_goals first | ((refine X.ret _ (X.done rfl ?_); cbv <;> (and_intros <;> first | exact he1.symm | exact lsAv_nil _ | rfl | trivial)); done) | (exfalso; clear X k1 k2 k3 k4 hex hef hev heo hea hew hep hes heg hlen hzg hwg he hr; (try simp only [AE.c_lss hA, AE.c_leq hA, AE.c_gtr hA, AE.c_geq hA, AE.c_eql hA, AE.c_neq hA, AE.c_not hA, AE.c_and hA, AE.c_beq hA, AE.c_bne hA, decide_eq_true_eq, decide_eq_false_iff_not, Bool.not_eq_true, Bool.not_eq_false, Bool.not_eq_eq_eq_not, Bool.not_true, Bool.not_false, Int.not_lt, Int.not_le, Int.ofNat_eq_natCast] at *); clear hA; simp_all; omega)
  have hgx1 : gx = true := by cases gx <;> simp_all
  have hgy1 : gy = true := by cases gy <;> simp_all
  rw [hgx1] at k3
  rw [hgy1] at k4
  have c1 : A.cmp .lss g 0 = false := by rw [AE.c_lss hA]; exact decide_eq_false (by omega)
  have c2 : A.cmp .geq g (A.llen eg) = false := by rw [AE.c_geq hA, lg]; exact decide_eq_false (by omega)
  have c3 : A.bnot true = false := by rw [AE.c_not hA]; rfl
  obtain ⟨i, hi⟩ : ∃ i : Nat, g = i := ⟨g.toNat, by omega⟩
  have hig : i < gates.length := by omega
  have hio : i < os.length := by rw [hlen h0]; exact hig
  have hz1 := hzg i hi hig
  obtain ⟨z1, z2, z3⟩ := hwg z (List.mem_of_getElem? hz1)
  have hze : eg[i]? = some z.c := by rw [heg]; exact lsAv_get hz1
  obtain ⟨op, hop⟩ : ∃ b, b = os[i] := ⟨_, rfl⟩
  have hoe : eo[i]? = some [.b op] := by rw [heo, hop]; exact lsAv_get (List.getElem?_eq_getElem hio)
  have hod : os.getD g.toNat false = op := by rw [hi, Int.toNat_natCast, List.getD_eq_getElem?_getD, List.getElem?_eq_getElem hio, hop]; rfl
  rw [hod] at he
  obtain ⟨zn, ⟨⟨lx, ly⟩, ⟨hx, hy⟩⟩⟩ := z
  simp only [V2.sz] at z2 z3
  simp only at he
  obtain ⟨d1, hd1⟩ : ∃ d, d = cmpR x.v lx.v := ⟨_, rfl⟩
  obtain ⟨d2, hd2⟩ : ∃ d, d = cmpR x.v hx.v := ⟨_, rfl⟩
  obtain ⟨d3, hd3⟩ : ∃ d, d = cmpR y.v ly.v := ⟨_, rfl⟩
  obtain ⟨d4, hd4⟩ : ∃ d, d = cmpR y.v hy.v := ⟨_, rfl⟩
  have k5 := ratCmp_ok x lx (by omega) (by omega) d1 hd1
  have k6 := ratCmp_ok x hx (by omega) (by omega) d2 hd2
  have k7 := ratCmp_ok y ly (by omega) (by omega) d3 hd3
  have k8 := ratCmp_ok y hy (by omega) (by omega) d4 hd4
  rw [← hd1, ← hd2, ← hd3, ← hd4, enterI, if_neg (by omega), if_neg h1] at he
  clear hd1 hd2 hd3 hd4 hzg hwg hlen hgx hgy h1
  by_cases h2 : op = false
  case pos =>
    have c4 : A.bnot op = true := by rw [AE.c_not hA, h2]; rfl
    have he1 : e = 7 := by rw [he, if_pos h2]
    have hr1 : r = Ss.nil := by rw [hr, if_pos (by omega)]
    subst hr1
    simp only [Ss.c, Ss.nil, lsAv_nil]
    (repeat' (first | (refine X.g ?_; cbv) | refine X.splitT ?_ | refine X.splitF ?_ | refine X.sp (fun hc => ?_) (fun hc => ?_) | refine X.needT ?_ | refine X.callsGA [] k1 ?_ | refine X.callsGA [] k3 ?_ | refine X.callsGA [] k4 ?_ | refine X.idx _ _ _ _ _ _ _ _ hze hi ?_ | refine X.idx _ _ _ _ _ _ _ _ hoe hi ?_ | fail))
    all_goals (refine X.ret _ (X.done rfl ?_); cbv <;> (and_intros <;> first | exact he1.symm | exact lsAv_nil _ | rfl | trivial))
  have c4 : A.bnot op = false := by rw [AE.c_not hA]; cases op <;> simp_all
  rw [if_neg h2] at he
  by_cases h3 : d1 < 0 ∨ 0 < d2 ∨ d3 < 0 ∨ 0 < d4
  case pos =>
    have he1 : e = 17 := by rw [he, if_pos h3]
    have hr1 : r = Ss.nil := by rw [hr, if_pos (by omega)]
    subst hr1
    simp only [Ss.c, Ss.nil, lsAv_nil]
    (repeat' (first | (refine X.g ?_; cbv) | refine X.splitT ?_ | refine X.splitF ?_ | refine X.sp (fun hc => ?_) (fun hc => ?_) | refine X.needT ?_ | refine X.callsGA [] k1 ?_ | refine X.callsGA [] k3 ?_ | refine X.callsGA [] k4 ?_ | refine X.callsGA [] k5 ?_ | refine X.callsGA [] k6 ?_ | refine X.callsGA [] k7 ?_ | refine X.callsGA [] k8 ?_ | refine X.idx _ _ _ _ _ _ _ _ hze hi ?_ | refine X.idx _ _ _ _ _ _ _ _ hoe hi ?_ | fail))
    all_goals first | ((refine X.ret _ (X.done rfl ?_); cbv <;> (and_intros <;> first | exact he1.symm | exact lsAv_nil _ | rfl | trivial)); done) | (exfalso; clear X k1 k2 k3 k4 k5 k6 k7 k8 hex hef hev heo hea hew hep hes heg hze hoe he hr; (try simp only [AE.c_lss hA, AE.c_leq hA, AE.c_gtr hA, AE.c_geq hA, AE.c_eql hA, AE.c_neq hA, AE.c_not hA, AE.c_and hA, AE.c_beq hA, AE.c_bne hA, decide_eq_true_eq, decide_eq_false_iff_not, Bool.not_eq_true, Bool.not_eq_false, Bool.not_eq_eq_eq_not, Bool.not_true, Bool.not_false, Int.not_lt, Int.not_le, Int.ofNat_eq_natCast] at *); clear hA; omega)
  have c5 : A.cmp .lss d1 0 = false := by rw [AE.c_lss hA]; exact decide_eq_false (by omega)
  have c6 : A.cmp .gtr d2 0 = false := by rw [AE.c_gtr hA]; exact decide_eq_false (by omega)
  have c7 : A.cmp .lss d3 0 = false := by rw [AE.c_lss hA]; exact decide_eq_false (by omega)
  have c8 : A.cmp .gtr d4 0 = false := by rw [AE.c_gtr hA]; exact decide_eq_false (by omega)
  rw [if_neg h3] at he
  by_cases h4 : (ps.length : Int) = 4
  case pos =>
    have c9 : A.cmp .eql (A.llen ev) 4 = true := by rw [AE.c_eql hA, lp]; exact decide_eq_true h4
    have he1 : e = 6 := by rw [he, if_pos h4]
    have hr1 : r = Ss.nil := by rw [hr, if_pos (by omega)]
    subst hr1
    simp only [Ss.c, Ss.nil, lsAv_nil]
    (repeat' (first | (refine X.g ?_; cbv) | refine X.splitT ?_ | refine X.splitF ?_ | refine X.sp (fun hc => ?_) (fun hc => ?_) | refine X.needT ?_ | refine X.callsGA [] k1 ?_ | refine X.callsGA [] k3 ?_ | refine X.callsGA [] k4 ?_ | refine X.callsGA [] k5 ?_ | refine X.callsGA [] k6 ?_ | refine X.callsGA [] k7 ?_ | refine X.callsGA [] k8 ?_ | refine X.idx _ _ _ _ _ _ _ _ hze hi ?_ | refine X.idx _ _ _ _ _ _ _ _ hoe hi ?_ | fail))
    all_goals (refine X.ret _ (X.done rfl ?_); cbv <;> (and_intros <;> first | exact he1.symm | exact lsAv_nil _ | rfl | trivial))
  have c9 : A.cmp .eql (A.llen ev) 4 = false := by rw [AE.c_eql hA, lp]; exact decide_eq_false h4
  have he1 : e = 0 := by rw [he, if_neg h4]
  have hr1 : r = ⟨tick, xs, fs, ps ++ [⟨x, y⟩], os⟩ := by rw [hr, if_neg (by omega)]; rfl
  obtain ⟨ev2, hev2⟩ : ∃ es, es = lsAv V2.c (ps ++ [⟨x, y⟩]) := ⟨_, rfl⟩
  have happ : A.lapp ev [x.c ++ y.c] = ev2 := by
    rw [hev2, ← lsAv_app, ← hev, show lsAv V2.c [(⟨x, y⟩ : V2)] = [x.c ++ y.c] by rw [lsAv_eq]; rfl]; subst hA; rfl
  have hgrow : ∀ c, AE.GrowR (A.llen ev) (A.llen [c]) 80 := fun c => grow1 hA (n := 2 ^ 30) (by rw [hev, lsAv_len]; exact hpl) (by decide) (by decide)
  subst hr1
  simp only [Ss.c, ← hex, ← hef, ← hev2, ← heo]
  (repeat' (first | (refine X.g ?_; cbv) | refine X.splitT ?_ | refine X.splitF ?_ | refine X.sp (fun hc => ?_) (fun hc => ?_) | refine X.needT ?_ | refine X.callsGA [] k1 ?_ | refine X.callsGA [] k3 ?_ | refine X.callsGA [] k4 ?_ | refine X.callsGA [] k5 ?_ | refine X.callsGA [] k6 ?_ | refine X.callsGA [] k7 ?_ | refine X.callsGA [] k8 ?_ | refine X.idx _ _ _ _ _ _ _ _ hze hi ?_ | refine X.idx _ _ _ _ _ _ _ _ hoe hi ?_ | refine X.callsA [] k2 ?_ | refine X.need _ _ _ (hgrow _) ?_ | fail))
  have happ2 := happ.trans hev2
  cbv at happ2
  all_goals (refine X.ret _ ?_; refine X.frz 7 _ _ ?_; refine X.frz 8 _ _ ?_; refine X.frz 9 _ _ ?_; refine X.frz 11 _ _ ?_; refine X.done rfl ?_; cbv <;> (and_intros <;> first | exact he1.symm | exact happ2 | exact happ.trans hev2 | exact hex | exact hef | exact heo | rfl | trivial))
end Go.Proofs.YthadehkggddgoaaGreatDoor
