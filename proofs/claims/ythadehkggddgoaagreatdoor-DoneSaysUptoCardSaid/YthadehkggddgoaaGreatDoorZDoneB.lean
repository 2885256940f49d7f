/- Contracts: done.All, what done's functions answer for a bad state, the law's own closures. -/
import Derived.Test.YthadehkggddgoaaGreatDoorZMoved
import Derived.Test.YthadehkggddgoaaGreatDoorZFitS
set_option maxRecDepth 100000
set_option maxHeartbeats 0
set_option linter.unusedVariables false
set_option linter.unusedSimpArgs false
namespace Go.Proofs.YthadehkggddgoaaGreatDoor
open Go Go.Num
structure Wt where
  part : Int
  slot : Int
def Wt.c (x : Wt) : List AE.AV := [.v (.int .i64 x.part), .v (.int .i64 x.slot)]
structure Fine20 (w : Wk) (s : Ss) : Prop where
  parts : ∀ p ∈ w.parts, (∀ c ∈ p.shape, c.sz ≤ 2 ^ 20)
  slots : ∀ q ∈ w.slots, q.frame.le (2 ^ 20)
  frames : ∀ f ∈ s.parts, f.le (2 ^ 20)
theorem state_parts {w : Wk} {s : Ss} (h : stateC w s = 0) : s.parts.length = w.parts.length := (stateC_opens h).2.2.2.1
theorem Fine20.hz {w : Wk} {s : Ss} (h : Fine20 w s) {p q e : Int} (he : e = doneI (stateC w s) p w.parts.length q w.slots.length) : e = 0 → (∀ c ∈ (partAt w p).shape, c.sz ≤ 2 ^ 20) ∧ (slotAt w q).frame.le (2 ^ 20) := fun h0 => by
  obtain ⟨_, i1, i2, i3, i4⟩ := done_in (he.symm.trans h0)
  refine ⟨h.parts _ ?_, h.slots _ ?_⟩
  · exact List.mem_of_getElem? (i := p.toNat) (getD_some (by omega) _)
  · exact List.mem_of_getElem? (i := q.toNat) (getD_some (by omega) _)
theorem doneOffBad_ok (w : Wk) (hw : w.Le) (s : Ss) (hs : s.Le) (p q e : Int) (he : e = stateC w s) (h0 : e ≠ 0) : AE.ACallG GG Tryz.prog 22 [] [.a w.c, .a s.c, .v (.int .i64 p), .v (.int .i64 q)] [] (.t [.a Q.nil.c, .v (.int .i64 e)]) := by
  refine AE.ACallG.of_walk (fn := Tryz.f22) (c := bodyOf Tryz.f22) GG_stays tabOK Tryz.func22 rfl rfl mixed fun A hA X => ?_
  have k1 := doneCheck_ok w hw s hs p q e (by rw [doneI, ← he, if_pos h0])
  have c0 : A.cmp .neq e 0 = true := by rw [AE.c_neq hA]; simpa using h0
  (repeat' (first | (refine X.g ?_; cbv) | refine X.splitT ?_ | refine X.splitF ?_ | refine X.sp (fun hc => ?_) (fun hc => ?_) | refine X.needT ?_ | refine X.callsGA [] k1 ?_ | fail))
  all_goals (refine X.ret _ (X.done rfl ?_); cbv <;> (and_intros <;> first | rfl | trivial))
theorem doneInBad_ok (w : Wk) (hw : w.Le) (s : Ss) (hs : s.Le) (p q e : Int) (he : e = stateC w s) (h0 : e ≠ 0) : AE.ACallG GG Tryz.prog 21 [] [.a w.c, .a s.c, .v (.int .i64 p), .v (.int .i64 q)] [] (.t [.b false, .v (.int .i64 e)]) := by
  refine AE.ACallG.of_walk (fn := Tryz.f21) (c := bodyOf Tryz.f21) GG_stays tabOK Tryz.func21 rfl rfl mixed fun A hA X => ?_
  have k1 := doneOffBad_ok w hw s hs p q e he h0
  have c0 : A.cmp .neq e 0 = true := by rw [AE.c_neq hA]; simpa using h0
  (repeat' (first | (refine X.g ?_; cbv) | refine X.splitT ?_ | refine X.splitF ?_ | refine X.sp (fun hc => ?_) (fun hc => ?_) | refine X.needT ?_ | refine X.callsGA [] k1 ?_ | fail))
  all_goals (refine X.ret _ (X.done rfl ?_); cbv <;> (and_intros <;> first | rfl | trivial))
theorem doneBestBad_ok (w : Wk) (hw : w.Le) (s : Ss) (hs : s.Le) (p e : Int) (he : e = stateC w s) (h0 : e ≠ 0) : AE.ACallG GG Tryz.prog 23 [] [.a w.c, .a s.c, .v (.int .i64 p)] [] (.t [.v (.int .i64 0), .a Q.nil.c, .v (.int .i64 e)]) := by
  refine AE.ACallG.of_walk (fn := Tryz.f23) (c := bodyOf Tryz.f23) GG_stays tabOK Tryz.func23 rfl rfl mixed fun A hA X => ?_
  have k1 := worldCheck_ok w hw s hs e he
  have c0 : A.cmp .neq e 0 = true := by rw [AE.c_neq hA]; simpa using h0
  (repeat' (first | (refine X.g ?_; cbv) | refine X.splitT ?_ | refine X.splitF ?_ | refine X.sp (fun hc => ?_) (fun hc => ?_) | refine X.needT ?_ | refine X.callsGA [] k1 ?_ | fail))
  all_goals (refine X.ret _ (X.done rfl ?_); cbv <;> (and_intros <;> first | rfl | trivial))
theorem doneBestArg_ok (w : Wk) (hw : w.Le) (s : Ss) (hs : s.Le) (p : Int) (h0 : stateC w s = 0) (hp : p < 0 ∨ (w.parts.length : Int) ≤ p) : AE.ACallG GG Tryz.prog 23 [] [.a w.c, .a s.c, .v (.int .i64 p)] [] (.t [.v (.int .i64 0), .a Q.nil.c, .v (.int .i64 1)]) := by
  refine AE.ACallG.of_walk (fn := Tryz.f23) (c := bodyOf Tryz.f23) GG_stays tabOK Tryz.func23 rfl rfl mixed fun A hA X => ?_
  have k1 := worldCheck_ok w hw s hs 0 h0.symm
  have c0 : A.cmp .neq 0 0 = false := by rw [AE.c_neq hA]; rfl
  clear hw h0
  obtain ⟨arms, walls, parts, slots, gates, walk⟩ := w
  simp only at hp
  obtain ⟨ep, hep⟩ : ∃ es, es = lsAv Pt.c parts := ⟨_, rfl⟩
  have l1 : A.llen ep = (parts.length : Int) := by rw [llen hA, hep, lsAv_len]
  rw [← l1] at hp
  simp only [Wk.c, ← hep] at k1 ⊢
  clear hep l1
  by_cases h1 : p < 0
  · have c1 : A.cmp .lss p 0 = true := by rw [AE.c_lss hA]; exact decide_eq_true h1
    (repeat' (first | (refine X.g ?_; cbv) | refine X.splitT ?_ | refine X.splitF ?_ | refine X.sp (fun hc => ?_) (fun hc => ?_) | refine X.needT ?_ | refine X.callsGA [] k1 ?_ | fail))
    all_goals (refine X.ret _ (X.done rfl ?_); cbv <;> (and_intros <;> first | rfl | trivial))
  · have c1 : A.cmp .lss p 0 = false := by rw [AE.c_lss hA]; exact decide_eq_false h1
    have c2 : A.cmp .geq p (A.llen ep) = true := by rw [AE.c_geq hA]; exact decide_eq_true (by omega)
    (repeat' (first | (refine X.g ?_; cbv) | refine X.splitT ?_ | refine X.splitF ?_ | refine X.sp (fun hc => ?_) (fun hc => ?_) | refine X.needT ?_ | refine X.callsGA [] k1 ?_ | fail))
    all_goals (refine X.ret _ (X.done rfl ?_); cbv <;> (and_intros <;> first | rfl | trivial))
theorem doneBestNone_ok (w : Wk) (hw : w.Le) (s : Ss) (hs : s.Le) (p : Int) (h0 : stateC w s = 0) (h1 : 0 ≤ p) (h2 : p < (w.parts.length : Int)) (hn : w.slots = []) : AE.ACallG GG Tryz.prog 23 [] [.a w.c, .a s.c, .v (.int .i64 p)] [] (.t [.v (.int .i64 0), .a Q.nil.c, .v (.int .i64 4)]) := by
  refine AE.ACallG.of_walk (fn := Tryz.f23) (c := bodyOf Tryz.f23) GG_stays tabOK Tryz.func23 rfl rfl mixed fun A hA X => ?_
  have k1 := worldCheck_ok w hw s hs 0 h0.symm
  have c0 : A.cmp .neq 0 0 = false := by rw [AE.c_neq hA]; rfl
  clear hw h0
  obtain ⟨arms, walls, parts, slots, gates, walk⟩ := w
  simp only at h2 hn
  obtain ⟨ep, hep⟩ : ∃ es, es = lsAv Pt.c parts := ⟨_, rfl⟩
  obtain ⟨es, hes⟩ : ∃ es, es = lsAv Sl.c slots := ⟨_, rfl⟩
  have l1 : A.llen ep = (parts.length : Int) := by rw [llen hA, hep, lsAv_len]
  have l2 : A.llen es = 0 := by rw [llen hA, hes, lsAv_len, hn]; rfl
  have c1 : A.cmp .lss p 0 = false := by rw [AE.c_lss hA]; exact decide_eq_false (by omega)
  have c2 : A.cmp .geq p (A.llen ep) = false := by rw [AE.c_geq hA]; exact decide_eq_false (by omega)
  have c3 : A.cmp .eql (A.llen es) 0 = true := by rw [AE.c_eql hA, l2]; rfl
  simp only [Wk.c, ← hep, ← hes] at k1 ⊢
  clear hep l1 hes l2
  (repeat' (first | (refine X.g ?_; cbv) | refine X.splitT ?_ | refine X.splitF ?_ | refine X.sp (fun hc => ?_) (fun hc => ?_) | refine X.needT ?_ | refine X.callsGA [] k1 ?_ | fail))
  all_goals (refine X.ret _ (X.done rfl ?_); cbv <;> (and_intros <;> first | rfl | trivial))
theorem doneAllBad_ok (w : Wk) (hw : w.Le) (s : Ss) (hs : s.Le) (et : List (List AE.AV)) (e : Int) (he : e = stateC w s) (h0 : e ≠ 0) : AE.ACallG GG Tryz.prog 52 [] [.a w.c, .a s.c, .l 2 et] [] (.t [.b false, .v (.int .i64 e)]) := by
  refine AE.ACallG.of_walk (fn := Tryz.f52) (c := bodyOf Tryz.f52) GG_stays tabOK Tryz.func52 rfl rfl mixed fun A hA X => ?_
  have k1 := worldCheck_ok w hw s hs e he
  have c0 : A.cmp .neq e 0 = true := by rw [AE.c_neq hA]; simpa using h0
  (repeat' (first | (refine X.g ?_; cbv) | refine X.splitT ?_ | refine X.splitF ?_ | refine X.sp (fun hc => ?_) (fun hc => ?_) | refine X.needT ?_ | refine X.callsGA [] k1 ?_ | fail))
  all_goals (refine X.ret _ (X.done rfl ?_); cbv <;> (and_intros <;> first | rfl | trivial))
def wOK (w : Wk) (x : Wt) : Bool := decide (0 ≤ x.part ∧ x.part < w.parts.length ∧ 0 ≤ x.slot ∧ x.slot < w.slots.length)
def allE (ok f : Wt → Bool) : Bool → List Wt → Bool × Int
  | b, [] => (b, 0)
  | b, x :: l => if ok x then allE ok f (b && f x) l else (false, 1)
theorem allE_drop {ok f : Wt → Bool} {b : Bool} {l : List Wt} {i : Nat} {x : Wt} (h : l[i]? = some x) : allE ok f b (l.drop i) = if ok x then allE ok f (b && f x) (l.drop (i + 1)) else (false, 1) := by
  obtain ⟨hi, rfl⟩ := List.getElem?_eq_some_iff.1 h
  rw [List.drop_eq_getElem_cons hi, allE]
theorem all_snoc {f : Wt → Bool} {l : List Wt} {i : Nat} {x : Wt} (h : l[i]? = some x) : (l.take (i + 1)).all f = ((l.take i).all f && f x) := by rw [take_snoc h, List.all_append]; simp
theorem wOK_I {w : Wk} {s : Ss} (h0 : stateC w s = 0) (x : Wt) : doneI (stateC w s) x.part w.parts.length x.slot w.slots.length = if wOK w x then 0 else 1 := by
  rw [doneI, if_neg (fun h => h h0), wOK]
  by_cases h : x.part < 0 ∨ (w.parts.length : Int) ≤ x.part ∨ x.slot < 0 ∨ (w.slots.length : Int) ≤ x.slot
  · rw [if_pos h, decide_eq_false (by omega)]; rfl
  · rw [if_neg h, decide_eq_true (by omega)]; rfl
theorem doneAll_ok (w : Wk) (hw : w.Le) (s : Ss) (hs : s.Le) (hf : Fine20 w s) (h0 : stateC w s = 0) (l : List Wt) (hl : l.length < 2 ^ 40) (et : List (List AE.AV)) (het : et = lsAv Wt.c l) (r : Bool) (e : Int) (hr : (r, e) = allE (wOK w) (fun x => inB w s x.part x.slot) true l) : AE.ACallG GG Tryz.prog 52 [] [.a w.c, .a s.c, .l 2 et] [] (.t [.b r, .v (.int .i64 e)]) := by
  refine AE.ACallG.of_walk (fn := Tryz.f52) (c := bodyOf Tryz.f52) GG_stays tabOK Tryz.func52 rfl rfl mixed fun A hA X => ?_
  have k1 := worldCheck_ok w hw s hs 0 h0.symm
  have kI : ∀ x : Wt, ∀ e b, e = (if wOK w x then 0 else 1) → b = (if e ≠ 0 then false else inB w s x.part x.slot) → AE.ACallG GG Tryz.prog 21 [] [.a w.c, .a s.c, .v (.int .i64 x.part), .v (.int .i64 x.slot)] [] (.t [.b b, .v (.int .i64 e)]) := fun x e b he hb =>
    doneIn_ok w hw s hs hf.frames x.part x.slot e (by rw [wOK_I h0]; exact he) (hf.hz (by rw [wOK_I h0]; exact he)) (state_parts h0) b hb
  have c0 : A.cmp .neq 0 0 = false := by rw [AE.c_neq hA]; rfl
  have c01 : A.cmp .neq 1 0 = true := by rw [AE.c_neq hA]; rfl
  obtain ⟨ok, hok⟩ : ∃ f, f = wOK w := ⟨_, rfl⟩
  obtain ⟨f, hff⟩ : ∃ f, f = fun x : Wt => inB w s x.part x.slot := ⟨_, rfl⟩
  have hfx : ∀ x, inB w s x.part x.slot = f x := fun x => by rw [hff]
  simp only [hfx, ← hok] at kI
  rw [← hok, ← hff] at hr
  clear hok hff hfx hw hs hf h0
  obtain ⟨arms, walls, parts, slots, gates, walk⟩ := w
  obtain ⟨tick, xs, fs, ps, os⟩ := s
  obtain ⟨ea, hea⟩ : ∃ es, es = lsAv Ar.c arms := ⟨_, rfl⟩
  obtain ⟨ew, hew⟩ : ∃ es, es = lsAv wallC walls := ⟨_, rfl⟩
  obtain ⟨ep, hep⟩ : ∃ es, es = lsAv Pt.c parts := ⟨_, rfl⟩
  obtain ⟨es, hes⟩ : ∃ es, es = lsAv Sl.c slots := ⟨_, rfl⟩
  obtain ⟨eg, heg⟩ : ∃ es, es = lsAv Gt.c gates := ⟨_, rfl⟩
  obtain ⟨ex, hex⟩ : ∃ es, es = lsAv As.c xs := ⟨_, rfl⟩
  obtain ⟨ef, hef⟩ : ∃ es, es = lsAv Fr.c fs := ⟨_, rfl⟩
  obtain ⟨ev, hev⟩ : ∃ es, es = lsAv V2.c ps := ⟨_, rfl⟩
  obtain ⟨eo, heo⟩ : ∃ es, es = lsAv boolC os := ⟨_, rfl⟩
  simp only [Wk.c, Ss.c, ← hea, ← hew, ← hep, ← hes, ← heg, ← hex, ← hef, ← hev, ← heo] at k1 kI ⊢
  clear hea hew hep hes heg hex hef hev heo
  obtain ⟨bb, hbb⟩ : ∃ g : Nat → Bool, ∀ i, g i = (l.take i).all f := ⟨_, fun _ => rfl⟩
  have hb0 : true = bb 0 := by rw [hbb]; rfl
  (repeat' (first | (refine X.g ?_; cbv) | refine X.splitT ?_ | refine X.splitF ?_ | refine X.sp (fun hc => ?_) (fun hc => ?_) | refine X.needT ?_ | refine X.callsGA [] k1 ?_ | fail))
  refine X.loopG _ _ _ (X.frzB 0 _ _ (Nat.zero_le _) (X.frzB 1 _ _ (Nat.zero_le _) ?_))
  (refine X.g ?_; cbv)
  clear k1
  refine rangeL0 X hA het (by omega) (fun i => (r, e) = allE ok f (bb i) (l.drop i)) (fun z i => [(22, .v (.int .i64 z)), (9, .b (bb i))]) (by rw [← hb0]; exact hr) ?_ (fun i z y hz hy hye c3 hI B hB => ?_) (fun z c3 hI B => ?_)
  · (cbv <;> (and_intros <;> first | exact hb0 | rfl | trivial))
  · rw [allE_drop hy] at hI
    obtain ⟨e2, he2⟩ : ∃ e : Int, e = if ok y then 0 else 1 := ⟨_, rfl⟩
    obtain ⟨b2, hb2⟩ : ∃ b : Bool, b = if e2 ≠ 0 then false else f y := ⟨_, rfl⟩
    have k2 := kI y e2 b2 he2 hb2
    clear kI
    have hsn : bb (i + 1) = (bb i && f y) := by rw [hbb, hbb, all_snoc hy]
    rw [← hsn] at hI
    obtain ⟨yp, yq⟩ := y
    simp only [Wt.c] at hye k2
    cases hk : ok ⟨yp, yq⟩
    · rw [hk] at he2 hI
      have e3 : e2 = 1 := he2
      have e4 : b2 = false := by rw [hb2, e3]; rfl
      subst e3; subst e4
      have e5 : (r, e) = (false, 1) := hI
      cases e5
      clear hB
      (repeat' (first | (refine X.g ?_; cbv) | refine X.splitT ?_ | refine X.splitF ?_ | refine X.sp (fun hc => ?_) (fun hc => ?_) | refine X.needT ?_ | refine X.idx _ _ _ _ _ _ _ _ hye hz ?_ | refine X.callsGA [] k2 ?_ | fail))
      all_goals (refine X.ret _ (X.done rfl ?_); cbv <;> (and_intros <;> first | rfl | trivial))
    · rw [hk] at he2 hI
      have e3 : e2 = 0 := he2
      have e4 : b2 = f ⟨yp, yq⟩ := by rw [hb2, e3]; rfl
      subst e3
      rw [← e4] at hsn
      have hI' : (r, e) = allE ok f (bb (i + 1)) (l.drop (i + 1)) := hI
      obtain ⟨b0, hb0'⟩ : ∃ b, b = bb i := ⟨_, rfl⟩
      rw [← hb0'] at hsn ⊢
      cases b0
      · have e6 : false = bb (i + 1) := by rw [hsn]; rfl
        (repeat' (first | (refine X.g ?_; cbv) | refine X.splitT ?_ | refine X.splitF ?_ | refine X.sp (fun hc => ?_) (fun hc => ?_) | refine X.needT ?_ | refine X.idx _ _ _ _ _ _ _ _ hye hz ?_ | refine X.callsGA [] k2 ?_ | fail))
        all_goals (refine hB hI' _ ?_; clear hB; (cbv <;> (and_intros <;> first | exact e6 | rfl | trivial)))
      · have e6 : b2 = bb (i + 1) := by rw [hsn]; rfl
        (repeat' (first | (refine X.g ?_; cbv) | refine X.splitT ?_ | refine X.splitF ?_ | refine X.sp (fun hc => ?_) (fun hc => ?_) | refine X.needT ?_ | refine X.idx _ _ _ _ _ _ _ _ hye hz ?_ | refine X.callsGA [] k2 ?_ | fail))
        all_goals (refine hB hI' _ ?_; clear hB; (cbv <;> (and_intros <;> first | exact e6 | rfl | trivial)))
  · rw [List.drop_length, allE] at hI
    have e1 : bb l.length = r := (congrArg Prod.fst hI).symm
    have e2 : 0 = e := (congrArg Prod.snd hI).symm
    clear kI
    (repeat' (first | (refine X.g ?_; cbv) | refine X.splitT ?_ | refine X.splitF ?_ | refine X.sp (fun hc => ?_) (fun hc => ?_) | refine X.needT ?_ | fail))
    all_goals (refine X.ret _ (X.done rfl ?_); cbv <;> (and_intros <;> first | exact e1 | exact e2 | rfl | trivial))
theorem idxAs_ok (p : Int) (l : List As) (hl : l.length < 2 ^ 40) (es : List (List AE.AV)) (hes : es = lsAv As.c l) (f : As → Bool) (each : ∀ y ∈ l, ∀ b, b = f y → AE.ACallG GG Tryz.prog 55 [] [.a (As.c y), .ip [.v (.int .i64 p)]] [] (.b b)) (r : Int) (hr : r = idxB f l) : AE.ACallG GG Tryz.prog 127 [] [.l 4 es, .f 55 [.ip [.v (.int .i64 p)]]] [] (.v (.int .i64 r)) := by
  refine AE.ACallG.of_walk (fn := Tryz.f127) (c := bodyOf Tryz.f127) GG_stays tabOK Tryz.func127 rfl rfl mixed fun A hA X => ?_
  (repeat' (first | (refine X.g ?_; cbv) | refine X.splitT ?_ | refine X.splitF ?_ | refine X.sp (fun hc => ?_) (fun hc => ?_) | refine X.needT ?_ | fail))
  refine rangeL0 X hA hes (by omega) (fun i => ∀ x ∈ l.take i, f x = false) (fun z _ => [(8, .v (.int .i64 z))]) (fun x h => by simp at h) ?_ (fun i z y hz hy he c3 hI B hB => ?_) (fun z c3 hI B => ?_)
  · (cbv <;> (and_intros <;> first | rfl | trivial))
  · obtain ⟨b, hb⟩ : ∃ b, b = f y := ⟨_, rfl⟩
    have k1 := each y (List.mem_of_getElem? hy) b hb
    clear each
    cases hb' : b
    · have hI' := take_all hI hy (by rw [← hb, hb'])
      (repeat' (first | (refine X.g ?_; cbv) | refine X.splitT ?_ | refine X.splitF ?_ | refine X.sp (fun hc => ?_) (fun hc => ?_) | refine X.needT ?_ | refine X.idx _ _ _ _ _ _ _ _ he hz ?_ | refine X.callsGA [] k1 ?_ | fail))
      all_goals (refine hB hI' _ ?_; clear hB; (cbv <;> (and_intros <;> first | rfl | trivial)))
    · have e1 : z = r := by rw [hr, idx_hit hI hy (by rw [← hb, hb']), hz]
      clear hB
      (repeat' (first | (refine X.g ?_; cbv) | refine X.splitT ?_ | refine X.splitF ?_ | refine X.sp (fun hc => ?_) (fun hc => ?_) | refine X.needT ?_ | refine X.idx _ _ _ _ _ _ _ _ he hz ?_ | refine X.callsGA [] k1 ?_ | fail))
      all_goals (refine X.ret _ (X.done rfl ?_); cbv <;> (and_intros <;> first | exact e1 | rfl | trivial))
  · rw [List.take_length] at hI
    have e1 : -1 = r := by rw [hr, idx_none hI]
    (repeat' (first | (refine X.g ?_; cbv) | refine X.splitT ?_ | refine X.splitF ?_ | refine X.sp (fun hc => ?_) (fun hc => ?_) | refine X.needT ?_ | fail))
    all_goals (refine X.ret _ (X.done rfl ?_); cbv <;> (and_intros <;> first | exact e1 | rfl | trivial))
theorem hasAs_ok (p : Int) (l : List As) (hl : l.length < 2 ^ 40) (es : List (List AE.AV)) (hes : es = lsAv As.c l) (f : As → Bool) (each : ∀ y ∈ l, ∀ b, b = f y → AE.ACallG GG Tryz.prog 55 [] [.a (As.c y), .ip [.v (.int .i64 p)]] [] (.b b)) (r : Bool) (hr : r = l.any f) : AE.ACallG GG Tryz.prog 54 [] [.l 4 es, .f 55 [.ip [.v (.int .i64 p)]]] [] (.b r) := by
  refine AE.ACallG.of_walk (fn := Tryz.f54) (c := bodyOf Tryz.f54) GG_stays tabOK Tryz.func54 rfl rfl mixed fun A hA X => ?_
  obtain ⟨z, hz⟩ : ∃ z, z = idxB f l := ⟨_, rfl⟩
  have k1 := idxAs_ok p l hl es hes f each z hz
  clear each
  have e1 : A.cmp .geq z 0 = r := by rw [AE.c_geq hA, hr, hz, idx_ge]
  (repeat' (first | (refine X.g ?_; cbv) | refine X.splitT ?_ | refine X.splitF ?_ | refine X.sp (fun hc => ?_) (fun hc => ?_) | refine X.callsGA [] k1 ?_ | refine X.needT ?_ | fail))
  all_goals (refine X.ret _ (X.done rfl ?_); cbv <;> (and_intros <;> first | exact e1 | rfl | trivial))
theorem says11_ok (y : As) (p : Int) (r : Bool) (hr : r = decide (y.holds = p)) : AE.ACallG GG Tryz.prog 55 [] [.a y.c, .ip [.v (.int .i64 p)]] [] (.b r) := by
  obtain ⟨q, v, pw, h⟩ := y
  obtain ⟨eq, heq⟩ : ∃ es, es = lsAv Q.c q := ⟨_, rfl⟩
  obtain ⟨ev, hev⟩ : ∃ es, es = lsAv Q.c v := ⟨_, rfl⟩
  simp only [As.c, ← heq, ← hev]
  refine AE.ACallG.of_walk (fn := Tryz.f55) (c := bodyOf Tryz.f55) GG_stays tabOK Tryz.func55 rfl rfl mixed fun A hA X => ?_
  have e1 : A.cmp .eql h p = r := by rw [AE.c_eql hA, hr]
  (repeat' (first | (refine X.g ?_; cbv) | refine X.splitT ?_ | refine X.splitF ?_ | refine X.sp (fun hc => ?_) (fun hc => ?_) | refine X.needT ?_ | refine X.drawX _ _ _ (by kernel_rfl) (X.frzB 0 _ _ (Nat.zero_le _) ?_) | refine X.fork _ _ ?_ ?_ | fail))
  all_goals (refine X.ret _ (X.done rfl ?_); cbv <;> (and_intros <;> first | exact e1 | rfl | trivial))
theorem says2_ok (w : Wk) (p q : Int) (r : Bool) (hr : r = wOK w ⟨p, q⟩) : AE.ACallG GG Tryz.prog 57 [] [.v (.int .i64 p), .v (.int .i64 q), .ip w.c] [] (.b r) := by
  obtain ⟨arms, walls, parts, slots, gates, walk⟩ := w
  obtain ⟨ep, hep⟩ : ∃ es, es = lsAv Pt.c parts := ⟨_, rfl⟩
  obtain ⟨es, hes⟩ : ∃ es, es = lsAv Sl.c slots := ⟨_, rfl⟩
  simp only [Wk.c, ← hep, ← hes]
  refine AE.ACallG.of_walk (fn := Tryz.f57) (c := bodyOf Tryz.f57) GG_stays tabOK Tryz.func57 rfl rfl mixed fun A hA X => ?_
  have l1 : A.llen ep = (parts.length : Int) := by rw [llen hA, hep, lsAv_len]
  have l2 : A.llen es = (slots.length : Int) := by rw [llen hA, hes, lsAv_len]
  have hr : r = decide (0 ≤ p ∧ p < A.llen ep ∧ 0 ≤ q ∧ q < A.llen es) := by rw [hr, l1, l2]; rfl
  clear hep hes l1 l2
  by_cases h1 : 0 ≤ p
  rotate_left
  · have c1 : A.cmp .geq p 0 = false := by rw [AE.c_geq hA]; exact decide_eq_false h1
    have e1 : false = r := by rw [hr]; symm; exact decide_eq_false fun h => h1 h.1
    (repeat' (first | (refine X.g ?_; cbv) | refine X.splitT ?_ | refine X.splitF ?_ | refine X.sp (fun hc => ?_) (fun hc => ?_) | refine X.needT ?_ | fail))
    all_goals (refine X.ret _ (X.done rfl ?_); cbv <;> (and_intros <;> first | exact e1 | rfl | trivial))
  have c1 : A.cmp .geq p 0 = true := by rw [AE.c_geq hA]; exact decide_eq_true h1
  by_cases h2 : p < A.llen ep
  rotate_left
  · have c2 : A.cmp .lss p (A.llen ep) = false := by rw [AE.c_lss hA]; exact decide_eq_false h2
    have e1 : false = r := by rw [hr]; symm; exact decide_eq_false fun h => h2 h.2.1
    (repeat' (first | (refine X.g ?_; cbv) | refine X.splitT ?_ | refine X.splitF ?_ | refine X.sp (fun hc => ?_) (fun hc => ?_) | refine X.needT ?_ | fail))
    all_goals (refine X.ret _ (X.done rfl ?_); cbv <;> (and_intros <;> first | exact e1 | rfl | trivial))
  have c2 : A.cmp .lss p (A.llen ep) = true := by rw [AE.c_lss hA]; exact decide_eq_true h2
  by_cases h3 : 0 ≤ q
  rotate_left
  · have c3 : A.cmp .geq q 0 = false := by rw [AE.c_geq hA]; exact decide_eq_false h3
    have e1 : false = r := by rw [hr]; symm; exact decide_eq_false fun h => h3 h.2.2.1
    (repeat' (first | (refine X.g ?_; cbv) | refine X.splitT ?_ | refine X.splitF ?_ | refine X.sp (fun hc => ?_) (fun hc => ?_) | refine X.needT ?_ | fail))
    all_goals (refine X.ret _ (X.done rfl ?_); cbv <;> (and_intros <;> first | exact e1 | rfl | trivial))
  have c3 : A.cmp .geq q 0 = true := by rw [AE.c_geq hA]; exact decide_eq_true h3
  have e1 : A.cmp .lss q (A.llen es) = r := by
    rw [AE.c_lss hA, hr, decide_eq_decide]
    exact ⟨fun h => ⟨h1, h2, h3, h⟩, fun h => h.2.2.2⟩
  (repeat' (first | (refine X.g ?_; cbv) | refine X.splitT ?_ | refine X.splitF ?_ | refine X.sp (fun hc => ?_) (fun hc => ?_) | refine X.needT ?_ | fail))
  all_goals (refine X.ret _ (X.done rfl ?_); cbv <;> (and_intros <;> first | exact e1 | rfl | trivial))
theorem says1_ok (w : Wk) (hw : w.Le) (s : Ss) (hs : s.Le) (hf : Fine20 w s) (h0 : stateC w s = 0) (p q : Int) (hk : wOK w ⟨p, q⟩ = true) (r : Bool) (hr : r = inB w s p q) : AE.ACallG GG Tryz.prog 53 [] [.v (.int .i64 p), .v (.int .i64 q), .ip s.c, .ip w.c] [] (.b r) := by
  obtain ⟨i1, i2, i3, i4⟩ : 0 ≤ p ∧ p < w.parts.length ∧ 0 ≤ q ∧ q < w.slots.length := of_decide_eq_true hk
  obtain ⟨i, hi⟩ : ∃ i : Nat, p = i := ⟨p.toNat, by omega⟩
  obtain ⟨j, hj⟩ : ∃ i : Nat, q = i := ⟨q.toNat, by omega⟩
  have hpl := state_parts h0
  have hgp : w.parts[i]? = some (partAt w p) := by rw [partAt, hi, Int.toNat_natCast]; exact getD_some (by omega) _
  have hgs : w.slots[j]? = some (slotAt w q) := by rw [slotAt, hj, Int.toNat_natCast]; exact getD_some (by omega) _
  have hgf : s.parts[i]? = some (frAt s p) := by rw [frAt, hi, Int.toNat_natCast]; exact getD_some (by omega) _
  have z1 := hf.parts _ (List.mem_of_getElem? hgp)
  have z2 := hf.slots _ (List.mem_of_getElem? hgs)
  have zf := hf.frames _ (List.mem_of_getElem? hgf)
  have zl := (hw.parts _ (List.mem_of_getElem? hgp)).2.2.1
  have zw := (hw.slots _ (List.mem_of_getElem? hgs)).2.2
  obtain ⟨off, hoff⟩ : ∃ q', q' = Q.of (offR (frAt s p) (slotAt w q).frame (partAt w p).shape) := ⟨_, rfl⟩
  have k2 := refOff_ok w s p q i j hi hj _ _ _ hgp hgs hgf zf z1 z2 zl off hoff
  have b9 := offR_rs (frAt s p) (slotAt w q).frame zf z2 (partAt w p).shape 0 z1 (by have := rs0; omega)
  have so : off.sz ≤ 2 ^ 30 := by
    rw [hoff, sz_of]
    have : rs (offR (frAt s p) (slotAt w q).frame (partAt w p).shape) ≤ 40 * 2 ^ 20 + 1000 := b9
    omega
  obtain ⟨c, hc⟩ : ∃ c, c = cmpR off.v (slotAt w q).within.v := ⟨_, rfl⟩
  have k3 := ratCmp_ok off (slotAt w q).within (by omega) (by omega) c hc
  obtain ⟨hv, hhv⟩ : ∃ b, b = s.arms.any fun x => decide (x.holds = p) := ⟨_, rfl⟩
  have hr : r = if hv then false else decide (c ≤ 0) := by rw [hr, inB, ← hhv, hc, hoff, Q.v_of]
  have k1 := hasAs_ok p s.arms hs.narms (lsAv As.c s.arms) rfl (fun x => decide (x.holds = p)) (fun y _ b hb => says11_ok y p b hb) hv hhv
  obtain ⟨sl, hsl⟩ : ∃ x, x = slotAt w q := ⟨_, rfl⟩
  rw [← hsl] at hgs k3
  clear hw hs hf h0 hk hpl hgp hgf z1 z2 zf zl zw hoff b9 so hc hhv hsl i1 i2 i3 i4
  obtain ⟨arms, walls, parts, slots, gates, walk⟩ := w
  obtain ⟨tick, xs, fs, ps, os⟩ := s
  simp only at hgs
  obtain ⟨ea, hea⟩ : ∃ es, es = lsAv Ar.c arms := ⟨_, rfl⟩
  obtain ⟨ew, hew⟩ : ∃ es, es = lsAv wallC walls := ⟨_, rfl⟩
  obtain ⟨ep, hep⟩ : ∃ es, es = lsAv Pt.c parts := ⟨_, rfl⟩
  obtain ⟨es, hes⟩ : ∃ es, es = lsAv Sl.c slots := ⟨_, rfl⟩
  obtain ⟨eg, heg⟩ : ∃ es, es = lsAv Gt.c gates := ⟨_, rfl⟩
  obtain ⟨ex, hex⟩ : ∃ es, es = lsAv As.c xs := ⟨_, rfl⟩
  obtain ⟨ef, hef⟩ : ∃ es, es = lsAv Fr.c fs := ⟨_, rfl⟩
  obtain ⟨ev, hev⟩ : ∃ es, es = lsAv V2.c ps := ⟨_, rfl⟩
  obtain ⟨eo, heo⟩ : ∃ es, es = lsAv boolC os := ⟨_, rfl⟩
  have hes1 : es[j]? = some sl.c := by rw [hes]; exact lsAv_get hgs
  simp only [Wk.c, Ss.c, ← hea, ← hew, ← hep, ← hes, ← heg, ← hex, ← hef, ← hev, ← heo] at k1 k2 ⊢
  clear hea hew hep hes heg hex hef hev heo hgs
  refine AE.ACallG.of_walk (fn := Tryz.f53) (c := bodyOf Tryz.f53) GG_stays tabOK Tryz.func53 rfl rfl mixed fun A hA X => ?_
  have n1 : A.bnot true = false := by rw [AE.c_not hA]; rfl
  have n2 : A.bnot false = true := by rw [AE.c_not hA]; rfl
  cases hv
  · have e1 : A.cmp .leq c 0 = r := by rw [AE.c_leq hA, hr]; rfl
    (repeat' (first | (refine X.g ?_; cbv) | refine X.splitT ?_ | refine X.splitF ?_ | refine X.sp (fun hc => ?_) (fun hc => ?_) | refine X.needT ?_ | refine X.drawX _ _ _ (by kernel_rfl) (X.frzB 0 _ _ (Nat.zero_le _) ?_) | refine X.fork _ _ ?_ ?_ | refine X.idx _ _ _ _ _ _ _ _ hes1 hj ?_ | refine X.callsGA [] k1 ?_ | refine X.callsGA [] k2 ?_ | refine X.callsGA [] k3 ?_ | fail))
    all_goals (refine X.ret _ (X.done rfl ?_); cbv <;> (and_intros <;> first | exact e1 | rfl | trivial))
  · have e1 : false = r := by rw [hr]; rfl
    (repeat' (first | (refine X.g ?_; cbv) | refine X.splitT ?_ | refine X.splitF ?_ | refine X.sp (fun hc => ?_) (fun hc => ?_) | refine X.needT ?_ | refine X.drawX _ _ _ (by kernel_rfl) (X.frzB 0 _ _ (Nat.zero_le _) ?_) | refine X.fork _ _ ?_ ?_ | refine X.idx _ _ _ _ _ _ _ _ hes1 hj ?_ | refine X.callsGA [] k1 ?_ | refine X.callsGA [] k2 ?_ | refine X.callsGA [] k3 ?_ | fail))
    all_goals (refine X.ret _ (X.done rfl ?_); cbv <;> (and_intros <;> first | exact e1 | rfl | trivial))
end Go.Proofs.YthadehkggddgoaaGreatDoor
