/- Contract: gantmake.Works of no numbers. Plain laws: the works without numbers is valid. -/
import Derived.Test.YthadehkggddgoaaGreatDoorZMakeE
import Derived.Test.YthadehkggddgoaaGreatDoorZWorks
set_option maxRecDepth 100000
set_option maxHeartbeats 0
section
set_option linter.unusedVariables false
set_option linter.unusedSimpArgs false
namespace Go.Proofs.YthadehkggddgoaaGreatDoor
open Go Go.Num
def arm0 : Ar := (armM 0 []).1
def works0 : Wk := ⟨[arm0], [], [], [], [], Q.of (mkRat 0 8)⟩
theorem makeWorks0_ok (w : Wk) (hw : w = works0) : AE.ACall Tryz.prog 67 [] [.l 1 []] [] (.a w.c) := by
  obtain ⟨ea, hea⟩ : ∃ e, e = lsAv Ar.c w.arms := ⟨_, rfl⟩
  obtain ⟨ew, hew⟩ : ∃ e, e = lsAv wallC w.walls := ⟨_, rfl⟩
  obtain ⟨ep, hep⟩ : ∃ e, e = lsAv Pt.c w.parts := ⟨_, rfl⟩
  obtain ⟨es, hes⟩ : ∃ e, e = lsAv Sl.c w.slots := ⟨_, rfl⟩
  obtain ⟨eg, heg⟩ : ∃ e, e = lsAv Gt.c w.gates := ⟨_, rfl⟩
  obtain ⟨q, hq⟩ : ∃ q, q = Q.of (mkRat 0 8) := ⟨_, rfl⟩
  have hwq : w.walk = q := by rw [hw, hq]; rfl
  simp only [Wk.c, ← hea, ← hew, ← hep, ← hes, ← heg, hwq]
  have fw : ew = [] := by rw [hew, hw]; exact lsAv_nil _
  have fp : ep = [] := by rw [hep, hw]; exact lsAv_nil _
  have fs : es = [] := by rw [hes, hw]; exact lsAv_nil _
  have fg : eg = [] := by rw [heg, hw]; exact lsAv_nil _
  obtain ⟨a0, ha0⟩ : ∃ a, a = arm0 := ⟨_, rfl⟩
  have fa : [a0.c] = ea := by rw [hea, hw, ha0, lsAv_eq]; rfl
  obtain ⟨e0, he0⟩ : ∃ e, e = lsAv numC [] := ⟨_, rfl⟩
  have he00 : [] = e0 := by rw [he0]; exact (lsAv_nil _).symm
  refine AE.ACall.of_walk (fn := Tryz.f67) (c := bodyOf Tryz.f67) tabOK Tryz.func67 rfl rfl mixed fun A hA X => ?_
  have nx : ∀ n : Int, n ≤ 2 ^ 40 → AE.ACall Tryz.prog 135 [.box [.l 1 []] 188] [.p 0 0, .v (.int .i64 n)] [.box [.l 1 []] 188] (.v (.int .i64 0)) := fun n hn => next_ok [] (by decide) n hn [] [] (lsAv_nil _).symm (lsAv_nil _).symm 0 rfl
  have n2 := nx 2 (by decide)
  have n3 := nx 3 (by decide)
  have n4 := nx 4 (by decide)
  have k1 := makeArm_ok 0 (by decide) 0 rfl [] (by decide) [] [] (lsAv_nil _).symm (lsAv_nil _).symm a0 ha0
  have k2 := makeOf_ok 0 8 (by decide) (by decide) q hq
  have c10 : A.bin .add .i64 1 0 = 1 := zadd hA rfl rfl (by decide)
  obtain ⟨gA, hgA⟩ : ∃ g : Nat → List (List AE.AV), ∀ i, g i = if i = 0 then [] else [a0.c] := ⟨_, fun _ => rfl⟩
  have g0 : [] = gA 0 := by rw [hgA]; rfl
  have g1 : ea = gA 1 := by rw [hgA, if_neg (by decide), fa]
  (repeat' (first | (refine X.g ?_; cbv) | refine X.splitT ?_ | refine X.splitF ?_ | refine X.sp (fun hc => ?_) (fun hc => ?_) | refine X.needT ?_ | (refine X.calls [1] n2 ?_ ?_ ?_ ?_; (focus (cbv; done)); (focus (cbv <;> (and_intros <;> first | rfl | trivial))); (focus (cbv; done))) | fail))
  refine X.loopG _ _ _ (X.nilB 2 0 79 12 _ _ ?_)
  (refine X.g ?_; cbv)
  refine rangesS X 0 1 (fun _ => True) (fun z _ => [(18, .v (.int .i64 z))]) (fun i o => o.set 3 (.row 79 12 (gA i))) trivial ?_ (fun i z hz hi hI B hB => ?_) (fun z hz hI B => ?_)
  · (cbv <;> (and_intros <;> first | exact g0 | rfl | trivial))
  · have hi0 : i = 0 := by omega
    subst hi0
    have hz0 : z = 0 := by rw [hz]; rfl
    subst hz0
    have c1 : A.cmp .lss 0 (A.bin .add .i64 1 0) = true := by rw [c10, AE.c_lss hA]; rfl
    have hgrow : ∀ c, AE.GrowR (A.llen (gA 0)) (A.llen [c]) 168 := fun c => grow1 hA (n := 8) (by rw [← g0]; simp) (by decide) (by decide)
    have e1 : A.lapp (gA 0) [a0.c] = gA (0 + 1) := by rw [← g0, ← fa.trans g1]; subst hA; rfl
    have hB' := hB (A.bin .add .i64 0 1) (by rw [zadd hA rfl rfl (by decide)]; rfl) trivial
    clear hB
    (repeat' (first | (refine X.g ?_; cbv) | refine X.splitT ?_ | refine X.splitF ?_ | refine X.sp (fun hc => ?_) (fun hc => ?_) | refine X.needT ?_ | refine X.drawX _ _ _ (by kernel_rfl) ?_ | refine X.fork _ _ ?_ ?_ | (refine X.calls [1] k1 ?_ ?_ ?_ ?_; (focus (cbv; done)); (focus (cbv <;> (and_intros <;> first | rfl | trivial))); (focus (cbv; done))) | refine X.need _ _ _ (hgrow _) ?_ | fail))
    all_goals (refine hB' _ ?_; clear hB'; (cbv <;> (and_intros <;> first | exact e1 | rfl | trivial)))
  have hz0 : z = 1 := by rw [hz]; rfl
  subst hz0
  have c1 : A.cmp .lss 1 (A.bin .add .i64 1 0) = false := by rw [c10, AE.c_lss hA]; rfl
  have c00 : A.cmp .lss 0 0 = false := by rw [AE.c_lss hA]; rfl
  have c20 : A.cmp .lss 0 (A.bin .add .i64 (A.llen []) 0) = false := by
    have : A.llen [] = 0 := by subst hA; rfl
    rw [this, zadd hA rfl rfl (by decide), AE.c_lss hA]; rfl
  have c21 : A.cmp .lss 0 (A.bin .add .i64 0 0) = false := by rw [zadd hA rfl rfl (by decide), AE.c_lss hA]; rfl
  refine X.frz 3 _ _ ?_
  (repeat' (first | (refine X.g ?_; cbv) | refine X.splitT ?_ | refine X.splitF ?_ | refine X.sp (fun hc => ?_) (fun hc => ?_) | refine X.needT ?_ | (refine X.calls [1] n2 ?_ ?_ ?_ ?_; (focus (cbv; done)); (focus (cbv <;> (and_intros <;> first | rfl | trivial))); (focus (cbv; done))) | (refine X.calls [1] n3 ?_ ?_ ?_ ?_; (focus (cbv; done)); (focus (cbv <;> (and_intros <;> first | rfl | trivial))); (focus (cbv; done))) | refine X.drawX _ _ _ (by kernel_rfl) ?_ | refine X.fork _ _ ?_ ?_ | fail))
  refine ranges0 X 0 0 (fun _ => True) (fun z _ => [(32, .v (.int .i64 z))]) trivial (by (cbv <;> (and_intros <;> first | rfl | trivial))) (fun i z hz hi => absurd hi (Nat.not_lt_zero _)) (fun z hz hI B => ?_)
  obtain rfl : z = 0 := hz
  (repeat' (first | (refine X.g ?_; cbv) | refine X.splitT ?_ | refine X.splitF ?_ | refine X.sp (fun hc => ?_) (fun hc => ?_) | refine X.needT ?_ | (refine X.calls [1] n2 ?_ ?_ ?_ ?_; (focus (cbv; done)); (focus (cbv <;> (and_intros <;> first | rfl | trivial))); (focus (cbv; done))) | (refine X.calls [1] n3 ?_ ?_ ?_ ?_; (focus (cbv; done)); (focus (cbv <;> (and_intros <;> first | rfl | trivial))); (focus (cbv; done))) | refine X.drawX _ _ _ (by kernel_rfl) ?_ | refine X.fork _ _ ?_ ?_ | fail))
  refine ranges0 X 0 0 (fun _ => True) (fun z _ => [(67, .v (.int .i64 z))]) trivial (by (cbv <;> (and_intros <;> first | rfl | trivial))) (fun i z hz hi => absurd hi (Nat.not_lt_zero _)) (fun z hz hI B => ?_)
  obtain rfl : z = 0 := hz
  (repeat' (first | (refine X.g ?_; cbv) | refine X.splitT ?_ | refine X.splitF ?_ | refine X.sp (fun hc => ?_) (fun hc => ?_) | refine X.needT ?_ | (refine X.calls [1] n2 ?_ ?_ ?_ ?_; (focus (cbv; done)); (focus (cbv <;> (and_intros <;> first | rfl | trivial))); (focus (cbv; done))) | (refine X.calls [1] n3 ?_ ?_ ?_ ?_; (focus (cbv; done)); (focus (cbv <;> (and_intros <;> first | rfl | trivial))); (focus (cbv; done))) | refine X.drawX _ _ _ (by kernel_rfl) ?_ | refine X.fork _ _ ?_ ?_ | fail))
  all_goals refine ranges0 X 0 0 (fun _ => True) (fun z _ => [(93, .v (.int .i64 z))]) trivial (by (cbv <;> (and_intros <;> first | rfl | trivial))) (fun i z hz hi => absurd hi (Nat.not_lt_zero _)) (fun z hz hI B => ?_)
  all_goals obtain rfl : z = 0 := hz
  (repeat' (first | (refine X.g ?_; cbv) | refine X.splitT ?_ | refine X.splitF ?_ | refine X.sp (fun hc => ?_) (fun hc => ?_) | refine X.needT ?_ | (refine X.calls [1] n2 ?_ ?_ ?_ ?_; (focus (cbv; done)); (focus (cbv <;> (and_intros <;> first | rfl | trivial))); (focus (cbv; done))) | (refine X.calls [1] n3 ?_ ?_ ?_ ?_; (focus (cbv; done)); (focus (cbv <;> (and_intros <;> first | rfl | trivial))); (focus (cbv; done))) | refine X.drawX _ _ _ (by kernel_rfl) ?_ | refine X.fork _ _ ?_ ?_ | fail))
  all_goals refine ranges0 X 0 0 (fun _ => True) (fun z _ => [(126, .v (.int .i64 z))]) trivial (by (cbv <;> (and_intros <;> first | rfl | trivial))) (fun i z hz hi => absurd hi (Nat.not_lt_zero _)) (fun z hz hI B => ?_)
  all_goals obtain rfl : z = 0 := hz
  all_goals (repeat' (first | (refine X.g ?_; cbv) | refine X.splitT ?_ | refine X.splitF ?_ | refine X.sp (fun hc => ?_) (fun hc => ?_) | refine X.needT ?_ | (refine X.calls [1] n4 ?_ ?_ ?_ ?_; (focus (cbv; done)); (focus (cbv <;> (and_intros <;> first | rfl | trivial))); (focus (cbv; done))) | refine X.callsA [] k2 ?_ | fail))
  all_goals (refine X.ret _ (X.done rfl ?_); cbv <;> (and_intros <;> first | exact g1.symm | exact fw.symm | exact fp.symm | exact fs.symm | exact fg.symm | exact fw | exact fp | exact fs | exact fg | rfl | trivial))
end Go.Proofs.YthadehkggddgoaaGreatDoor
end
section
set_option linter.unusedVariables false
set_option linter.unusedSimpArgs false
namespace Go.Proofs.YthadehkggddgoaaGreatDoor
open Go Go.Num
theorem smallOf (r : Rat) : (Q.of r).Small ↔ r.num.natAbs ≤ 1000000 ∧ r.den ≤ 1000 := by
  constructor
  · rintro ⟨_, h1, h2⟩
    rw [Q.bnum] at h1
    rw [Q.bden] at h2
    exact ⟨h1, h2⟩
  · rintro ⟨h1, h2⟩
    exact ⟨Q.of_good r, by rw [Q.bnum]; exact h1, by rw [Q.bden]; exact h2⟩
def link0 : Lk := ⟨Q.of (mkRat 4 4), Q.of (mkRat (-1) 3), Q.of (mkRat 1 3), Q.of (mkRat 1 4), Q.of (mkRat 1 10), rectM (-1) (-1) 5 1⟩
theorem arm0_eq : arm0 = ⟨nameM 0, ⟨atM 0 0, ⟨false, Q.of (mkRat 0 1)⟩⟩, [link0]⟩ := rfl
theorem szOf {r : Rat} (h1 : r.num.natAbs < 256 ^ 4) (h2 : r.den < 256 ^ 4) : (Q.of r).sz ≤ 4 := by rw [sz_of]; exact rs_le.2 ⟨h1, h2⟩
theorem at_sz {x y : Int} (h1 : (mkRat x 4).num.natAbs < 256 ^ 4) (h2 : (mkRat x 4).den < 256 ^ 4) (h3 : (mkRat y 4).num.natAbs < 256 ^ 4) (h4 : (mkRat y 4).den < 256 ^ 4) : (atM x y).sz ≤ 4 := by
  have := szOf h1 h2
  have := szOf h3 h4
  simp only [atM, V2.of, V2.sz]; omega
theorem rect0_sz : ∀ p ∈ rectM (-1) (-1) 5 1, p.sz ≤ 2 ^ 28 := by
  intro p hp
  simp only [rectM, List.mem_cons, List.not_mem_nil, or_false] at hp
  have key : p.sz ≤ 4 := by rcases hp with rfl | rfl | rfl | rfl <;> exact at_sz (by decide +kernel) (by decide +kernel) (by decide +kernel) (by decide +kernel)
  omega
theorem link0_le : link0.le (2 ^ 28) := by
  have e : ∀ {r : Rat}, r.num.natAbs < 256 ^ 4 → r.den < 256 ^ 4 → (Q.of r).sz ≤ 2 ^ 28 := fun h1 h2 => by have := szOf h1 h2; omega
  exact ⟨e (by decide +kernel) (by decide +kernel), e (by decide +kernel) (by decide +kernel), e (by decide +kernel) (by decide +kernel), e (by decide +kernel) (by decide +kernel), e (by decide +kernel) (by decide +kernel), rect0_sz, by decide⟩
theorem works0_le : works0.Le := by
  refine ⟨?_, by decide, by simp [works0], by decide, by simp [works0], by decide, by simp [works0], by decide, by simp [works0], by decide, ?_⟩
  · intro a ha
    have : a = arm0 := by simpa [works0] using ha
    subst this
    rw [arm0_eq]
    refine ⟨by decide, ⟨?_, ?_⟩, ?_, by decide⟩
    · have := at_sz (x := 0) (y := 0) (by decide +kernel) (by decide +kernel) (by decide +kernel) (by decide +kernel)
      show (atM 0 0).sz ≤ _; omega
    · have := szOf (r := mkRat 0 1) (by decide +kernel) (by decide +kernel)
      show (Q.of _).sz ≤ _; omega
    · intro k hk
      have : k = link0 := by simpa using hk
      subst this; exact link0_le
  · have := szOf (r := mkRat 0 8) (by decide +kernel) (by decide +kernel)
    show (Q.of _).sz ≤ _; omega
theorem poly0 : polyC 8 (rectM (-1) (-1) 5 1) = 0 := by
  have h : (rectM (-1) (-1) 5 1).map V2.v = [⟨mkRat (-1) 4, mkRat (-1) 4⟩, ⟨mkRat 5 4, mkRat (-1) 4⟩, ⟨mkRat 5 4, mkRat 1 4⟩, ⟨mkRat (-1) 4, mkRat 1 4⟩] := by
    simp only [rectM, atM, List.map, V2.v_of]
  rw [polyC, h]
  decide +kernel
theorem link0_ok : linkC link0 = 0 := by
  have s : ∀ {r : Rat}, r.num.natAbs ≤ 1000000 ∧ r.den ≤ 1000 → (Q.of r).Small := fun h => (smallOf _).2 h
  have h1 : ∀ q ∈ [link0.length, link0.low, link0.high, link0.speed, link0.brake], q.Small := by
    simp only [link0, List.mem_cons, List.not_mem_nil, or_false, forall_eq_or_imp, forall_eq]
    exact ⟨s (by decide +kernel), s (by decide +kernel), s (by decide +kernel), s (by decide +kernel), s (by decide +kernel)⟩
  have h2 : ∀ p ∈ link0.shape, p.Small := by
    show ∀ p ∈ rectM (-1) (-1) 5 1, p.Small
    simp only [rectM, List.mem_cons, List.not_mem_nil, or_false, forall_eq_or_imp, forall_eq]
    exact ⟨⟨s (by decide +kernel), s (by decide +kernel)⟩, ⟨s (by decide +kernel), s (by decide +kernel)⟩, ⟨s (by decide +kernel), s (by decide +kernel)⟩, ⟨s (by decide +kernel), s (by decide +kernel)⟩⟩
  have e1 : sgnR link0.length.v = 1 := by show sgnR (Q.of _).v = 1; rw [Q.v_of]; decide +kernel
  have e2 : cmpR link0.low.v link0.high.v = -1 := by show cmpR (Q.of _).v (Q.of _).v = -1; rw [Q.v_of, Q.v_of]; decide +kernel
  have e3 : sgnR link0.speed.v = 1 := by show sgnR (Q.of _).v = 1; rw [Q.v_of]; decide +kernel
  have e4 : sgnR link0.brake.v = 1 := by show sgnR (Q.of _).v = 1; rw [Q.v_of]; decide +kernel
  rw [linkC, decide_eq_true h1, decide_eq_true h2, e1, e2, e3, e4, show polyC 8 link0.shape = 0 from poly0]
  rfl
theorem arm0_ok : armC arm0 = 0 := by
  have s : ∀ {r : Rat}, r.num.natAbs ≤ 1000000 ∧ r.den ≤ 1000 → (Q.of r).Small := fun h => (smallOf _).2 h
  have h1 : ∀ q ∈ [arm0.base.at_.x, arm0.base.at_.y, arm0.base.turn.t], q.Small := by
    rw [arm0_eq]
    simp only [atM, V2.of, List.mem_cons, List.not_mem_nil, or_false, forall_eq_or_imp, forall_eq]
    exact ⟨s (by decide +kernel), s (by decide +kernel), s (by decide +kernel)⟩
  have h2 : nameOK arm0.name := by rw [arm0_eq]; decide +kernel
  rw [armC, decide_eq_true h1, decide_eq_true h2]
  rw [arm0_eq]
  show armI true 1 true false _ (firstE linkC [link0]) = 0
  rw [firstE, link0_ok]
  rfl
theorem works0_ok : worksC works0 = 0 := by
  have h1 : wksA works0 = (0, [nameM 0]) := by
    show eachN armN [] [arm0] = _
    have : armN [] arm0 = (0, [nameM 0]) := by
      rw [armN, arm0_ok, arm0_eq]
      show addN [] (nameM 0) = _
      rw [addN, if_neg (by rw [Classical.not_not]; decide +kernel), if_neg (by simp)]; rfl
    rw [eachN, this]; rfl
  have s : (Q.of (mkRat 0 8)).Small := (smallOf _).2 (by decide +kernel)
  have e1 : sgnR works0.walk.v = 0 := by show sgnR (Q.of _).v = 0; rw [Q.v_of]; decide +kernel
  have e2 : (wksP works0).1 = 0 := rfl
  have e3 : (wksS works0).1 = 0 := rfl
  have e4 : (wksG works0).1 = 0 := rfl
  rw [worksC, h1, e1, e2, e3, e4, show works0.walk = Q.of (mkRat 0 8) from rfl, decide_eq_true s]
  rfl
end Go.Proofs.YthadehkggddgoaaGreatDoor
end
