/- Contracts: slices.Equal of numbers, points, frames and truth values; world.Same, world.Moving, world.Copy as a value. -/
import Derived.Test.YthadehkggddgoaaGreatDoorZMoveO
import Derived.Test.YthadehkggddgoaaGreatDoorZFitS
set_option maxRecDepth 100000
set_option maxHeartbeats 0
set_option linter.unusedVariables false
set_option linter.unusedSimpArgs false
namespace Go.Proofs.YthadehkggddgoaaGreatDoor
open Go Go.Num
theorem eqsRat_ok (l m : List Q) (hl : l.length < 2 ^ 40) (hm : m.length < 2 ^ 40) (es et : List (List AE.AV)) (hes : es = lsAv Q.c l) (het : et = lsAv Q.c m) (r : Bool) (hr : r = decide (l = m)) : AE.ACall Tryz.prog 82 [] [.l 3 es, .l 3 et] [] (.b r) := by
  refine AE.ACall.of_walk (fn := Tryz.f82) (c := bodyOf Tryz.f82) tabOK Tryz.func82 rfl rfl mixed fun A hA X => ?_
  have h1 : A.llen es = (l.length : Int) := by rw [llen hA, hes, lsAv_len]
  have h2 : A.llen et = (m.length : Int) := by rw [llen hA, het, lsAv_len]
  by_cases hlm : l.length = m.length
  · have c1 : A.cmp .neq (A.llen es) (A.llen et) = false := by rw [AE.c_neq hA, h1, h2, hlm]; simp
    (repeat' (first | (refine X.g ?_; cbv) | refine X.splitT ?_ | refine X.splitF ?_ | refine X.sp (fun hc => ?_) (fun hc => ?_) | refine X.needT ?_ | fail))
    refine rangeL0 X hA hes (by omega) (fun i => l.take i = m.take i) (fun z _ => [(13, .v (.int .i64 z))]) rfl ?_ (fun i z y hz hy hey c3 hI B hB => ?_) (fun z c3 hI B => ?_)
    · (cbv <;> (and_intros <;> first | rfl | trivial))
    · have hi : i < l.length := (List.getElem?_eq_some_iff.1 hy).1
      obtain ⟨u, hu⟩ : ∃ x, m[i]? = some x := ⟨_, List.getElem?_eq_getElem (by omega)⟩
      have heu : et[i]? = some (Q.c u) := by rw [het]; exact lsAv_get hu
      have hq : A.bnot (A.band (A.bcmp .eql y.1 u.1) (A.band (A.scmp .eql y.2 u.2) (A.scmp .eql y.3 u.3))) = !decide (y = u) := by rw [AE.c_not hA]; exact congrArg _ (eqQ_eq hA y u)
      by_cases h : y = u
      · rw [decide_eq_true h] at hq
        have hq : A.bnot (A.band (A.bcmp .eql y.1 u.1) (A.band (A.scmp .eql y.2 u.2) (A.scmp .eql y.3 u.3))) = false := hq
        have hI' : l.take (i + 1) = m.take (i + 1) := by rw [take_snoc hy, take_snoc hu, hI, h]
        (repeat' (first | (refine X.g ?_; cbv) | refine X.splitT ?_ | refine X.splitF ?_ | refine X.sp (fun hc => ?_) (fun hc => ?_) | refine X.needT ?_ | refine X.drawX _ _ _ (by kernel_rfl) ?_ | refine X.fork _ _ ?_ ?_ | refine X.idx _ _ _ _ _ _ _ _ hey hz ?_ | refine X.idx _ _ _ _ _ _ _ _ heu hz ?_ | fail))
        all_goals (refine hB hI' _ ?_; clear hB; (cbv <;> (and_intros <;> first | rfl | trivial)))
      · rw [decide_eq_false h] at hq
        have hq : A.bnot (A.band (A.bcmp .eql y.1 u.1) (A.band (A.scmp .eql y.2 u.2) (A.scmp .eql y.3 u.3))) = true := hq
        have e1 : false = r := by
          rw [hr]; symm; apply decide_eq_false
          intro e; subst e; rw [hy] at hu; exact h (Option.some.inj hu)
        clear hB
        (repeat' (first | (refine X.g ?_; cbv) | refine X.splitT ?_ | refine X.splitF ?_ | refine X.sp (fun hc => ?_) (fun hc => ?_) | refine X.needT ?_ | refine X.drawX _ _ _ (by kernel_rfl) ?_ | refine X.fork _ _ ?_ ?_ | refine X.idx _ _ _ _ _ _ _ _ hey hz ?_ | refine X.idx _ _ _ _ _ _ _ _ heu hz ?_ | fail))
        all_goals (refine X.ret _ (X.done rfl ?_); cbv <;> (and_intros <;> first | exact e1 | rfl | trivial))
    · have e1 : true = r := by
        rw [hr]; symm; apply decide_eq_true
        rw [List.take_length, hlm, List.take_length] at hI; exact hI
      (repeat' (first | (refine X.g ?_; cbv) | refine X.splitT ?_ | refine X.splitF ?_ | refine X.sp (fun hc => ?_) (fun hc => ?_) | refine X.needT ?_ | fail))
      all_goals (refine X.ret _ (X.done rfl ?_); cbv <;> (and_intros <;> first | exact e1 | rfl | trivial))
  · have c1 : A.cmp .neq (A.llen es) (A.llen et) = true := by rw [AE.c_neq hA, h1, h2]; simp; omega
    have e1 : false = r := by rw [hr]; symm; apply decide_eq_false; intro e; exact hlm (by rw [e])
    (repeat' (first | (refine X.g ?_; cbv) | refine X.splitT ?_ | refine X.splitF ?_ | refine X.sp (fun hc => ?_) (fun hc => ?_) | refine X.needT ?_ | fail))
    all_goals (refine X.ret _ (X.done rfl ?_); cbv <;> (and_intros <;> first | exact e1 | rfl | trivial))
theorem eqsVec_ok (l m : List V2) (hl : l.length < 2 ^ 40) (hm : m.length < 2 ^ 40) (es et : List (List AE.AV)) (hes : es = lsAv V2.c l) (het : et = lsAv V2.c m) (r : Bool) (hr : r = decide (l = m)) : AE.ACall Tryz.prog 84 [] [.l 6 es, .l 6 et] [] (.b r) := by
  refine AE.ACall.of_walk (fn := Tryz.f84) (c := bodyOf Tryz.f84) tabOK Tryz.func84 rfl rfl mixed fun A hA X => ?_
  have h1 : A.llen es = (l.length : Int) := by rw [llen hA, hes, lsAv_len]
  have h2 : A.llen et = (m.length : Int) := by rw [llen hA, het, lsAv_len]
  by_cases hlm : l.length = m.length
  · have c1 : A.cmp .neq (A.llen es) (A.llen et) = false := by rw [AE.c_neq hA, h1, h2, hlm]; simp
    (repeat' (first | (refine X.g ?_; cbv) | refine X.splitT ?_ | refine X.splitF ?_ | refine X.sp (fun hc => ?_) (fun hc => ?_) | refine X.needT ?_ | fail))
    refine rangeL0 X hA hes (by omega) (fun i => l.take i = m.take i) (fun z _ => [(13, .v (.int .i64 z))]) rfl ?_ (fun i z y hz hy hey c3 hI B hB => ?_) (fun z c3 hI B => ?_)
    · (cbv <;> (and_intros <;> first | rfl | trivial))
    · have hi : i < l.length := (List.getElem?_eq_some_iff.1 hy).1
      obtain ⟨u, hu⟩ : ∃ x, m[i]? = some x := ⟨_, List.getElem?_eq_getElem (by omega)⟩
      have heu : et[i]? = some (V2.c u) := by rw [het]; exact lsAv_get hu
      have hq : A.bnot (A.band (A.band (A.bcmp .eql y.1.1 u.1.1) (A.band (A.scmp .eql y.1.2 u.1.2) (A.scmp .eql y.1.3 u.1.3))) (A.band (A.bcmp .eql y.2.1 u.2.1) (A.band (A.scmp .eql y.2.2 u.2.2) (A.scmp .eql y.2.3 u.2.3)))) = !decide (y = u) := by rw [AE.c_not hA]; exact congrArg _ (eqV2_eq hA y u)
      by_cases h : y = u
      · rw [decide_eq_true h] at hq
        have hq : A.bnot (A.band (A.band (A.bcmp .eql y.1.1 u.1.1) (A.band (A.scmp .eql y.1.2 u.1.2) (A.scmp .eql y.1.3 u.1.3))) (A.band (A.bcmp .eql y.2.1 u.2.1) (A.band (A.scmp .eql y.2.2 u.2.2) (A.scmp .eql y.2.3 u.2.3)))) = false := hq
        have hI' : l.take (i + 1) = m.take (i + 1) := by rw [take_snoc hy, take_snoc hu, hI, h]
        (repeat' (first | (refine X.g ?_; cbv) | refine X.splitT ?_ | refine X.splitF ?_ | refine X.sp (fun hc => ?_) (fun hc => ?_) | refine X.needT ?_ | refine X.drawX _ _ _ (by kernel_rfl) ?_ | refine X.fork _ _ ?_ ?_ | refine X.idx _ _ _ _ _ _ _ _ hey hz ?_ | refine X.idx _ _ _ _ _ _ _ _ heu hz ?_ | fail))
        all_goals (refine hB hI' _ ?_; clear hB; (cbv <;> (and_intros <;> first | rfl | trivial)))
      · rw [decide_eq_false h] at hq
        have hq : A.bnot (A.band (A.band (A.bcmp .eql y.1.1 u.1.1) (A.band (A.scmp .eql y.1.2 u.1.2) (A.scmp .eql y.1.3 u.1.3))) (A.band (A.bcmp .eql y.2.1 u.2.1) (A.band (A.scmp .eql y.2.2 u.2.2) (A.scmp .eql y.2.3 u.2.3)))) = true := hq
        have e1 : false = r := by
          rw [hr]; symm; apply decide_eq_false
          intro e; subst e; rw [hy] at hu; exact h (Option.some.inj hu)
        clear hB
        (repeat' (first | (refine X.g ?_; cbv) | refine X.splitT ?_ | refine X.splitF ?_ | refine X.sp (fun hc => ?_) (fun hc => ?_) | refine X.needT ?_ | refine X.drawX _ _ _ (by kernel_rfl) ?_ | refine X.fork _ _ ?_ ?_ | refine X.idx _ _ _ _ _ _ _ _ hey hz ?_ | refine X.idx _ _ _ _ _ _ _ _ heu hz ?_ | fail))
        all_goals (refine X.ret _ (X.done rfl ?_); cbv <;> (and_intros <;> first | exact e1 | rfl | trivial))
    · have e1 : true = r := by
        rw [hr]; symm; apply decide_eq_true
        rw [List.take_length, hlm, List.take_length] at hI; exact hI
      (repeat' (first | (refine X.g ?_; cbv) | refine X.splitT ?_ | refine X.splitF ?_ | refine X.sp (fun hc => ?_) (fun hc => ?_) | refine X.needT ?_ | fail))
      all_goals (refine X.ret _ (X.done rfl ?_); cbv <;> (and_intros <;> first | exact e1 | rfl | trivial))
  · have c1 : A.cmp .neq (A.llen es) (A.llen et) = true := by rw [AE.c_neq hA, h1, h2]; simp; omega
    have e1 : false = r := by rw [hr]; symm; apply decide_eq_false; intro e; exact hlm (by rw [e])
    (repeat' (first | (refine X.g ?_; cbv) | refine X.splitT ?_ | refine X.splitF ?_ | refine X.sp (fun hc => ?_) (fun hc => ?_) | refine X.needT ?_ | fail))
    all_goals (refine X.ret _ (X.done rfl ?_); cbv <;> (and_intros <;> first | exact e1 | rfl | trivial))
theorem eqsFrame_ok (l m : List Fr) (hl : l.length < 2 ^ 40) (hm : m.length < 2 ^ 40) (es et : List (List AE.AV)) (hes : es = lsAv Fr.c l) (het : et = lsAv Fr.c m) (r : Bool) (hr : r = decide (l = m)) : AE.ACall Tryz.prog 32 [] [.l 10 es, .l 10 et] [] (.b r) := by
  refine AE.ACall.of_walk (fn := Tryz.f32) (c := bodyOf Tryz.f32) tabOK Tryz.func32 rfl rfl mixed fun A hA X => ?_
  have h1 : A.llen es = (l.length : Int) := by rw [llen hA, hes, lsAv_len]
  have h2 : A.llen et = (m.length : Int) := by rw [llen hA, het, lsAv_len]
  by_cases hlm : l.length = m.length
  · have c1 : A.cmp .neq (A.llen es) (A.llen et) = false := by rw [AE.c_neq hA, h1, h2, hlm]; simp
    (repeat' (first | (refine X.g ?_; cbv) | refine X.splitT ?_ | refine X.splitF ?_ | refine X.sp (fun hc => ?_) (fun hc => ?_) | refine X.needT ?_ | fail))
    refine rangeL0 X hA hes (by omega) (fun i => l.take i = m.take i) (fun z _ => [(13, .v (.int .i64 z))]) rfl ?_ (fun i z y hz hy hey c3 hI B hB => ?_) (fun z c3 hI B => ?_)
    · (cbv <;> (and_intros <;> first | rfl | trivial))
    · have hi : i < l.length := (List.getElem?_eq_some_iff.1 hy).1
      obtain ⟨u, hu⟩ : ∃ x, m[i]? = some x := ⟨_, List.getElem?_eq_getElem (by omega)⟩
      have heu : et[i]? = some (Fr.c u) := by rw [het]; exact lsAv_get hu
      have hq : A.bnot (A.band (A.band (A.band (A.bcmp .eql y.1.1.1 u.1.1.1) (A.band (A.scmp .eql y.1.1.2 u.1.1.2) (A.scmp .eql y.1.1.3 u.1.1.3))) (A.band (A.bcmp .eql y.1.2.1 u.1.2.1) (A.band (A.scmp .eql y.1.2.2 u.1.2.2) (A.scmp .eql y.1.2.3 u.1.2.3)))) (A.band (A.bcmp .eql y.2.1 u.2.1) (A.band (A.bcmp .eql y.2.2.1 u.2.2.1) (A.band (A.scmp .eql y.2.2.2 u.2.2.2) (A.scmp .eql y.2.2.3 u.2.2.3))))) = !decide (y = u) := by rw [AE.c_not hA]; exact congrArg _ (eqFr_eq hA y u)
      by_cases h : y = u
      · rw [decide_eq_true h] at hq
        have hq : A.bnot (A.band (A.band (A.band (A.bcmp .eql y.1.1.1 u.1.1.1) (A.band (A.scmp .eql y.1.1.2 u.1.1.2) (A.scmp .eql y.1.1.3 u.1.1.3))) (A.band (A.bcmp .eql y.1.2.1 u.1.2.1) (A.band (A.scmp .eql y.1.2.2 u.1.2.2) (A.scmp .eql y.1.2.3 u.1.2.3)))) (A.band (A.bcmp .eql y.2.1 u.2.1) (A.band (A.bcmp .eql y.2.2.1 u.2.2.1) (A.band (A.scmp .eql y.2.2.2 u.2.2.2) (A.scmp .eql y.2.2.3 u.2.2.3))))) = false := hq
        have hI' : l.take (i + 1) = m.take (i + 1) := by rw [take_snoc hy, take_snoc hu, hI, h]
        (repeat' (first | (refine X.g ?_; cbv) | refine X.splitT ?_ | refine X.splitF ?_ | refine X.sp (fun hc => ?_) (fun hc => ?_) | refine X.needT ?_ | refine X.drawX _ _ _ (by kernel_rfl) ?_ | refine X.fork _ _ ?_ ?_ | refine X.idx _ _ _ _ _ _ _ _ hey hz ?_ | refine X.idx _ _ _ _ _ _ _ _ heu hz ?_ | fail))
        all_goals (refine hB hI' _ ?_; clear hB; (cbv <;> (and_intros <;> first | rfl | trivial)))
      · rw [decide_eq_false h] at hq
        have hq : A.bnot (A.band (A.band (A.band (A.bcmp .eql y.1.1.1 u.1.1.1) (A.band (A.scmp .eql y.1.1.2 u.1.1.2) (A.scmp .eql y.1.1.3 u.1.1.3))) (A.band (A.bcmp .eql y.1.2.1 u.1.2.1) (A.band (A.scmp .eql y.1.2.2 u.1.2.2) (A.scmp .eql y.1.2.3 u.1.2.3)))) (A.band (A.bcmp .eql y.2.1 u.2.1) (A.band (A.bcmp .eql y.2.2.1 u.2.2.1) (A.band (A.scmp .eql y.2.2.2 u.2.2.2) (A.scmp .eql y.2.2.3 u.2.2.3))))) = true := hq
        have e1 : false = r := by
          rw [hr]; symm; apply decide_eq_false
          intro e; subst e; rw [hy] at hu; exact h (Option.some.inj hu)
        clear hB
        (repeat' (first | (refine X.g ?_; cbv) | refine X.splitT ?_ | refine X.splitF ?_ | refine X.sp (fun hc => ?_) (fun hc => ?_) | refine X.needT ?_ | refine X.drawX _ _ _ (by kernel_rfl) ?_ | refine X.fork _ _ ?_ ?_ | refine X.idx _ _ _ _ _ _ _ _ hey hz ?_ | refine X.idx _ _ _ _ _ _ _ _ heu hz ?_ | fail))
        all_goals (refine X.ret _ (X.done rfl ?_); cbv <;> (and_intros <;> first | exact e1 | rfl | trivial))
    · have e1 : true = r := by
        rw [hr]; symm; apply decide_eq_true
        rw [List.take_length, hlm, List.take_length] at hI; exact hI
      (repeat' (first | (refine X.g ?_; cbv) | refine X.splitT ?_ | refine X.splitF ?_ | refine X.sp (fun hc => ?_) (fun hc => ?_) | refine X.needT ?_ | fail))
      all_goals (refine X.ret _ (X.done rfl ?_); cbv <;> (and_intros <;> first | exact e1 | rfl | trivial))
  · have c1 : A.cmp .neq (A.llen es) (A.llen et) = true := by rw [AE.c_neq hA, h1, h2]; simp; omega
    have e1 : false = r := by rw [hr]; symm; apply decide_eq_false; intro e; exact hlm (by rw [e])
    (repeat' (first | (refine X.g ?_; cbv) | refine X.splitT ?_ | refine X.splitF ?_ | refine X.sp (fun hc => ?_) (fun hc => ?_) | refine X.needT ?_ | fail))
    all_goals (refine X.ret _ (X.done rfl ?_); cbv <;> (and_intros <;> first | exact e1 | rfl | trivial))
theorem eqsBool_ok (l m : List Bool) (hl : l.length < 2 ^ 40) (hm : m.length < 2 ^ 40) (es et : List (List AE.AV)) (hes : es = lsAv boolC l) (het : et = lsAv boolC m) (r : Bool) (hr : r = decide (l = m)) : AE.ACall Tryz.prog 85 [] [.l 1 es, .l 1 et] [] (.b r) := by
  refine AE.ACall.of_walk (fn := Tryz.f85) (c := bodyOf Tryz.f85) tabOK Tryz.func85 rfl rfl mixed fun A hA X => ?_
  have h1 : A.llen es = (l.length : Int) := by rw [llen hA, hes, lsAv_len]
  have h2 : A.llen et = (m.length : Int) := by rw [llen hA, het, lsAv_len]
  by_cases hlm : l.length = m.length
  · have c1 : A.cmp .neq (A.llen es) (A.llen et) = false := by rw [AE.c_neq hA, h1, h2, hlm]; simp
    (repeat' (first | (refine X.g ?_; cbv) | refine X.splitT ?_ | refine X.splitF ?_ | refine X.sp (fun hc => ?_) (fun hc => ?_) | refine X.needT ?_ | fail))
    refine rangeL0 X hA hes (by omega) (fun i => l.take i = m.take i) (fun z _ => [(13, .v (.int .i64 z))]) rfl ?_ (fun i z y hz hy hey c3 hI B hB => ?_) (fun z c3 hI B => ?_)
    · (cbv <;> (and_intros <;> first | rfl | trivial))
    · have hi : i < l.length := (List.getElem?_eq_some_iff.1 hy).1
      obtain ⟨u, hu⟩ : ∃ x, m[i]? = some x := ⟨_, List.getElem?_eq_getElem (by omega)⟩
      have heu : et[i]? = some (boolC u) := by rw [het]; exact lsAv_get hu
      have hq : A.bcmp .neq y u = !decide (y = u) := by exact eqB_eq hA y u
      by_cases h : y = u
      · rw [decide_eq_true h] at hq
        have hq : A.bcmp .neq y u = false := hq
        have hI' : l.take (i + 1) = m.take (i + 1) := by rw [take_snoc hy, take_snoc hu, hI, h]
        (repeat' (first | (refine X.g ?_; cbv) | refine X.splitT ?_ | refine X.splitF ?_ | refine X.sp (fun hc => ?_) (fun hc => ?_) | refine X.needT ?_ | refine X.drawX _ _ _ (by kernel_rfl) ?_ | refine X.fork _ _ ?_ ?_ | refine X.idx _ _ _ _ _ _ _ _ hey hz ?_ | refine X.idx _ _ _ _ _ _ _ _ heu hz ?_ | fail))
        all_goals (refine hB hI' _ ?_; clear hB; (cbv <;> (and_intros <;> first | rfl | trivial)))
      · rw [decide_eq_false h] at hq
        have hq : A.bcmp .neq y u = true := hq
        have e1 : false = r := by
          rw [hr]; symm; apply decide_eq_false
          intro e; subst e; rw [hy] at hu; exact h (Option.some.inj hu)
        clear hB
        (repeat' (first | (refine X.g ?_; cbv) | refine X.splitT ?_ | refine X.splitF ?_ | refine X.sp (fun hc => ?_) (fun hc => ?_) | refine X.needT ?_ | refine X.drawX _ _ _ (by kernel_rfl) ?_ | refine X.fork _ _ ?_ ?_ | refine X.idx _ _ _ _ _ _ _ _ hey hz ?_ | refine X.idx _ _ _ _ _ _ _ _ heu hz ?_ | fail))
        all_goals (refine X.ret _ (X.done rfl ?_); cbv <;> (and_intros <;> first | exact e1 | rfl | trivial))
    · have e1 : true = r := by
        rw [hr]; symm; apply decide_eq_true
        rw [List.take_length, hlm, List.take_length] at hI; exact hI
      (repeat' (first | (refine X.g ?_; cbv) | refine X.splitT ?_ | refine X.splitF ?_ | refine X.sp (fun hc => ?_) (fun hc => ?_) | refine X.needT ?_ | fail))
      all_goals (refine X.ret _ (X.done rfl ?_); cbv <;> (and_intros <;> first | exact e1 | rfl | trivial))
  · have c1 : A.cmp .neq (A.llen es) (A.llen et) = true := by rw [AE.c_neq hA, h1, h2]; simp; omega
    have e1 : false = r := by rw [hr]; symm; apply decide_eq_false; intro e; exact hlm (by rw [e])
    (repeat' (first | (refine X.g ?_; cbv) | refine X.splitT ?_ | refine X.splitF ?_ | refine X.sp (fun hc => ?_) (fun hc => ?_) | refine X.needT ?_ | fail))
    all_goals (refine X.ret _ (X.done rfl ?_); cbv <;> (and_intros <;> first | exact e1 | rfl | trivial))
theorem same1_ok (x y : As) (hx : x.q.length < 2 ^ 40 ∧ x.v.length < 2 ^ 40) (hy : y.q.length < 2 ^ 40 ∧ y.v.length < 2 ^ 40) (r : Bool) (hr : r = decide (x = y)) : AE.ACallG GG Tryz.prog 81 [] [.a x.c, .a y.c] [] (.b r) := by
  obtain ⟨q1, v1, p1, h1⟩ := x
  obtain ⟨q2, v2, p2, h2⟩ := y
  simp only at hx hy
  obtain ⟨b1, hb1⟩ : ∃ b, b = decide (q1 = q2) := ⟨_, rfl⟩
  obtain ⟨b2, hb2⟩ : ∃ b, b = decide (v1 = v2) := ⟨_, rfl⟩
  obtain ⟨e1, he1⟩ : ∃ es, es = lsAv Q.c q1 := ⟨_, rfl⟩
  obtain ⟨e2, he2⟩ : ∃ es, es = lsAv Q.c q2 := ⟨_, rfl⟩
  obtain ⟨f1, hf1⟩ : ∃ es, es = lsAv Q.c v1 := ⟨_, rfl⟩
  obtain ⟨f2, hf2⟩ : ∃ es, es = lsAv Q.c v2 := ⟨_, rfl⟩
  have k1 := eqsRat_ok q1 q2 hx.1 hy.1 e1 e2 he1 he2 b1 hb1
  have k2 := eqsRat_ok v1 v2 hx.2 hy.2 f1 f2 hf1 hf2 b2 hb2
  obtain ⟨d1, hd1⟩ : ∃ b, b = decide (p1 = p2) := ⟨_, rfl⟩
  obtain ⟨d2, hd2⟩ : ∃ b, b = decide (h1 = h2) := ⟨_, rfl⟩
  have hr : r = (b1 && b2 && d1 && d2) := by
    rw [hr, hb1, hb2, hd1, hd2, Bool.eq_iff_iff]; simp [and_assoc]
  simp only [As.c, ← he1, ← he2, ← hf1, ← hf2]
  clear hb1 hb2 he1 he2 hf1 hf2 hx hy
  refine AE.ACallG.of_walk (fn := Tryz.f81) (c := bodyOf Tryz.f81) GG_stays tabOK Tryz.func81 rfl rfl mixed fun A hA X => ?_
  have e1 : A.cmp .eql h1 h2 = d2 := by rw [AE.c_eql hA, hd2]
  have e2 : A.bcmp .eql p1 p2 = d1 := by rw [AE.c_beq hA, hd1]; cases p1 <;> cases p2 <;> rfl
  clear hd1 hd2
  (repeat' (first | (refine X.g ?_; cbv) | refine X.splitT ?_ | refine X.splitF ?_ | refine X.sp (fun hc => ?_) (fun hc => ?_) | refine X.needT ?_ | refine X.drawX _ _ _ (by kernel_rfl) (X.frzB 0 _ _ (Nat.zero_le _) (X.frzB 1 _ _ (Nat.zero_le _) ?_)) | refine X.fork _ _ ?_ ?_ | refine X.callsA [] k1 ?_ | refine X.callsA [] k2 ?_ | fail))
  all_goals (refine X.ret _ (X.done rfl ?_); cbv <;> (and_intros <;> first | rfl | trivial | (clear X k1 k2; rw [hr]; (try simp only [e1, e2] at *); clear hA hr; cases b1 <;> cases b2 <;> cases d1 <;> first | rfl | contradiction)))
theorem eqsArm_ok (l m : List As) (hl : l.length < 2 ^ 40) (hm : m.length < 2 ^ 40) (es et : List (List AE.AV)) (hes : es = lsAv As.c l) (het : et = lsAv As.c m) (fn : Nat) (each : ∀ y ∈ l, ∀ u ∈ m, ∀ b, b = decide (y = u) → AE.ACallG GG Tryz.prog (fn % 1000000) [] [.a y.c, .a u.c] [] (.b b)) (r : Bool) (hr : r = decide (l = m)) : AE.ACallG GG Tryz.prog 83 [] [.l 4 es, .l 4 et, .f fn []] [] (.b r) := by
  refine AE.ACallG.of_walk (fn := Tryz.f83) (c := bodyOf Tryz.f83) GG_stays tabOK Tryz.func83 rfl rfl mixed fun A hA X => ?_
  have h1 : A.llen es = (l.length : Int) := by rw [llen hA, hes, lsAv_len]
  have h2 : A.llen et = (m.length : Int) := by rw [llen hA, het, lsAv_len]
  have n1 : A.bnot true = false := by rw [AE.c_not hA]; rfl
  have n2 : A.bnot false = true := by rw [AE.c_not hA]; rfl
  by_cases hlm : l.length = m.length
  · have c1 : A.cmp .neq (A.llen es) (A.llen et) = false := by rw [AE.c_neq hA, h1, h2, hlm]; simp
    (repeat' (first | (refine X.g ?_; cbv) | refine X.splitT ?_ | refine X.splitF ?_ | refine X.sp (fun hc => ?_) (fun hc => ?_) | refine X.needT ?_ | fail))
    refine rangeL0 X hA hes (by omega) (fun i => l.take i = m.take i) (fun z _ => [(17, .v (.int .i64 z))]) rfl ?_ (fun i z y hz hy hey c3 hI B hB => ?_) (fun z c3 hI B => ?_)
    · (cbv <;> (and_intros <;> first | rfl | trivial))
    · have hi : i < l.length := (List.getElem?_eq_some_iff.1 hy).1
      obtain ⟨u, hu⟩ : ∃ x, m[i]? = some x := ⟨_, List.getElem?_eq_getElem (by omega)⟩
      have heu : et[i]? = some (As.c u) := by rw [het]; exact lsAv_get hu
      obtain ⟨b, hb⟩ : ∃ b, b = decide (y = u) := ⟨_, rfl⟩
      have k1 := each y (List.mem_of_getElem? hy) u (List.mem_of_getElem? hu) b hb
      clear each
      cases b
      · have h : ¬ y = u := of_decide_eq_false hb.symm
        have e1 : false = r := by
          rw [hr]; symm; apply decide_eq_false
          intro e; subst e; rw [hy] at hu; exact h (Option.some.inj hu)
        clear hB
        (repeat' (first | (refine X.g ?_; cbv) | refine X.splitT ?_ | refine X.splitF ?_ | refine X.sp (fun hc => ?_) (fun hc => ?_) | refine X.needT ?_ | refine X.drawX _ _ _ (by kernel_rfl) ?_ | refine X.fork _ _ ?_ ?_ | refine X.idx _ _ _ _ _ _ _ _ hey hz ?_ | refine X.idx _ _ _ _ _ _ _ _ heu hz ?_ | refine X.callsGA [] k1 ?_ | fail))
        all_goals (refine X.ret _ (X.done rfl ?_); cbv <;> (and_intros <;> first | exact e1 | rfl | trivial))
      · have h : y = u := of_decide_eq_true hb.symm
        have hI' : l.take (i + 1) = m.take (i + 1) := by rw [take_snoc hy, take_snoc hu, hI, h]
        (repeat' (first | (refine X.g ?_; cbv) | refine X.splitT ?_ | refine X.splitF ?_ | refine X.sp (fun hc => ?_) (fun hc => ?_) | refine X.needT ?_ | refine X.drawX _ _ _ (by kernel_rfl) ?_ | refine X.fork _ _ ?_ ?_ | refine X.idx _ _ _ _ _ _ _ _ hey hz ?_ | refine X.idx _ _ _ _ _ _ _ _ heu hz ?_ | refine X.callsGA [] k1 ?_ | fail))
        all_goals (refine hB hI' _ ?_; clear hB; (cbv <;> (and_intros <;> first | rfl | trivial)))
    · have e1 : true = r := by
        rw [hr]; symm; apply decide_eq_true
        rw [List.take_length, hlm, List.take_length] at hI; exact hI
      clear each
      (repeat' (first | (refine X.g ?_; cbv) | refine X.splitT ?_ | refine X.splitF ?_ | refine X.sp (fun hc => ?_) (fun hc => ?_) | refine X.needT ?_ | fail))
      all_goals (refine X.ret _ (X.done rfl ?_); cbv <;> (and_intros <;> first | exact e1 | rfl | trivial))
  · have c1 : A.cmp .neq (A.llen es) (A.llen et) = true := by rw [AE.c_neq hA, h1, h2]; simp; omega
    have e1 : false = r := by rw [hr]; symm; apply decide_eq_false; intro e; exact hlm (by rw [e])
    clear each
    (repeat' (first | (refine X.g ?_; cbv) | refine X.splitT ?_ | refine X.splitF ?_ | refine X.sp (fun hc => ?_) (fun hc => ?_) | refine X.needT ?_ | fail))
    all_goals (refine X.ret _ (X.done rfl ?_); cbv <;> (and_intros <;> first | exact e1 | rfl | trivial))
def Ss.Short (s : Ss) : Prop := s.arms.length < 2 ^ 40 ∧ (∀ y ∈ s.arms, y.q.length < 2 ^ 40 ∧ y.v.length < 2 ^ 40) ∧ s.parts.length < 2 ^ 40 ∧ s.people.length < 2 ^ 40 ∧ s.opens.length < 2 ^ 40
theorem Ss.Few.short {s : Ss} (h : s.Few) : s.Short := by
  obtain ⟨⟨h1, h2⟩, h3, h4, h5⟩ := h
  refine ⟨by omega, fun y hy => ?_, by omega, by omega, by omega⟩
  obtain ⟨a, b⟩ := h2 y hy
  exact ⟨by omega, by omega⟩
theorem worldSame_ok (a b : Ss) (ha : a.Short) (hb : b.Short) (r : Bool) (hr : r = decide (a = b)) : AE.ACallG GG Tryz.prog 26 [] [.a a.c, .a b.c] [] (.b r) := by
  obtain ⟨a1, a2, a3, a4, a5⟩ := ha
  obtain ⟨b1, b2, b3, b4, b5⟩ := hb
  obtain ⟨t1, x1, f1, p1, o1⟩ := a
  obtain ⟨t2, x2, f2, p2, o2⟩ := b
  simp only at a1 a2 a3 a4 a5 b1 b2 b3 b4 b5
  obtain ⟨g1, hg1⟩ : ∃ b, b = decide (x1 = x2) := ⟨_, rfl⟩
  obtain ⟨g2, hg2⟩ : ∃ b, b = decide (f1 = f2) := ⟨_, rfl⟩
  obtain ⟨g3, hg3⟩ : ∃ b, b = decide (p1 = p2) := ⟨_, rfl⟩
  obtain ⟨g4, hg4⟩ : ∃ b, b = decide (o1 = o2) := ⟨_, rfl⟩
  obtain ⟨ex1, hx1⟩ : ∃ es, es = lsAv As.c x1 := ⟨_, rfl⟩
  obtain ⟨ex2, hx2⟩ : ∃ es, es = lsAv As.c x2 := ⟨_, rfl⟩
  obtain ⟨ef1, hf1⟩ : ∃ es, es = lsAv Fr.c f1 := ⟨_, rfl⟩
  obtain ⟨ef2, hf2⟩ : ∃ es, es = lsAv Fr.c f2 := ⟨_, rfl⟩
  obtain ⟨ev1, hv1⟩ : ∃ es, es = lsAv V2.c p1 := ⟨_, rfl⟩
  obtain ⟨ev2, hv2⟩ : ∃ es, es = lsAv V2.c p2 := ⟨_, rfl⟩
  obtain ⟨eo1, ho1⟩ : ∃ es, es = lsAv boolC o1 := ⟨_, rfl⟩
  obtain ⟨eo2, ho2⟩ : ∃ es, es = lsAv boolC o2 := ⟨_, rfl⟩
  have k1 := eqsArm_ok x1 x2 a1 b1 ex1 ex2 hx1 hx2 81 (fun y hy u hu b hb => same1_ok y u (a2 y hy) (b2 u hu) b hb) g1 hg1
  have k2 := eqsFrame_ok f1 f2 a3 b3 ef1 ef2 hf1 hf2 g2 hg2
  have k3 := eqsVec_ok p1 p2 a4 b4 ev1 ev2 hv1 hv2 g3 hg3
  have k4 := eqsBool_ok o1 o2 a5 b5 eo1 eo2 ho1 ho2 g4 hg4
  obtain ⟨d1, hd1⟩ : ∃ b, b = decide (t1 = t2) := ⟨_, rfl⟩
  have hr : r = (d1 && g1 && g2 && g3 && g4) := by
    rw [hr, hg1, hg2, hg3, hg4, hd1, Bool.eq_iff_iff]; simp [and_assoc]
  simp only [Ss.c, ← hx1, ← hx2, ← hf1, ← hf2, ← hv1, ← hv2, ← ho1, ← ho2]
  clear hg1 hg2 hg3 hg4 hx1 hx2 hf1 hf2 hv1 hv2 ho1 ho2 a1 a2 a3 a4 a5 b1 b2 b3 b4 b5
  refine AE.ACallG.of_walk (fn := Tryz.f26) (c := bodyOf Tryz.f26) GG_stays tabOK Tryz.func26 rfl rfl mixed fun A hA X => ?_
  have e1 : A.cmp .eql t1 t2 = d1 := by rw [AE.c_eql hA, hd1]
  clear hd1
  (repeat' (first | (refine X.g ?_; cbv) | refine X.splitT ?_ | refine X.splitF ?_ | refine X.sp (fun hc => ?_) (fun hc => ?_) | refine X.needT ?_ | refine X.drawX _ _ _ (by kernel_rfl) (X.frzB 0 _ _ (Nat.zero_le _) (X.frzB 1 _ _ (Nat.zero_le _) ?_)) | refine X.fork _ _ ?_ ?_ | refine X.callsGA [] k1 ?_ | refine X.callsA [] k2 ?_ | refine X.callsA [] k3 ?_ | refine X.callsA [] k4 ?_ | fail))
  all_goals (refine X.ret _ (X.done rfl ?_); cbv <;> (and_intros <;> first | rfl | trivial | (clear X k1 k2 k3 k4; rw [hr]; (try simp only [e1] at *); clear hA hr; cases g1 <;> cases g2 <;> cases g3 <;> cases d1 <;> first | rfl | contradiction)))
def movB (x : As) : Bool := x.v.any fun q => decide (sgnR q.v ≠ 0)
theorem worldMoving1_ok (q : Q) (h : q.sz ≤ 2 ^ 34) (r : Bool) (hr : r = decide (sgnR q.v ≠ 0)) : AE.ACallG GG Tryz.prog 87 [] [.a q.c] [] (.b r) := by
  refine AE.ACallG.of_walk (fn := Tryz.f87) (c := bodyOf Tryz.f87) GG_stays tabOK Tryz.func87 rfl rfl mixed fun A hA X => ?_
  obtain ⟨g, hg⟩ : ∃ g, g = sgnR q.v := ⟨_, rfl⟩
  have k1 := sign_ok q h g hg
  have e1 : A.cmp .neq g 0 = r := by rw [AE.c_neq hA, hr, hg]; simp
  (repeat' (first | (refine X.g ?_; cbv) | refine X.splitT ?_ | refine X.splitF ?_ | refine X.sp (fun hc => ?_) (fun hc => ?_) | refine X.callsGA [] k1 ?_ | refine X.needT ?_ | fail))
  all_goals (refine X.ret _ (X.done rfl ?_); cbv <;> (and_intros <;> first | exact e1 | rfl | trivial))
theorem worldMoving_ok (x : As) (hx : (∀ q ∈ x.v, q.sz ≤ 2 ^ 34) ∧ x.v.length < 2 ^ 40) (r : Bool) (hr : r = movB x) : AE.ACallG GG Tryz.prog 28 [] [.a x.c] [] (.b r) := by
  obtain ⟨q, v, p, h⟩ := x
  simp only at hx
  obtain ⟨eq, heq⟩ : ∃ es, es = lsAv Q.c q := ⟨_, rfl⟩
  obtain ⟨ev, hev⟩ : ∃ es, es = lsAv Q.c v := ⟨_, rfl⟩
  have k1 := hasRat_ok v hx.2 ev hev 87 (fun q => decide (sgnR q.v ≠ 0)) (fun y hy b hb => worldMoving1_ok y (hx.1 y hy) b hb) r hr
  simp only [As.c, ← heq, ← hev]
  refine AE.ACallG.of_walk (fn := Tryz.f28) (c := bodyOf Tryz.f28) GG_stays tabOK Tryz.func28 rfl rfl mixed fun A hA X => ?_
  (repeat' (first | (refine X.g ?_; cbv) | refine X.splitT ?_ | refine X.splitF ?_ | refine X.sp (fun hc => ?_) (fun hc => ?_) | refine X.needT ?_ | refine X.drawX _ _ _ (by kernel_rfl) (X.frzB 0 _ _ (Nat.zero_le _) ?_) | refine X.fork _ _ ?_ ?_ | refine X.callsGA [] k1 ?_ | fail))
  all_goals (refine X.ret _ (X.done rfl ?_); cbv <;> (and_intros <;> first | rfl | trivial))
theorem worldCopyR_ok (s : Ss) (hs : s.Few) : AE.ACall Tryz.prog 25 [] [.a s.c] [] (.a s.c) := by
  obtain ⟨⟨f1, f2⟩, f3, f4, f5⟩ := hs
  obtain ⟨tick, xs, fs, ps, os⟩ := s
  simp only at f1 f2 f3 f4 f5
  obtain ⟨ex, hex⟩ : ∃ es, es = lsAv As.c xs := ⟨_, rfl⟩
  obtain ⟨ef, hef⟩ : ∃ es, es = lsAv Fr.c fs := ⟨_, rfl⟩
  obtain ⟨ev, hev⟩ : ∃ es, es = lsAv V2.c ps := ⟨_, rfl⟩
  obtain ⟨eo, heo⟩ : ∃ es, es = lsAv boolC os := ⟨_, rfl⟩
  simp only [Ss.c, ← hex, ← hef, ← hev, ← heo]
  have k1 := cloneFrame_ok ef (by rw [hef, lsAv_len]; exact f3)
  have k2 := cloneVec_ok ev (by rw [hev, lsAv_len]; exact f4)
  have k3 := cloneBool_ok eo (by rw [heo, lsAv_len]; exact f5)
  refine AE.ACall.of_walk (fn := Tryz.f25) (c := bodyOf Tryz.f25) tabOK Tryz.func25 rfl rfl mixed fun A hA X => ?_
  obtain ⟨gX, hgX⟩ : ∃ g : Nat → List (List AE.AV), ∀ i, g i = lsAv As.c (xs.take i) := ⟨_, fun _ => rfl⟩
  (refine X.g ?_; cbv)
  apply shareG X
  · intro hs
    refine X.drawX _ _ _ (by kernel_rfl) (X.frzB 0 _ _ (Nat.zero_le _) ?_)
    (repeat' (first | (refine X.g ?_; cbv) | refine X.splitT ?_ | refine X.splitF ?_ | refine X.sp (fun hc => ?_) (fun hc => ?_) | refine X.needT ?_ | refine X.fork _ _ ?_ ?_ | refine X.callsA [] k1 ?_ | refine X.callsA [] k2 ?_ | refine X.callsA [] k3 ?_ | fail))
    all_goals exact hs
  refine X.loopG _ _ _ (X.nilB 2 1 76 4 _ _ ?_)
  (refine X.g ?_; cbv)
  refine rangeLS X hA hex (by omega) (fun _ => True) (fun z _ => [(21, .v (.int .i64 z))]) (fun i o => o.set 3 (.row 76 4 (gX i))) trivial ?_ (fun i z y hz hy hye c3 hI B hB => ?_) (fun z c3 hI B => ?_)
  · have h0 : [] = gX 0 := by rw [hgX]; exact (lsAv_nil _).symm
    (cbv <;> (and_intros <;> first | exact h0 | rfl | trivial))
  · obtain ⟨g1, g2⟩ := f2 y (List.mem_of_getElem? hy)
    have e1 := lapp_take hA hy (hgX i) (hgX (i + 1))
    obtain ⟨q, v, power, holds⟩ := y
    simp only at g1 g2
    obtain ⟨eq, heq⟩ : ∃ es, es = lsAv Q.c q := ⟨_, rfl⟩
    obtain ⟨ew, hew⟩ : ∃ es, es = lsAv Q.c v := ⟨_, rfl⟩
    simp only [As.c, ← heq, ← hew] at hye e1
    have k4 := cloneRat_ok eq (by rw [heq, lsAv_len]; exact g1)
    have k5 := cloneRat_ok ew (by rw [hew, lsAv_len]; exact g2)
    have hgrow : ∀ c, AE.GrowR (A.llen (gX i)) (A.llen [c]) 64 := fun c => grow1 hA (n := 2 ^ 30) (by rw [hgX]; exact Nat.le_trans (take_len _ _ _) f1) (by decide) (by decide)
    clear k1 k2 k3
    (repeat' (first | (refine X.g ?_; cbv) | refine X.splitT ?_ | refine X.splitF ?_ | refine X.sp (fun hc => ?_) (fun hc => ?_) | refine X.needT ?_ | refine X.idx _ _ _ _ _ _ _ _ hye hz ?_ | fail))
    apply shareG X
    · intro hs
      refine X.drawX _ _ _ (by kernel_rfl) ?_
      (repeat' (first | (refine X.g ?_; cbv) | refine X.splitT ?_ | refine X.splitF ?_ | refine X.sp (fun hc => ?_) (fun hc => ?_) | refine X.needT ?_ | refine X.fork _ _ ?_ ?_ | refine X.callsA [] k4 ?_ | refine X.callsA [] k5 ?_ | fail))
      all_goals exact hs
    (repeat' (first | (refine X.g ?_; cbv) | refine X.splitT ?_ | refine X.splitF ?_ | refine X.sp (fun hc => ?_) (fun hc => ?_) | refine X.needT ?_ | refine X.need _ _ _ (hgrow _) ?_ | fail))
    all_goals (refine hB trivial _ ?_; clear hB; (cbv <;> (and_intros <;> first | exact e1 | rfl | trivial)))
  · have r1 : gX xs.length = ex := by rw [hgX, List.take_length, hex]
    (repeat' (first | (refine X.g ?_; cbv) | refine X.splitT ?_ | refine X.splitF ?_ | refine X.sp (fun hc => ?_) (fun hc => ?_) | refine X.needT ?_ | fail))
    all_goals (refine X.ret _ (X.frz 3 _ _ (X.done rfl ?_)); cbv <;> (and_intros <;> first | exact r1 | rfl | trivial))
end Go.Proofs.YthadehkggddgoaaGreatDoor
