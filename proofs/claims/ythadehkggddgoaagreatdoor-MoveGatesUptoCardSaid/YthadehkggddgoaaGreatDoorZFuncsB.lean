/- Contracts: slices.IndexFunc and ContainsFunc at the program's types (written by tools/gencl.py). Contracts: slices.Clone at the program's types, works.Copy, as values that are only read (written by tools/gencopy.py). Contracts: slices.Clone at more types; slices.IndexFunc and ContainsFunc of frames and numbers. -/
import Derived.Test.YthadehkggddgoaaGreatDoorZArm
import Derived.Test.YthadehkggddgoaaGreatDoorZLoop
import Derived.Test.YthadehkggddgoaaGreatDoorZRatB
section
section
set_option maxRecDepth 100000
set_option maxHeartbeats 0
set_option linter.unusedVariables false
set_option linter.unusedSimpArgs false
namespace Go.Proofs.YthadehkggddgoaaGreatDoor
open Go Go.Num
def idxB {α : Type} (p : α → Bool) (l : List α) : Int := match l.findIdx? p with | some i => i | none => -1
theorem idx_hit {α : Type} {p : α → Bool} {l : List α} {i : Nat} {y : α} (h : ∀ x ∈ l.take i, p x = false) (hy : l[i]? = some y) (hp : p y = true) : idxB p l = i := by
  obtain ⟨hi, rfl⟩ := List.getElem?_eq_some_iff.1 hy
  have : l.findIdx? p = some i := by
    rw [List.findIdx?_eq_some_iff_getElem]
    refine ⟨hi, hp, fun j hj => ?_⟩
    have := h (l[j]'(by omega)) (List.mem_take_iff_getElem.2 ⟨j, by omega, rfl⟩)
    rw [this]; simp
  rw [idxB, this]
theorem idx_none {α : Type} {p : α → Bool} {l : List α} (h : ∀ x ∈ l, p x = false) : idxB p l = -1 := by
  have : l.findIdx? p = none := by rw [List.findIdx?_eq_none_iff]; exact h
  rw [idxB, this]
theorem idx_ge {α : Type} (p : α → Bool) (l : List α) : decide (0 ≤ idxB p l) = l.any p := by
  by_cases h : ∀ x ∈ l, p x = false
  · rw [idx_none h]
    have : l.any p = false := by rw [List.any_eq_false]; intro x hx; rw [h x hx]; simp
    rw [this]; rfl
  · have h2 : l.any p = true := by
      rw [List.any_eq_true]
      exact Classical.byContradiction fun hn => h fun x hx => by
        cases hp : p x
        · rfl
        · exact absurd ⟨x, hx, hp⟩ hn
    rw [h2, idxB]
    cases hq : l.findIdx? p with
    | none => rw [List.findIdx?_eq_none_iff] at hq; exact absurd hq h
    | some i => exact decide_eq_true (Int.natCast_nonneg i)
theorem take_all {α : Type} {p : α → Bool} {l : List α} {i : Nat} {y : α} (h : ∀ x ∈ l.take i, p x = false) (hy : l[i]? = some y) (hp : p y = false) : ∀ x ∈ l.take (i + 1), p x = false := by
  rw [List.take_add_one, hy]
  intro x hx
  rcases List.mem_append.1 hx with hx | hx
  · exact h x hx
  · simp at hx; rw [hx]; exact hp
theorem idxVec_ok (l : List V2) (hl : l.length < 2 ^ 40) (es : List (List AE.AV)) (hes : es = lsAv V2.c l) (fn : Nat) (p : V2 → Bool) (each : ∀ y ∈ l, ∀ b, b = p y → AE.ACallG GG Tryz.prog (fn % 1000000) [] [.a (V2.c y)] [] (.b b)) (r : Int) (hr : r = idxB p l) : AE.ACallG GG Tryz.prog 169 [] [.l 6 es, .f fn []] [] (.v (.int .i64 r)) := by
  refine AE.ACallG.of_walk (fn := Tryz.f169) (c := bodyOf Tryz.f169) GG_stays tabOK Tryz.func169 rfl rfl mixed fun A hA X => ?_
  (repeat' (first | (refine X.g ?_; cbv) | refine X.splitT ?_ | refine X.splitF ?_ | refine X.sp (fun hc => ?_) (fun hc => ?_) | refine X.needT ?_))
  refine rangeL0 X hA hes (by omega) (fun i => ∀ x ∈ l.take i, p x = false) (fun z _ => [(8, .v (.int .i64 z))]) (fun x h => by simp at h) ?_ (fun i z y hz hy he c3 hI B hB => ?_) (fun z c3 hI B => ?_)
  · (cbv <;> (and_intros <;> first | rfl | trivial))
  · obtain ⟨b, hb⟩ : ∃ b, b = p y := ⟨_, rfl⟩
    have k1 := each y (List.mem_of_getElem? hy) b hb
    clear each
    cases hb' : b
    · have hI' := take_all hI hy (by rw [← hb, hb'])
      (repeat' (first | (refine X.g ?_; cbv) | refine X.splitT ?_ | refine X.splitF ?_ | refine X.sp (fun hc => ?_) (fun hc => ?_) | refine X.needT ?_ | refine X.idx _ _ _ _ _ _ _ _ he hz ?_ | refine X.callsGA [] k1 ?_))
      all_goals (refine hB hI' _ ?_; clear hB; (cbv <;> (and_intros <;> first | rfl | trivial)))
    · have e1 : z = r := by rw [hr, idx_hit hI hy (by rw [← hb, hb']), hz]
      clear hB
      (repeat' (first | (refine X.g ?_; cbv) | refine X.splitT ?_ | refine X.splitF ?_ | refine X.sp (fun hc => ?_) (fun hc => ?_) | refine X.needT ?_ | refine X.idx _ _ _ _ _ _ _ _ he hz ?_ | refine X.callsGA [] k1 ?_))
      all_goals (refine X.ret _ (X.done rfl ?_); cbv <;> (and_intros <;> first | exact e1 | rfl | trivial))
  · rw [List.take_length] at hI
    have e1 : -1 = r := by rw [hr, idx_none hI]
    (repeat' (first | (refine X.g ?_; cbv) | refine X.splitT ?_ | refine X.splitF ?_ | refine X.sp (fun hc => ?_) (fun hc => ?_) | refine X.needT ?_))
    all_goals (refine X.ret _ (X.done rfl ?_); cbv <;> (and_intros <;> first | exact e1 | rfl | trivial))
theorem hasVec_ok (l : List V2) (hl : l.length < 2 ^ 40) (es : List (List AE.AV)) (hes : es = lsAv V2.c l) (fn : Nat) (p : V2 → Bool) (each : ∀ y ∈ l, ∀ b, b = p y → AE.ACallG GG Tryz.prog (fn % 1000000) [] [.a (V2.c y)] [] (.b b)) (r : Bool) (hr : r = l.any p) : AE.ACallG GG Tryz.prog 104 [] [.l 6 es, .f fn []] [] (.b r) := by
  refine AE.ACallG.of_walk (fn := Tryz.f104) (c := bodyOf Tryz.f104) GG_stays tabOK Tryz.func104 rfl rfl mixed fun A hA X => ?_
  obtain ⟨z, hz⟩ : ∃ z, z = idxB p l := ⟨_, rfl⟩
  have k1 := idxVec_ok l hl es hes fn p each z hz
  clear each
  have e1 : A.cmp .geq z 0 = r := by rw [AE.c_geq hA, hr, hz, idx_ge]
  (repeat' (first | (refine X.g ?_; cbv) | refine X.splitT ?_ | refine X.splitF ?_ | refine X.sp (fun hc => ?_) (fun hc => ?_) | refine X.callsGA [] k1 ?_ | refine X.needT ?_))
  all_goals (refine X.ret _ (X.done rfl ?_); cbv <;> (and_intros <;> first | exact e1 | rfl | trivial))
end Go.Proofs.YthadehkggddgoaaGreatDoor
end
section
set_option maxRecDepth 100000
set_option maxHeartbeats 0
set_option linter.unusedVariables false
set_option linter.unusedSimpArgs false
namespace Go.Proofs.YthadehkggddgoaaGreatDoor
open Go Go.Num
theorem grow0 {A : AE.Ari} (hA : A = AE.std) {es : List (List AE.AV)} {n : Nat} (h : es.length ≤ n) {b : Nat} (hb : n * b ≤ 140737488355328) (hn : n < 2 ^ 60) : AE.GrowR (A.llen []) (A.llen es) b := by
  have h1 : A.llen [] = 0 := by subst hA; rfl
  have h2 : A.llen es = (es.length : Int) := llen hA es
  have h3 : es.length * b ≤ n * b := Nat.mul_le_mul_right _ h
  constructor
  · rw [h1, h2]; omega
  · rw [h1, h2]
    have : ((0 + (es.length : Int)) * (b : Int)) = ((es.length * b : Nat) : Int) := by rw [Int.natCast_mul, Int.zero_add]
    rw [this]; omega
theorem cloneVec_ok (es : List (List AE.AV)) (hl : es.length ≤ 2 ^ 30) : AE.ACall Tryz.prog 63 [] [.l 6 es] [] (.l 6 es) := by
  refine AE.ACall.of_walk (fn := Tryz.f63) (c := bodyOf Tryz.f63) tabOK Tryz.func63 rfl rfl mixed fun A hA X => ?_
  have hg := grow0 hA hl (b := 80) (by decide) (by decide)
  have e1 : A.lapp [] es = es := by subst hA; rfl
  (refine X.g ?_; cbv)
  refine X.coin _ _ _ _ _ (fun b hb => ?_)
  cases b
  · (repeat' (first | (refine X.g ?_; cbv) | refine X.splitT ?_ | refine X.splitF ?_ | refine X.sp (fun hc => ?_) (fun hc => ?_) | refine X.needT ?_ | refine X.need _ _ _ hg ?_))
    all_goals (refine X.ret _ (X.frz 0 _ _ (X.done rfl ?_)); cbv <;> (and_intros <;> first | exact e1 | rfl | trivial))
  · have e2 := hb rfl
    (repeat' (first | (refine X.g ?_; cbv) | refine X.splitT ?_ | refine X.splitF ?_ | refine X.sp (fun hc => ?_) (fun hc => ?_) | refine X.needT ?_))
    all_goals (refine X.ret _ (X.done rfl ?_); cbv <;> (and_intros <;> first | exact e2 | rfl | trivial))
structure Wk.Few (w : Wk) : Prop where
  arms : w.arms.length ≤ 2 ^ 30
  links : ∀ a ∈ w.arms, a.links.length ≤ 2 ^ 30 ∧ ∀ k ∈ a.links, k.shape.length ≤ 2 ^ 30
  walls : w.walls.length ≤ 2 ^ 30 ∧ ∀ l ∈ w.walls, l.length ≤ 2 ^ 30
  parts : w.parts.length ≤ 2 ^ 30 ∧ ∀ p ∈ w.parts, p.shape.length ≤ 2 ^ 30
  slots : w.slots.length ≤ 2 ^ 30
  gates : w.gates.length ≤ 2 ^ 30
end Go.Proofs.YthadehkggddgoaaGreatDoor
end
end
section
set_option maxRecDepth 100000
set_option maxHeartbeats 0
set_option linter.unusedVariables false
set_option linter.unusedSimpArgs false
namespace Go.Proofs.YthadehkggddgoaaGreatDoor
open Go Go.Num
theorem cloneFrame_ok (es : List (List AE.AV)) (hl : es.length ≤ 2 ^ 30) : AE.ACall Tryz.prog 79 [] [.l 10 es] [] (.l 10 es) := by
  refine AE.ACall.of_walk (fn := Tryz.f79) (c := bodyOf Tryz.f79) tabOK Tryz.func79 rfl rfl mixed fun A hA X => ?_
  have hg := grow0 hA hl (b := 128) (by decide) (by decide)
  have e1 : A.lapp [] es = es := by subst hA; rfl
  (refine X.g ?_; cbv)
  refine X.coin _ _ _ _ _ (fun b hb => ?_)
  cases b
  · (repeat' (first | (refine X.g ?_; cbv) | refine X.splitT ?_ | refine X.splitF ?_ | refine X.sp (fun hc => ?_) (fun hc => ?_) | refine X.needT ?_ | refine X.need _ _ _ hg ?_))
    all_goals (refine X.ret _ (X.frz 0 _ _ (X.done rfl ?_)); cbv <;> (and_intros <;> first | exact e1 | rfl | trivial))
  · have e2 := hb rfl
    (repeat' (first | (refine X.g ?_; cbv) | refine X.splitT ?_ | refine X.splitF ?_ | refine X.sp (fun hc => ?_) (fun hc => ?_) | refine X.needT ?_))
    all_goals (refine X.ret _ (X.done rfl ?_); cbv <;> (and_intros <;> first | exact e2 | rfl | trivial))
theorem cloneRat_ok (es : List (List AE.AV)) (hl : es.length ≤ 2 ^ 30) : AE.ACall Tryz.prog 80 [] [.l 3 es] [] (.l 3 es) := by
  refine AE.ACall.of_walk (fn := Tryz.f80) (c := bodyOf Tryz.f80) tabOK Tryz.func80 rfl rfl mixed fun A hA X => ?_
  have hg := grow0 hA hl (b := 40) (by decide) (by decide)
  have e1 : A.lapp [] es = es := by subst hA; rfl
  (refine X.g ?_; cbv)
  refine X.coin _ _ _ _ _ (fun b hb => ?_)
  cases b
  · (repeat' (first | (refine X.g ?_; cbv) | refine X.splitT ?_ | refine X.splitF ?_ | refine X.sp (fun hc => ?_) (fun hc => ?_) | refine X.needT ?_ | refine X.need _ _ _ hg ?_))
    all_goals (refine X.ret _ (X.frz 0 _ _ (X.done rfl ?_)); cbv <;> (and_intros <;> first | exact e1 | rfl | trivial))
  · have e2 := hb rfl
    (repeat' (first | (refine X.g ?_; cbv) | refine X.splitT ?_ | refine X.splitF ?_ | refine X.sp (fun hc => ?_) (fun hc => ?_) | refine X.needT ?_))
    all_goals (refine X.ret _ (X.done rfl ?_); cbv <;> (and_intros <;> first | exact e2 | rfl | trivial))
theorem cloneBool_ok (es : List (List AE.AV)) (hl : es.length ≤ 2 ^ 30) : AE.ACall Tryz.prog 60 [] [.l 1 es] [] (.l 1 es) := by
  refine AE.ACall.of_walk (fn := Tryz.f60) (c := bodyOf Tryz.f60) tabOK Tryz.func60 rfl rfl mixed fun A hA X => ?_
  have hg := grow0 hA hl (b := 1) (by decide) (by decide)
  have e1 : A.lapp [] es = es := by subst hA; rfl
  (refine X.g ?_; cbv)
  refine X.coin _ _ _ _ _ (fun b hb => ?_)
  cases b
  · (repeat' (first | (refine X.g ?_; cbv) | refine X.splitT ?_ | refine X.splitF ?_ | refine X.sp (fun hc => ?_) (fun hc => ?_) | refine X.needT ?_ | refine X.need _ _ _ hg ?_))
    all_goals (refine X.ret _ (X.frz 0 _ _ (X.done rfl ?_)); cbv <;> (and_intros <;> first | exact e1 | rfl | trivial))
  · have e2 := hb rfl
    (repeat' (first | (refine X.g ?_; cbv) | refine X.splitT ?_ | refine X.splitF ?_ | refine X.sp (fun hc => ?_) (fun hc => ?_) | refine X.needT ?_))
    all_goals (refine X.ret _ (X.done rfl ?_); cbv <;> (and_intros <;> first | exact e2 | rfl | trivial))
theorem idxFrame_ok (l : List Fr) (hl : l.length < 2 ^ 40) (es : List (List AE.AV)) (hes : es = lsAv Fr.c l) (fn : Nat) (p : Fr → Bool) (each : ∀ y ∈ l, ∀ b, b = p y → AE.ACallG GG Tryz.prog (fn % 1000000) [] [.a (Fr.c y)] [] (.b b)) (r : Int) (hr : r = idxB p l) : AE.ACallG GG Tryz.prog 168 [] [.l 10 es, .f fn []] [] (.v (.int .i64 r)) := by
  refine AE.ACallG.of_walk (fn := Tryz.f168) (c := bodyOf Tryz.f168) GG_stays tabOK Tryz.func168 rfl rfl mixed fun A hA X => ?_
  (repeat' (first | (refine X.g ?_; cbv) | refine X.splitT ?_ | refine X.splitF ?_ | refine X.sp (fun hc => ?_) (fun hc => ?_) | refine X.needT ?_))
  refine rangeL0 X hA hes (by omega) (fun i => ∀ x ∈ l.take i, p x = false) (fun z _ => [(8, .v (.int .i64 z))]) (fun x h => by simp at h) ?_ (fun i z y hz hy he c3 hI B hB => ?_) (fun z c3 hI B => ?_)
  · (cbv <;> (and_intros <;> first | rfl | trivial))
  · obtain ⟨b, hb⟩ : ∃ b, b = p y := ⟨_, rfl⟩
    have k1 := each y (List.mem_of_getElem? hy) b hb
    clear each
    cases hb' : b
    · have hI' := take_all hI hy (by rw [← hb, hb'])
      (repeat' (first | (refine X.g ?_; cbv) | refine X.splitT ?_ | refine X.splitF ?_ | refine X.sp (fun hc => ?_) (fun hc => ?_) | refine X.needT ?_ | refine X.idx _ _ _ _ _ _ _ _ he hz ?_ | refine X.callsGA [] k1 ?_))
      all_goals (refine hB hI' _ ?_; clear hB; (cbv <;> (and_intros <;> first | rfl | trivial)))
    · have e1 : z = r := by rw [hr, idx_hit hI hy (by rw [← hb, hb']), hz]
      clear hB
      (repeat' (first | (refine X.g ?_; cbv) | refine X.splitT ?_ | refine X.splitF ?_ | refine X.sp (fun hc => ?_) (fun hc => ?_) | refine X.needT ?_ | refine X.idx _ _ _ _ _ _ _ _ he hz ?_ | refine X.callsGA [] k1 ?_))
      all_goals (refine X.ret _ (X.done rfl ?_); cbv <;> (and_intros <;> first | exact e1 | rfl | trivial))
  · rw [List.take_length] at hI
    have e1 : -1 = r := by rw [hr, idx_none hI]
    (repeat' (first | (refine X.g ?_; cbv) | refine X.splitT ?_ | refine X.splitF ?_ | refine X.sp (fun hc => ?_) (fun hc => ?_) | refine X.needT ?_))
    all_goals (refine X.ret _ (X.done rfl ?_); cbv <;> (and_intros <;> first | exact e1 | rfl | trivial))
theorem hasFrame_ok (l : List Fr) (hl : l.length < 2 ^ 40) (es : List (List AE.AV)) (hes : es = lsAv Fr.c l) (fn : Nat) (p : Fr → Bool) (each : ∀ y ∈ l, ∀ b, b = p y → AE.ACallG GG Tryz.prog (fn % 1000000) [] [.a (Fr.c y)] [] (.b b)) (r : Bool) (hr : r = l.any p) : AE.ACallG GG Tryz.prog 101 [] [.l 10 es, .f fn []] [] (.b r) := by
  refine AE.ACallG.of_walk (fn := Tryz.f101) (c := bodyOf Tryz.f101) GG_stays tabOK Tryz.func101 rfl rfl mixed fun A hA X => ?_
  obtain ⟨z, hz⟩ : ∃ z, z = idxB p l := ⟨_, rfl⟩
  have k1 := idxFrame_ok l hl es hes fn p each z hz
  clear each
  have e1 : A.cmp .geq z 0 = r := by rw [AE.c_geq hA, hr, hz, idx_ge]
  (repeat' (first | (refine X.g ?_; cbv) | refine X.splitT ?_ | refine X.splitF ?_ | refine X.sp (fun hc => ?_) (fun hc => ?_) | refine X.callsGA [] k1 ?_ | refine X.needT ?_))
  all_goals (refine X.ret _ (X.done rfl ?_); cbv <;> (and_intros <;> first | exact e1 | rfl | trivial))
theorem idxRat_ok (l : List Q) (hl : l.length < 2 ^ 40) (es : List (List AE.AV)) (hes : es = lsAv Q.c l) (fn : Nat) (p : Q → Bool) (each : ∀ y ∈ l, ∀ b, b = p y → AE.ACallG GG Tryz.prog (fn % 1000000) [] [.a (Q.c y)] [] (.b b)) (r : Int) (hr : r = idxB p l) : AE.ACallG GG Tryz.prog 119 [] [.l 3 es, .f fn []] [] (.v (.int .i64 r)) := by
  refine AE.ACallG.of_walk (fn := Tryz.f119) (c := bodyOf Tryz.f119) GG_stays tabOK Tryz.func119 rfl rfl mixed fun A hA X => ?_
  (repeat' (first | (refine X.g ?_; cbv) | refine X.splitT ?_ | refine X.splitF ?_ | refine X.sp (fun hc => ?_) (fun hc => ?_) | refine X.needT ?_))
  refine rangeL0 X hA hes (by omega) (fun i => ∀ x ∈ l.take i, p x = false) (fun z _ => [(8, .v (.int .i64 z))]) (fun x h => by simp at h) ?_ (fun i z y hz hy he c3 hI B hB => ?_) (fun z c3 hI B => ?_)
  · (cbv <;> (and_intros <;> first | rfl | trivial))
  · obtain ⟨b, hb⟩ : ∃ b, b = p y := ⟨_, rfl⟩
    have k1 := each y (List.mem_of_getElem? hy) b hb
    clear each
    cases hb' : b
    · have hI' := take_all hI hy (by rw [← hb, hb'])
      (repeat' (first | (refine X.g ?_; cbv) | refine X.splitT ?_ | refine X.splitF ?_ | refine X.sp (fun hc => ?_) (fun hc => ?_) | refine X.needT ?_ | refine X.idx _ _ _ _ _ _ _ _ he hz ?_ | refine X.callsGA [] k1 ?_))
      all_goals (refine hB hI' _ ?_; clear hB; (cbv <;> (and_intros <;> first | rfl | trivial)))
    · have e1 : z = r := by rw [hr, idx_hit hI hy (by rw [← hb, hb']), hz]
      clear hB
      (repeat' (first | (refine X.g ?_; cbv) | refine X.splitT ?_ | refine X.splitF ?_ | refine X.sp (fun hc => ?_) (fun hc => ?_) | refine X.needT ?_ | refine X.idx _ _ _ _ _ _ _ _ he hz ?_ | refine X.callsGA [] k1 ?_))
      all_goals (refine X.ret _ (X.done rfl ?_); cbv <;> (and_intros <;> first | exact e1 | rfl | trivial))
  · rw [List.take_length] at hI
    have e1 : -1 = r := by rw [hr, idx_none hI]
    (repeat' (first | (refine X.g ?_; cbv) | refine X.splitT ?_ | refine X.splitF ?_ | refine X.sp (fun hc => ?_) (fun hc => ?_) | refine X.needT ?_))
    all_goals (refine X.ret _ (X.done rfl ?_); cbv <;> (and_intros <;> first | exact e1 | rfl | trivial))
theorem hasRat_ok (l : List Q) (hl : l.length < 2 ^ 40) (es : List (List AE.AV)) (hes : es = lsAv Q.c l) (fn : Nat) (p : Q → Bool) (each : ∀ y ∈ l, ∀ b, b = p y → AE.ACallG GG Tryz.prog (fn % 1000000) [] [.a (Q.c y)] [] (.b b)) (r : Bool) (hr : r = l.any p) : AE.ACallG GG Tryz.prog 47 [] [.l 3 es, .f fn []] [] (.b r) := by
  refine AE.ACallG.of_walk (fn := Tryz.f47) (c := bodyOf Tryz.f47) GG_stays tabOK Tryz.func47 rfl rfl mixed fun A hA X => ?_
  obtain ⟨z, hz⟩ : ∃ z, z = idxB p l := ⟨_, rfl⟩
  have k1 := idxRat_ok l hl es hes fn p each z hz
  clear each
  have e1 : A.cmp .geq z 0 = r := by rw [AE.c_geq hA, hr, hz, idx_ge]
  (repeat' (first | (refine X.g ?_; cbv) | refine X.splitT ?_ | refine X.splitF ?_ | refine X.sp (fun hc => ?_) (fun hc => ?_) | refine X.callsGA [] k1 ?_ | refine X.needT ?_))
  all_goals (refine X.ret _ (X.done rfl ?_); cbv <;> (and_intros <;> first | exact e1 | rfl | trivial))
end Go.Proofs.YthadehkggddgoaaGreatDoor
end
