/- Contracts: slices.IndexFunc and ContainsFunc at the program's types (written by tools/gencl.py). -/
import Derived.Test.YthadehkggddgoaaGreatDoorZArm
set_option linter.unusedVariables false
set_option linter.unusedSimpArgs false
namespace Go.Proofs.YthadehkggddgoaaGreatDoor
open Go Go.Num
def idxB {α : Type} (p : α → Bool) (l : List α) : Int := match l.findIdx? p with | some i => i | none => -1
theorem idx_hit {α : Type} {p : α → Bool} {l : List α} {i : Nat} {y : α} (h : ∀ x ∈ l.take i, p x = false) (hy : l[i]? = some y) (hp : p y = true) : idxB p l = i := by
  obtain ⟨hi, rfl⟩ := List.getElem?_eq_some_iff.1 hy
  have : l.findIdx? p = some i := by
    rw [List.findIdx?_eq_some_iff_getElem]
    refine ⟨hi, hp, fun j hj => ?_⟩
    have := h (l[j]'(by omega)) (List.mem_take_iff_getElem.2 ⟨j, by omega, rfl⟩)
    rw [this]; simp
  rw [idxB, this]
theorem idx_none {α : Type} {p : α → Bool} {l : List α} (h : ∀ x ∈ l, p x = false) : idxB p l = -1 := by
  have : l.findIdx? p = none := by rw [List.findIdx?_eq_none_iff]; exact h
  rw [idxB, this]
theorem idx_ge {α : Type} (p : α → Bool) (l : List α) : decide (0 ≤ idxB p l) = l.any p := by
  by_cases h : ∀ x ∈ l, p x = false
  · rw [idx_none h]
    have : l.any p = false := by rw [List.any_eq_false]; intro x hx; rw [h x hx]; simp
    rw [this]; rfl
  · have h2 : l.any p = true := by
      rw [List.any_eq_true]
      exact Classical.byContradiction fun hn => h fun x hx => by
        cases hp : p x
        · rfl
        · exact absurd ⟨x, hx, hp⟩ hn
    rw [h2, idxB]
    cases hq : l.findIdx? p with
    | none => rw [List.findIdx?_eq_none_iff] at hq; exact absurd hq h
    | some i => exact decide_eq_true (Int.natCast_nonneg i)
theorem take_all {α : Type} {p : α → Bool} {l : List α} {i : Nat} {y : α} (h : ∀ x ∈ l.take i, p x = false) (hy : l[i]? = some y) (hp : p y = false) : ∀ x ∈ l.take (i + 1), p x = false := by
  rw [List.take_add_one, hy]
  intro x hx
  rcases List.mem_append.1 hx with hx | hx
  · exact h x hx
  · simp at hx; rw [hx]; exact hp
set_option maxRecDepth 100000 in
set_option maxHeartbeats 0 in
theorem idxVec_ok (l : List V2) (hl : l.length < 2 ^ 40) (es : List (List AE.AV)) (hes : es = lsAv V2.c l) (fn : Nat) (p : V2 → Bool) (each : ∀ y ∈ l, ∀ b, b = p y → AE.ACallG GG Tryz.prog (fn % 1000000) [] [.a (V2.c y)] [] (.b b)) (r : Int) (hr : r = idxB p l) : AE.ACallG GG Tryz.prog 169 [] [.l 6 es, .f fn []] [] (.v (.int .i64 r)) := by
  refine AE.ACallG.of_walk (fn := Tryz.f169) (c := bodyOf Tryz.f169) GG_stays tabOK Tryz.func169 rfl rfl mixed fun A hA X => ?_
  (repeat' (first | (refine X.go 500 _ _ ?_; cbv) | (first | refine X.splitT ?_ | refine X.splitF ?_ | refine X.split _ _ _ _ _ (fun hc => ?_) (fun hc => ?_)) | refine X.need _ _ _ trivial ?_ | fail))
  refine rangeL0 X hA hes (by omega) (fun i => ∀ x ∈ l.take i, p x = false) (fun z _ => [(8, .v (.int .i64 z))]) (fun x h => by simp at h) ?_ (fun i z y hz hy he c3 hI B hB => ?_) (fun z c3 hI B => ?_)
  · (cbv <;> ((repeat' apply And.intro) <;> first | rfl | trivial))
  · obtain ⟨b, hb⟩ : ∃ b, b = p y := ⟨_, rfl⟩
    have k1 := each y (List.mem_of_getElem? hy) b hb
    clear each
    cases hb' : b
    · have hI' := take_all hI hy (by rw [← hb, hb'])
      (repeat' (first | (refine X.go 500 _ _ ?_; cbv) | (first | refine X.splitT ?_ | refine X.splitF ?_ | refine X.split _ _ _ _ _ (fun hc => ?_) (fun hc => ?_)) | refine X.need _ _ _ trivial ?_ | refine X.idx _ _ _ _ _ _ _ _ he hz ?_ | refine X.callsGA [] k1 ?_ | fail))
      all_goals (refine hB hI' _ ?_; clear hB; (cbv <;> ((repeat' apply And.intro) <;> first | rfl | trivial)))
    · have e1 : z = r := by rw [hr, idx_hit hI hy (by rw [← hb, hb']), hz]
      clear hB
      (repeat' (first | (refine X.go 500 _ _ ?_; cbv) | (first | refine X.splitT ?_ | refine X.splitF ?_ | refine X.split _ _ _ _ _ (fun hc => ?_) (fun hc => ?_)) | refine X.need _ _ _ trivial ?_ | refine X.idx _ _ _ _ _ _ _ _ he hz ?_ | refine X.callsGA [] k1 ?_ | fail))
      all_goals (refine X.ret _ (X.done rfl ?_); cbv <;> ((repeat' apply And.intro) <;> first | exact e1 | rfl | trivial))
  · rw [List.take_length] at hI
    have e1 : -1 = r := by rw [hr, idx_none hI]
    (repeat' (first | (refine X.go 500 _ _ ?_; cbv) | (first | refine X.splitT ?_ | refine X.splitF ?_ | refine X.split _ _ _ _ _ (fun hc => ?_) (fun hc => ?_)) | refine X.need _ _ _ trivial ?_ | fail))
    all_goals (refine X.ret _ (X.done rfl ?_); cbv <;> ((repeat' apply And.intro) <;> first | exact e1 | rfl | trivial))
theorem hasVec_ok (l : List V2) (hl : l.length < 2 ^ 40) (es : List (List AE.AV)) (hes : es = lsAv V2.c l) (fn : Nat) (p : V2 → Bool) (each : ∀ y ∈ l, ∀ b, b = p y → AE.ACallG GG Tryz.prog (fn % 1000000) [] [.a (V2.c y)] [] (.b b)) (r : Bool) (hr : r = l.any p) : AE.ACallG GG Tryz.prog 104 [] [.l 6 es, .f fn []] [] (.b r) := by
  refine AE.ACallG.of_walk (fn := Tryz.f104) (c := bodyOf Tryz.f104) GG_stays tabOK Tryz.func104 rfl rfl mixed fun A hA X => ?_
  obtain ⟨z, hz⟩ : ∃ z, z = idxB p l := ⟨_, rfl⟩
  have k1 := idxVec_ok l hl es hes fn p each z hz
  clear each
  have e1 : A.cmp .geq z 0 = r := by rw [AE.c_geq hA, hr, hz, idx_ge]
  (repeat' (first | (refine X.go 500 _ _ ?_; cbv) | (first | refine X.splitT ?_ | refine X.splitF ?_ | refine X.split _ _ _ _ _ (fun hc => ?_) (fun hc => ?_)) | refine X.callsGA [] k1 ?_ | refine X.need _ _ _ trivial ?_ | fail))
  all_goals (refine X.ret _ (X.done rfl ?_); cbv <;> ((repeat' apply And.intro) <;> first | exact e1 | rfl | trivial))
end Go.Proofs.YthadehkggddgoaaGreatDoor
