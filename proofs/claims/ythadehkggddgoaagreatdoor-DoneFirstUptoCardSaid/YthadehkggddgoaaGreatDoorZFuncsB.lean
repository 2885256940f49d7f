/- Contracts: slices.Clone at more types; slices.IndexFunc and ContainsFunc of frames and numbers. -/
import Derived.Test.YthadehkggddgoaaGreatDoorZCopy
import Derived.Test.YthadehkggddgoaaGreatDoorZFuncs
set_option linter.unusedVariables false
set_option linter.unusedSimpArgs false
namespace Go.Proofs.YthadehkggddgoaaGreatDoor
open Go Go.Num
set_option maxRecDepth 100000 in
set_option maxHeartbeats 0 in
theorem idxFrame_ok (l : List Fr) (hl : l.length < 2 ^ 40) (es : List (List AE.AV)) (hes : es = lsAv Fr.c l) (fn : Nat) (p : Fr → Bool) (each : ∀ y ∈ l, ∀ b, b = p y → AE.ACallG GG Tryz.prog (fn % 1000000) [] [.a (Fr.c y)] [] (.b b)) (r : Int) (hr : r = idxB p l) : AE.ACallG GG Tryz.prog 168 [] [.l 10 es, .f fn []] [] (.v (.int .i64 r)) := by
  refine AE.ACallG.of_walk (fn := Tryz.f168) (c := bodyOf Tryz.f168) GG_stays tabOK Tryz.func168 rfl rfl mixed fun A hA X => ?_
  (repeat' (first | (refine X.go 500 _ _ ?_; cbv) | (first | refine X.splitT ?_ | refine X.splitF ?_ | refine X.split _ _ _ _ _ (fun hc => ?_) (fun hc => ?_)) | refine X.need _ _ _ trivial ?_ | fail))
  refine rangeL0 X hA hes (by omega) (fun i => ∀ x ∈ l.take i, p x = false) (fun z _ => [(8, .v (.int .i64 z))]) (fun x h => by simp at h) ?_ (fun i z y hz hy he c3 hI B hB => ?_) (fun z c3 hI B => ?_)
  · (cbv <;> ((repeat' apply And.intro) <;> first | rfl | trivial))
  · obtain ⟨b, hb⟩ : ∃ b, b = p y := ⟨_, rfl⟩
    have k1 := each y (List.mem_of_getElem? hy) b hb
    clear each
    cases hb' : b
    · have hI' := take_all hI hy (by rw [← hb, hb'])
      (repeat' (first | (refine X.go 500 _ _ ?_; cbv) | (first | refine X.splitT ?_ | refine X.splitF ?_ | refine X.split _ _ _ _ _ (fun hc => ?_) (fun hc => ?_)) | refine X.need _ _ _ trivial ?_ | refine X.idx _ _ _ _ _ _ _ _ he hz ?_ | refine X.callsGA [] k1 ?_ | fail))
      all_goals (refine hB hI' _ ?_; clear hB; (cbv <;> ((repeat' apply And.intro) <;> first | rfl | trivial)))
    · have e1 : z = r := by rw [hr, idx_hit hI hy (by rw [← hb, hb']), hz]
      clear hB
      (repeat' (first | (refine X.go 500 _ _ ?_; cbv) | (first | refine X.splitT ?_ | refine X.splitF ?_ | refine X.split _ _ _ _ _ (fun hc => ?_) (fun hc => ?_)) | refine X.need _ _ _ trivial ?_ | refine X.idx _ _ _ _ _ _ _ _ he hz ?_ | refine X.callsGA [] k1 ?_ | fail))
      all_goals (refine X.ret _ (X.done rfl ?_); cbv <;> ((repeat' apply And.intro) <;> first | exact e1 | rfl | trivial))
  · rw [List.take_length] at hI
    have e1 : -1 = r := by rw [hr, idx_none hI]
    (repeat' (first | (refine X.go 500 _ _ ?_; cbv) | (first | refine X.splitT ?_ | refine X.splitF ?_ | refine X.split _ _ _ _ _ (fun hc => ?_) (fun hc => ?_)) | refine X.need _ _ _ trivial ?_ | fail))
    all_goals (refine X.ret _ (X.done rfl ?_); cbv <;> ((repeat' apply And.intro) <;> first | exact e1 | rfl | trivial))
theorem hasFrame_ok (l : List Fr) (hl : l.length < 2 ^ 40) (es : List (List AE.AV)) (hes : es = lsAv Fr.c l) (fn : Nat) (p : Fr → Bool) (each : ∀ y ∈ l, ∀ b, b = p y → AE.ACallG GG Tryz.prog (fn % 1000000) [] [.a (Fr.c y)] [] (.b b)) (r : Bool) (hr : r = l.any p) : AE.ACallG GG Tryz.prog 101 [] [.l 10 es, .f fn []] [] (.b r) := by
  refine AE.ACallG.of_walk (fn := Tryz.f101) (c := bodyOf Tryz.f101) GG_stays tabOK Tryz.func101 rfl rfl mixed fun A hA X => ?_
  obtain ⟨z, hz⟩ : ∃ z, z = idxB p l := ⟨_, rfl⟩
  have k1 := idxFrame_ok l hl es hes fn p each z hz
  clear each
  have e1 : A.cmp .geq z 0 = r := by rw [AE.c_geq hA, hr, hz, idx_ge]
  (repeat' (first | (refine X.go 500 _ _ ?_; cbv) | (first | refine X.splitT ?_ | refine X.splitF ?_ | refine X.split _ _ _ _ _ (fun hc => ?_) (fun hc => ?_)) | refine X.callsGA [] k1 ?_ | refine X.need _ _ _ trivial ?_ | fail))
  all_goals (refine X.ret _ (X.done rfl ?_); cbv <;> ((repeat' apply And.intro) <;> first | exact e1 | rfl | trivial))
set_option maxRecDepth 100000 in
set_option maxHeartbeats 0 in
theorem idxRat_ok (l : List Q) (hl : l.length < 2 ^ 40) (es : List (List AE.AV)) (hes : es = lsAv Q.c l) (fn : Nat) (p : Q → Bool) (each : ∀ y ∈ l, ∀ b, b = p y → AE.ACallG GG Tryz.prog (fn % 1000000) [] [.a (Q.c y)] [] (.b b)) (r : Int) (hr : r = idxB p l) : AE.ACallG GG Tryz.prog 119 [] [.l 3 es, .f fn []] [] (.v (.int .i64 r)) := by
  refine AE.ACallG.of_walk (fn := Tryz.f119) (c := bodyOf Tryz.f119) GG_stays tabOK Tryz.func119 rfl rfl mixed fun A hA X => ?_
  (repeat' (first | (refine X.go 500 _ _ ?_; cbv) | (first | refine X.splitT ?_ | refine X.splitF ?_ | refine X.split _ _ _ _ _ (fun hc => ?_) (fun hc => ?_)) | refine X.need _ _ _ trivial ?_ | fail))
  refine rangeL0 X hA hes (by omega) (fun i => ∀ x ∈ l.take i, p x = false) (fun z _ => [(8, .v (.int .i64 z))]) (fun x h => by simp at h) ?_ (fun i z y hz hy he c3 hI B hB => ?_) (fun z c3 hI B => ?_)
  · (cbv <;> ((repeat' apply And.intro) <;> first | rfl | trivial))
  · obtain ⟨b, hb⟩ : ∃ b, b = p y := ⟨_, rfl⟩
    have k1 := each y (List.mem_of_getElem? hy) b hb
    clear each
    cases hb' : b
    · have hI' := take_all hI hy (by rw [← hb, hb'])
      (repeat' (first | (refine X.go 500 _ _ ?_; cbv) | (first | refine X.splitT ?_ | refine X.splitF ?_ | refine X.split _ _ _ _ _ (fun hc => ?_) (fun hc => ?_)) | refine X.need _ _ _ trivial ?_ | refine X.idx _ _ _ _ _ _ _ _ he hz ?_ | refine X.callsGA [] k1 ?_ | fail))
      all_goals (refine hB hI' _ ?_; clear hB; (cbv <;> ((repeat' apply And.intro) <;> first | rfl | trivial)))
    · have e1 : z = r := by rw [hr, idx_hit hI hy (by rw [← hb, hb']), hz]
      clear hB
      (repeat' (first | (refine X.go 500 _ _ ?_; cbv) | (first | refine X.splitT ?_ | refine X.splitF ?_ | refine X.split _ _ _ _ _ (fun hc => ?_) (fun hc => ?_)) | refine X.need _ _ _ trivial ?_ | refine X.idx _ _ _ _ _ _ _ _ he hz ?_ | refine X.callsGA [] k1 ?_ | fail))
      all_goals (refine X.ret _ (X.done rfl ?_); cbv <;> ((repeat' apply And.intro) <;> first | exact e1 | rfl | trivial))
  · rw [List.take_length] at hI
    have e1 : -1 = r := by rw [hr, idx_none hI]
    (repeat' (first | (refine X.go 500 _ _ ?_; cbv) | (first | refine X.splitT ?_ | refine X.splitF ?_ | refine X.split _ _ _ _ _ (fun hc => ?_) (fun hc => ?_)) | refine X.need _ _ _ trivial ?_ | fail))
    all_goals (refine X.ret _ (X.done rfl ?_); cbv <;> ((repeat' apply And.intro) <;> first | exact e1 | rfl | trivial))
theorem hasRat_ok (l : List Q) (hl : l.length < 2 ^ 40) (es : List (List AE.AV)) (hes : es = lsAv Q.c l) (fn : Nat) (p : Q → Bool) (each : ∀ y ∈ l, ∀ b, b = p y → AE.ACallG GG Tryz.prog (fn % 1000000) [] [.a (Q.c y)] [] (.b b)) (r : Bool) (hr : r = l.any p) : AE.ACallG GG Tryz.prog 47 [] [.l 3 es, .f fn []] [] (.b r) := by
  refine AE.ACallG.of_walk (fn := Tryz.f47) (c := bodyOf Tryz.f47) GG_stays tabOK Tryz.func47 rfl rfl mixed fun A hA X => ?_
  obtain ⟨z, hz⟩ : ∃ z, z = idxB p l := ⟨_, rfl⟩
  have k1 := idxRat_ok l hl es hes fn p each z hz
  clear each
  have e1 : A.cmp .geq z 0 = r := by rw [AE.c_geq hA, hr, hz, idx_ge]
  (repeat' (first | (refine X.go 500 _ _ ?_; cbv) | (first | refine X.splitT ?_ | refine X.splitF ?_ | refine X.split _ _ _ _ _ (fun hc => ?_) (fun hc => ?_)) | refine X.callsGA [] k1 ?_ | refine X.need _ _ _ trivial ?_ | fail))
  all_goals (refine X.ret _ (X.done rfl ?_); cbv <;> ((repeat' apply And.intro) <;> first | exact e1 | rfl | trivial))
end Go.Proofs.YthadehkggddgoaaGreatDoor
