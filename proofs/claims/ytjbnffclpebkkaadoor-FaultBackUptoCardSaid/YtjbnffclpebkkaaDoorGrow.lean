/- Contract: slices.Grow of nil (the laying: by the shelf's tools at this dump). -/
import Derived.Shelf.Spec.SlicesGrow
import Derived.Ground.Names7Prog
import Derived.Test.YtjbnffclpebkkaaDoorTypes
import Derived.Test.YtjbnffclpebkkaaDoorAE16
set_option linter.unusedVariables false
set_option linter.unusedSimpArgs false
namespace Go.Proofs
open Go.Shelf
def Tryd.grow59_ren : Go.Shelf.Ren := ⟨fun | 4 => 59 | n => n, fun | 22 => 22 | 25 => 28 | 3 => 3 | 4 => 4 | 9 => 9 | 20 => 20 | 0 => 0 | n => n, fun | n => n⟩
theorem Tryd.grow59 : Go.Proofs.Lays8.n4 Tryd.prog Tryd.grow59_ren := {
  mixed := by kernel_rfl
  f4 := ⟨Tryd.f59.name, by decide, Tryd.func59.trans (congrArg some (by kernel_rfl))⟩
  t0 := Tryd.underlying0
  a0 := Tryd.isAgg0
  z0 := Tryd.sizeOf0
  v0 := Tryd.zeroValue0
  t3 := Tryd.underlying3
  a3 := Tryd.isAgg3
  z3 := Tryd.sizeOf3
  v3 := Tryd.zeroValue3
  t4 := Tryd.underlying4
  a4 := Tryd.isAgg4
  z4 := Tryd.sizeOf4
  v4 := Tryd.zeroValue4
  t9 := Tryd.underlying9
  a9 := Tryd.isAgg9
  z9 := Tryd.sizeOf9
  v9 := Tryd.zeroValue9
  t20 := Tryd.underlying20
  a20 := Tryd.isAgg20
  z20 := Tryd.sizeOf20
  v20 := Tryd.zeroValue20
  t22 := Tryd.underlying22
  a22 := Tryd.isAgg22
  z22 := Tryd.sizeOf22
  v22 := Tryd.zeroValue22 }
end Go.Proofs
namespace Go.Proofs.YtjbnffclpebkkaaDoor
open Go
theorem drew_grew (W : World) : AE.Grew W W.drew := ⟨rfl, rfl, rfl, Nat.le_refl _, fun _ _ => rfl⟩
theorem grow_ok (n : Nat) (hn : n ≤ 2 ^ 32) (x : Int) (hx : x = n) : AE.ACall Tryd.prog 59 [] [.v (.slice none 0 0), .v (.int .i64 x)] [.row 28 3 []] (.r 0) := by
  subst hx
  refine AE.ACall.of_fresh (args := [.slice none 0 0, .int .i64 (n : Int)]) ⟨Tryd.f59, Tryd.func59, rfl, rfl⟩ fun W => ?_
  by_cases h0 : n = 0
  · subst h0
    refine (Any8.slices_Grow_room Tryd.grow59 none 0 0 0 W (by decide) (by decide) (by decide) (by decide)).mono ?_
    rintro e w' ⟨rfl, rfl⟩
    exact ⟨_, w', rfl, ⟨rfl, .inl ⟨rfl, rfl⟩⟩, ⟨rfl, rfl, rfl, Nat.le_refl _, fun _ _ _ => rfl⟩, AE.Grew.refl _, fun g h => by cases h⟩
  · obtain ⟨i0, hi0⟩ : ∃ i0, Tryd.prog.info? 28 = some i0 := ⟨_, AE.info_of Tryd.type28⟩
    have hs : i0.size = 3 := by have := AE.info_of Tryd.type28; rw [hi0] at this; cases this; rfl
    have hby : i0.bytes = 24 := by have := AE.info_of Tryd.type28; rw [hi0] at this; cases this; rfl
    obtain ⟨z, hz⟩ : ∃ z, i0.zero = some z := by have := AE.info_of Tryd.type28; rw [hi0] at this; cases this; exact ⟨_, rfl⟩
    have hzs : z.cells.size = 3 := by have := AE.info_of Tryd.type28; rw [hi0] at this; cases this; cases hz; rfl
    have hcap := grownCap_le_maxLen W (0 + n) 0 (Tryd.grow59_ren.t 25) (by unfold maxLen; omega)
    have hge := grownCap_ge W (0 + n) 0 (Tryd.grow59_ren.t 25)
    refine (Any8.slices_Grow_grow Tryd.grow59 i0 z hi0 hz (by omega) none 0 0 n [] W (by decide) (by omega) (by rw [hby]; omega) (by omega) (by simp) (fun _ => rfl) (fun a h => by cases h)).mono ?_
    rintro e w' ⟨rfl, rfl⟩
    refine ⟨_, W.drew, rfl, ?_, World.grownBy_alloc _ _ _, drew_grew W, fun g h => by simp [Value.ownBlock] at h; exact h.symm⟩
    refine World.ownsRow_made (base := 0) W.drew _ _ (Nat.zero_le _) hcap ?_
    rw [Array.size_append, Array.size_append, size_zeroCells, size_zeroCells, hzs]
    generalize grownCap W (0 + n) 0 (Tryd.grow59_ren.t 25) = G at *
    rw [show ([] : List Value).toArray.size = 0 from rfl, Nat.zero_add, ← Nat.add_mul]
    rw [show 0 + n - 0 + (G - (0 + n)) = G by omega]
end Go.Proofs.YtjbnffclpebkkaaDoor
