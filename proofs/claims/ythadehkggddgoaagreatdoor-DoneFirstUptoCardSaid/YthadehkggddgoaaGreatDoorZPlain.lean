/- Contract: gantmake.Works of no numbers. Plain laws: the works without numbers is valid. -/
import Derived.Test.YthadehkggddgoaaGreatDoorZMakeE
import Derived.Test.YthadehkggddgoaaGreatDoorZWorks
section
set_option linter.unusedVariables false
set_option linter.unusedSimpArgs false
namespace Go.Proofs.YthadehkggddgoaaGreatDoor
open Go Go.Num
end Go.Proofs.YthadehkggddgoaaGreatDoor
end
section
set_option linter.unusedVariables false
set_option linter.unusedSimpArgs false
namespace Go.Proofs.YthadehkggddgoaaGreatDoor
open Go Go.Num
theorem smallOf (r : Rat) : (Q.of r).Small ↔ r.num.natAbs ≤ 1000000 ∧ r.den ≤ 1000 := by
  constructor
  · rintro ⟨_, h1, h2⟩
    rw [Q.bnum] at h1
    rw [Q.bden] at h2
    exact ⟨h1, h2⟩
  · rintro ⟨h1, h2⟩
    exact ⟨Q.of_good r, by rw [Q.bnum]; exact h1, by rw [Q.bden]; exact h2⟩
def emptyW : Wk := ⟨[], [], [], [], [], Q.nil⟩
theorem emptyW_ok : worksC emptyW = 4 := rfl
theorem emptyW_le : emptyW.Le := by
  refine ⟨by simp [emptyW], by decide, by simp [emptyW], by decide, by simp [emptyW], by decide, by simp [emptyW], by decide, by simp [emptyW], by decide, ?_⟩
  show Q.nil.sz ≤ _
  decide
end Go.Proofs.YthadehkggddgoaaGreatDoor
end
