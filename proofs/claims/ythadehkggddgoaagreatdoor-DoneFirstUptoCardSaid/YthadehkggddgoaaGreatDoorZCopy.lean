/- Contracts: slices.Clone at the program's types, works.Copy, as values that are only read (written by tools/gencopy.py). -/
import Derived.Test.YthadehkggddgoaaGreatDoorZLoop
import Derived.Test.YthadehkggddgoaaGreatDoorZRatB
import Derived.Test.YthadehkggddgoaaGreatDoorZFuncs
set_option linter.unusedVariables false
set_option linter.unusedSimpArgs false
namespace Go.Proofs.YthadehkggddgoaaGreatDoor
open Go Go.Num
structure Wk.Few (w : Wk) : Prop where
  arms : w.arms.length ≤ 2 ^ 30
  links : ∀ a ∈ w.arms, a.links.length ≤ 2 ^ 30 ∧ ∀ k ∈ a.links, k.shape.length ≤ 2 ^ 30
  walls : w.walls.length ≤ 2 ^ 30 ∧ ∀ l ∈ w.walls, l.length ≤ 2 ^ 30
  parts : w.parts.length ≤ 2 ^ 30 ∧ ∀ p ∈ w.parts, p.shape.length ≤ 2 ^ 30
  slots : w.slots.length ≤ 2 ^ 30
  gates : w.gates.length ≤ 2 ^ 30
end Go.Proofs.YthadehkggddgoaaGreatDoor
