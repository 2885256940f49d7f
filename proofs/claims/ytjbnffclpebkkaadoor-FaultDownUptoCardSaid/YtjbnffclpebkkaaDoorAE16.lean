/- AE, part 16: contracts of functions that were walked otherwise: they return a value and leave all that stood as it was. -/
import Derived.Test.YtjbnffclpebkkaaDoorAE15
set_option linter.unusedVariables false
namespace Go.AE
open Go

theorem vals_of {E : Env} {n : Nat} : ∀ {args : List Value} {vs : List Value}, (args.map AV.v).length = vs.length → (∀ (i : Nat) (x : AV) (u : Value), (args.map AV.v)[i]? = some x → vs[i]? = some u → RAV E true x u ∧ Bl n x) → vs = args
  | [], [], _, _ => rfl
  | a :: as, v :: vs, hl, h => by
    have h0 := (h 0 (.v a) v rfl rfl).1.vInv
    have h1 := vals_of (args := as) (vs := vs) (by simpa using hl) fun i x u hx hu => h (i + 1) x u (by simpa using hx) (by simpa using hu)
    rw [h0, h1]
  | [], _ :: _, hl, _ => by simp at hl
  | _ :: _, [], hl, _ => by simp at hl
theorem ACall.of_calls {P : Program} {f : Nat} (he : Enters P f) {args : List Value} {v : Value} {own : List OB} (hv : v.oneCell' = true) (hw : Wfo own) (h : ∀ W, Calls P f args.toArray W fun e w' => e = .returned v ∧ Grew W w') : ACall P f own (args.map .v) own (.v v) := by
  intro E W vs hM hwf hlen hargs
  have := vals_of hlen hargs
  subst this
  refine .inl ⟨he, (h W).mono ?_⟩
  rintro e w' ⟨rfl, hg⟩
  exact ⟨v, rfl, E, hM.grew hg, hw, .v _ _ hv, .v _⟩
end Go.AE
