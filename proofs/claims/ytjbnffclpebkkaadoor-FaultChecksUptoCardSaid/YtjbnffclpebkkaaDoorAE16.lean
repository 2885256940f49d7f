/- AE, part 16: contracts of functions that were walked otherwise: they return a value and leave all that stood as it was. -/
import Derived.Test.YtjbnffclpebkkaaDoorAE15
set_option linter.unusedVariables false
namespace Go.AE
open Go

/-- All that stood stands as it was; new blocks may have come. -/
structure Grew (W W' : World) : Prop where
  os : W'.os = W.os
  tape : W'.tape = W.tape
  output : W'.output = W.output
  size : W.heap.size ≤ W'.heap.size
  keep : ∀ b, b < W.heap.size → W'.heap[b]? = W.heap[b]?
theorem Grew.refl (W : World) : Grew W W := ⟨rfl, rfl, rfl, Nat.le_refl _, fun _ _ => rfl⟩
theorem Mem.grew {W0 W W' : World} {mine : Nat → Prop} {kn : Kn} {E : Env} {own : List OB} (h : Mem W0 mine kn E own W) (hg : Grew W W') : Mem W0 mine kn E own W' := by
  refine ⟨hg.os.trans h.os, hg.tape.trans h.tape, hg.output.trans h.output, Nat.le_trans h.size hg.size, fun b hb hm => (hg.keep b (Nat.lt_of_lt_of_le hb h.size)).trans (h.keep b hb hm), fun b o hb => ?_, h.old, fun k ob hk => ?_, h.disj, h.sep, h.anch⟩
  · have := h.facts b o hb
    rw [hg.keep b (Array.getElem?_eq_some_iff.1 this).1]; exact this
  · exact (h.owns k ob hk).snap fun ho => hg.keep _ (ho.lt (h.owns k ob hk))
theorem vals_of {E : Env} {n : Nat} : ∀ {args : List Value} {vs : List Value}, (args.map AV.v).length = vs.length → (∀ (i : Nat) (x : AV) (u : Value), (args.map AV.v)[i]? = some x → vs[i]? = some u → RAV E true x u ∧ Bl n x) → vs = args
  | [], [], _, _ => rfl
  | a :: as, v :: vs, hl, h => by
    have h0 := (h 0 (.v a) v rfl rfl).1.vInv
    have h1 := vals_of (args := as) (vs := vs) (by simpa using hl) fun i x u hx hu => h (i + 1) x u (by simpa using hx) (by simpa using hu)
    rw [h0, h1]
  | [], _ :: _, hl, _ => by simp at hl
  | _ :: _, [], hl, _ => by simp at hl
theorem ACall.of_calls {P : Program} {f : Nat} (he : Enters P f) {args : List Value} {v : Value} {own : List OB} (hv : v.oneCell' = true) (hw : Wfo own) (h : ∀ W, Calls P f args.toArray W fun e w' => e = .returned v ∧ Grew W w') : ACall P f own (args.map .v) own (.v v) := by
  intro E W vs hM hwf hlen hargs
  have := vals_of hlen hargs
  subst this
  refine .inl ⟨he, (h W).mono ?_⟩
  rintro e w' ⟨rfl, hg⟩
  exact ⟨v, rfl, E, hM.grew hg, hw, .v _ _ hv, .v _⟩
end Go.AE
