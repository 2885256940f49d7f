/- AE, part 16: contracts of functions that were walked otherwise: they return a value and leave all that stood as it was. -/
import Derived.Test.YtjbnffclpebkkaaDoorAE15
set_option linter.unusedVariables false
namespace Go.AE
open Go

theorem vals_of {E : Env} {n : Nat} : ∀ {args : List Value} {vs : List Value}, (args.map AV.v).length = vs.length → (∀ (i : Nat) (x : AV) (u : Value), (args.map AV.v)[i]? = some x → vs[i]? = some u → RAV E true x u ∧ Bl n x) → vs = args
  | [], [], _, _ => rfl
  | a :: as, v :: vs, hl, h => by
    have h0 := (h 0 (.v a) v rfl rfl).1.vInv
    have h1 := vals_of (args := as) (vs := vs) (by simpa using hl) fun i x u hx hu => h (i + 1) x u (by simpa using hx) (by simpa using hu)
    rw [h0, h1]
  | [], _ :: _, hl, _ => by simp at hl
  | _ :: _, [], hl, _ => by simp at hl
theorem ACall.of_calls {P : Program} {f : Nat} (he : Enters P f) {args : List Value} {v : Value} {own : List OB} (hv : v.oneCell' = true) (hw : Wfo own) (h : ∀ W, Calls P f args.toArray W fun e w' => e = .returned v ∧ Grew W w') : ACall P f own (args.map .v) own (.v v) := by
  intro E W vs hM hwf hlen hargs
  have := vals_of hlen hargs
  subst this
  refine .inl ⟨he, (h W).mono ?_⟩
  rintro e w' ⟨rfl, hg⟩
  exact ⟨v, rfl, E, hM.grew hg, hw, .v _ _ hv, .v _⟩
theorem ACallG.of_calls {G : (Nat → Option Obj) → Prop} {P : Program} {f : Nat} (he : Enters P f) {args : List Value} {v : Value} {own : List OB} (hv : v.oneCell' = true) (hw : Wfo own)
    (h : ∀ W h0, (∀ b o, h0 b = some o → W.heap[b]? = some o) → G h0 → Calls P f args.toArray W fun e w' => e = .returned v ∧ Grew W w') : ACallG G P f own (args.map .v) own (.v v) := by
  intro E W vs hG hM hwf hlen hargs
  have := vals_of hlen hargs
  subst this
  refine .inl ⟨he, (h W E.h hM.facts hG).mono ?_⟩
  rintro e w' ⟨rfl, hg⟩
  exact ⟨v, rfl, E, hM.grew hg, hw, .v _ _ hv, .v _⟩
theorem Ment.all : ∀ x : AV, Ment (fun _ => True) x
  | .any => .any
  | .v x => .v x
  | .b x => .b x
  | .p k off => .p k off trivial
  | .q k sz i off => .q k sz i off trivial
  | .w k sz lo n => .w k sz lo n trivial
  | .r k => .r k trivial
  | .l sz es => .l sz es
  | .ip cs => .ip cs
  | .ni => .ni
  | .a cs => .a cs fun c hc => Ment.all c
  | .t cs => .t cs fun c hc => Ment.all c
  | .f fn cs => .f fn cs fun c hc => Ment.all c
theorem OBOK.more {E E' : Env} {k : Nat} {W : World} {ob : OB} (hh : ∀ b o, E.h b = some o → E'.h b = some o) (hb : E'.blk = E.blk) (hr : E'.row = E.row) (h : OBOK E k W ob) : OBOK E' k W ob := by
  have hm : ∀ {x : AV} {u : Value}, RAV E true x u → RAV E' true x u := fun {x u} h => h.mono (S := fun _ => True) hh fun _ => ⟨Ment.all x, fun k _ => ⟨by rw [hb], by rw [hr]⟩⟩
  cases ob with
  | box cs ty => obtain ⟨vs, hv, hl, h1, hc⟩ := h; exact ⟨vs, by rw [hb]; exact hv, hl, h1, fun i c u h2 h3 => hm (hc i c u h2 h3)⟩
  | row ety sz es => obtain ⟨xs, h⟩ := h; exact ⟨xs, by rw [hr]; exact h.owns, h.len, h.one, fun i j e x u h1 h2 h3 => (h.rav i j e x u h1 h2 h3).imm hh, by rw [hr, hb]; exact h.blk⟩
  | dead => trivial
  | mp kk vk g => obtain ⟨es, c, hv, hw, hf⟩ := h; exact ⟨es, c, by rw [hb]; exact hv, by rw [hr, hb]; exact hw, hf⟩

/-- The same, where the result leads into new blocks, which are only read from then on. -/
theorem ACallG.of_new {G : (Nat → Option Obj) → Prop} {P : Program} {f : Nat} (he : Enters P f) {args : List Value} {res : AV} {own : List OB} (hb : Bl own.length res) (hw : Wfo own)
    (h : ∀ W h0, (∀ b o, h0 b = some o → W.heap[b]? = some o) → G h0 → Calls P f args.toArray W fun e w' => ∃ v, e = .returned v ∧ Grew W w' ∧ ∀ E' : Env, (∀ b o, W.heap.size ≤ b → w'.heap[b]? = some o → E'.h b = some o) → RAV E' true res v) : ACallG G P f own (args.map .v) own res := by
  intro E W vs hG hM hwf hlen hargs
  have := vals_of hlen hargs
  subst this
  refine .inl ⟨he, (h W E.h hM.facts hG).mono ?_⟩
  rintro e w' ⟨v, rfl, hg, hr⟩
  let E' : Env := { h := fun b => if b < W.heap.size then E.h b else w'.heap[b]?, blk := E.blk, row := E.row }
  have hlt : ∀ b o, E.h b = some o → b < W.heap.size := fun b o hb => (Array.getElem?_eq_some_iff.1 (hM.facts b o hb)).1
  have hmore : ∀ b o, E.h b = some o → E'.h b = some o := fun b o hb => by
    show (if b < W.heap.size then E.h b else _) = _
    rw [if_pos (hlt b o hb)]; exact hb
  have hM' := hM.grew hg
  refine ⟨v, rfl, E', ⟨hM'.os, hM'.tape, hM'.output, hM'.size, hM'.keep, ?_, ?_, fun k ob hk => (hM'.owns k ob hk).more hmore rfl rfl, fun k k' ob ob' h1 h2 hne o1 o2 => hM'.disj k k' ob ob' h1 h2 hne ?_ ?_, ?_, hM'.anch, fun b o hb => hmore b o (hM'.glob b o hb)⟩, hw, hr E' (fun b o hle hb => ?_), hb⟩
  · intro b o hb
    by_cases hl : b < W.heap.size
    · have hb : (if b < W.heap.size then E.h b else w'.heap[b]?) = some o := hb
      rw [if_pos hl] at hb
      exact hM'.facts b o hb
    · have hb : (if b < W.heap.size then E.h b else w'.heap[b]?) = some o := hb
      rw [if_neg hl] at hb
      exact hb
  · intro b o hb
    by_cases hl : b < W.heap.size
    · have hb : (if b < W.heap.size then E.h b else w'.heap[b]?) = some o := hb
      rw [if_pos hl] at hb
      exact hM'.old b o hb
    · exact .inr (.inr (Nat.le_of_not_lt hl))
  · cases ob <;> exact o1
  · cases ob' <;> exact o2
  · intro k ob hk ho
    have ho' : Occ E k ob := by cases ob <;> exact ho
    have h1 := hM'.sep k ob hk ho'
    refine ⟨?_, h1.2⟩
    show (if E.blk k < W.heap.size then E.h (E.blk k) else _) = none
    rw [if_pos (ho'.lt (hM.owns k ob hk))]
    exact h1.1
  · show (if b < W.heap.size then E.h b else _) = _
    rw [if_neg (Nat.not_lt.2 hle)]
    exact hb
/-- A function that hands back a row of its own without elements. -/
theorem ACall.of_fresh {P : Program} {f : Nat} (he : Enters P f) {args : List Value} {ety sz : Nat}
    (h : ∀ W, Calls P f args.toArray W fun e w' => ∃ (v : Value) (W1 : World), e = .returned v ∧ w'.ownsRow 0 ety sz v 0 [] ∧ W1.grownBy w' none ∧ Grew W W1 ∧ ∀ g, v.ownBlock = some g → g = W1.heap.size) :
    ACall P f [] (args.map .v) [.row ety sz []] (.r 0) := by
  intro E W vs hM hwf hlen hargs
  have := vals_of hlen hargs
  subst this
  refine .inl ⟨he, (h W).mono ?_⟩
  rintro e w' ⟨v, W1, rfl, hown, hgr, hg, hloc⟩
  have hR : Rel W (mineOf E []) (knOf E []) E { tm := [], own := [] } { tmps := #[], defers := [] } W1 :=
    ⟨hM.grew hg, rfl, rfl, fun i x h => by simp at h, fun x h => by simp at h, fun k cs ty h => by simp at h⟩
  have key := hR.newRow' (es := []) hown hgr hloc (fun e h => by simp at h) (fun x h => by simp at h) (fun i j e x u h => by simp at h)
  exact ⟨_, rfl, _, key.1.mem, fun k cs ty h => by
    match k with
    | 0 => simp at h
    | k + 1 => simp at h, key.2, .r 0 (by show 0 < 1; decide)⟩
end Go.AE
