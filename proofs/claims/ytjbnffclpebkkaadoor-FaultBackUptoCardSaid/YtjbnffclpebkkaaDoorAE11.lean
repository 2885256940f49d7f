/- AE, part 11: the table of types, put together. -/
import Derived.Test.YtjbnffclpebkkaaDoorAE10
set_option linter.unusedVariables false
namespace Go.AE
open Go

theorem info_of {P : Program} {t : Nat} {f : TypeInfo} (h : P.types[t]? = some f) : P.info? t = some f := by
  have ht : t < P.types.size := (Array.getElem?_eq_some_iff.1 h).1
  rw [← h]
  simp [Tables.info?, ht]
theorem size_of {P : Program} {t n : Nat} {f : TypeInfo} (h : P.types[t]? = some f) (hs : f.size = n) : (P.info? t).map (·.size) = some n := by rw [info_of h, ← hs]; rfl
def FieldsOK (P : Program) : List Field → List (Nat × Nat × Bool) → Prop
  | [], [] => True
  | f :: l, x :: m => (f.offset = x.1 ∧ (P.info? f.type).map (·.size) = some x.2.1 ∧ (∀ W, (isAgg f.type).run P W = .ok x.2.2 W) ∧ (x.2.2 = false → x.2.1 = 1)) ∧ FieldsOK P l m
  | _, _ => False
theorem FieldsOK.len {P : Program} : ∀ {l : List Field} {m : List (Nat × Nat × Bool)}, FieldsOK P l m → m.length = l.length
  | [], [], _ => rfl
  | [], _ :: _, h => h.elim
  | _ :: _, [], h => h.elim
  | _ :: _, _ :: _, h => by simp [FieldsOK.len h.2]
theorem FieldsOK.get {P : Program} : ∀ {l : List Field} {m : List (Nat × Nat × Bool)}, FieldsOK P l m → ∀ (i : Nat) (f : Field) (x : Nat × Nat × Bool), l[i]? = some f → m[i]? = some x →
    f.offset = x.1 ∧ (P.info? f.type).map (·.size) = some x.2.1 ∧ (∀ W, (isAgg f.type).run P W = .ok x.2.2 W) ∧ (x.2.2 = false → x.2.1 = 1)
  | [], [], _, i, f, x, h, _ => by simp at h
  | [], _ :: _, h, _, _, _, _, _ => h.elim
  | _ :: _, [], h, _, _, _, _, _ => h.elim
  | f :: l, x :: m, h, 0, f', x', hf, hx => by simp at hf hx; subst hf; subst hx; exact h.1
  | f :: l, x :: m, h, i + 1, f', x', hf, hx => h.2.get i f' x' (by simpa using hf) (by simpa using hx)

theorem KindOK.struct {P : Program} {t : Nat} {fields : Array Field} {fs : List (Nat × Nat × Bool)} (h : P.underlying t = some (.struct fields)) (hf : FieldsOK P fields.toList fs) : KindOK P t (.struct fs none) :=
  ⟨fields, h, by simpa using hf.len, fun i f x h1 h2 => hf.get i f x (by simpa using h1) h2, fun _ e => by cases e⟩
def FieldsEq : List Field → List Nat → Prop
  | [], [] => True
  | f :: l, ty :: m => (f.type = ty ∧ f.name ≠ "_") ∧ FieldsEq l m
  | _, _ => False
theorem FieldsEq.len : ∀ {l : List Field} {m : List Nat}, FieldsEq l m → m.length = l.length
  | [], [], _ => rfl
  | [], _ :: _, h => h.elim
  | _ :: _, [], h => h.elim
  | _ :: _, _ :: _, h => by simp [FieldsEq.len h.2]
theorem FieldsEq.get : ∀ {l : List Field} {m : List Nat}, FieldsEq l m → ∀ (i : Nat) (f : Field) (x : Nat), l[i]? = some f → m[i]? = some x → f.type = x ∧ f.name ≠ "_"
  | [], [], _, i, f, x, h, _ => by simp at h
  | [], _ :: _, h, _, _, _, _, _ => h.elim
  | _ :: _, [], h, _, _, _, _, _ => h.elim
  | f :: l, x :: m, h, 0, f', x', hf, hx => by simp at hf hx; subst hf; subst hx; exact h.1
  | f :: l, x :: m, h, i + 1, f', x', hf, hx => h.2.get i f' x' (by simpa using hf) (by simpa using hx)
theorem KindOK.structEq {P : Program} {t : Nat} {fields : Array Field} {fs : List (Nat × Nat × Bool)} {tys : List Nat} (h : P.underlying t = some (.struct fields)) (hf : FieldsOK P fields.toList fs)
    (h1 : P.stoodInHeld t = false) (h2 : P.eqGuardType P.depth t = false) (he : FieldsEq fields.toList tys) : KindOK P t (.struct fs (some tys)) :=
  ⟨fields, h, by simpa using hf.len, fun i f x h1 h2 => hf.get i f x (by simpa using h1) h2, fun tys' e => by cases e; exact ⟨h1, h2, by simpa using he.len, fun i f ty h1 h2 => he.get i f ty (by simpa using h1) h2⟩⟩
theorem KindOK.map {P : Program} {t k e : Nat} (h : P.underlying t = some (.map k e)) {f : TypeInfo} (hi : P.types[e]? = some f) {z : Value} (hz : f.zero = some z) (h1 : z.oneCell' = true) : KindOK P t (.map k e) :=
  ⟨h, z, by rw [info_of hi]; exact hz, h1⟩

theorem TypeOK.of {P : Program} {t : Nat} {k : TK} {size bytes : Nat} {zero : List Value} (hk : KindOK P t k) {f : TypeInfo} (hi : P.types[t]? = some f) (h1 : f.size = size) (h2 : f.bytes = bytes) {z : Value} (h3 : f.zero = some z) (h4 : z.cells = zero.toArray)
    (h5 : zero.all (fun x => x.oneCell') = true) (h6 : zero.length = size) (h7 : k.agg = false → size = 1) : TypeOK P t ⟨k, size, bytes, zero⟩ :=
  ⟨hk, ⟨f, info_of hi, h1, h2, z, h3, h4⟩, fun x hx => List.all_eq_true.1 h5 x hx, h6, h7⟩

theorem TabOK.nil {P : Program} : TabOK P [] := fun t i h => by cases h
theorem TabOK.cons {P : Program} {t : Nat} {i : TI} {T : Tab} (h : TypeOK P t i) (hT : TabOK P T) : TabOK P ((t, i) :: T) := fun t' i' h' => by
  simp only [look] at h'
  split at h'
  · rename_i e; cases h'; exact e ▸ h
  · exact hT t' i' h'
end Go.AE
