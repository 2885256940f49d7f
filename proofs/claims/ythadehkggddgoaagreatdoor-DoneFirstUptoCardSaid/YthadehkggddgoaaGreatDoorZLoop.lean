/- Loops over lists, for walks. Loops over lists that grow own rows, for walks. -/
import Derived.Test.YthadehkggddgoaaGreatDoorZData
import Derived.Test.YthadehkggddgoaaGreatDoorZBits
import Derived.Test.YthadehkggddgoaaGreatDoorZBase
section
set_option linter.unusedVariables false
namespace Go.Proofs.YthadehkggddgoaaGreatDoor
open Go Go.Num
variable {A : AE.Ari} {P : Program} {T : AE.Tab} {fn : Func} {n0 : Nat} {own' : List AE.OB} {res : AE.AV} {GG : (Nat → Option Obj) → Prop}
theorem ranges (X : AE.Walk A P T fn n0 own' res GG) {x : Code} {K : List AE.Item} {σ : AE.St} (b n : Nat) (I : Nat → Prop) (ps : Int → Nat → List (Nat × AE.AV)) (own : Nat → List AE.OB) (i0 : I 0) (h0 : AE.Says n0 σ (σ.carry x (ps b 0) (own 0)))
    (step : ∀ (i : Nat) (z : Int), z = ((b + i : Nat) : Int) → i < n → I i → ∀ B : Act → World → Prop, (∀ z' : Int, z' = ((b + i + 1 : Nat) : Int) → I (i + 1) → ∀ σ' : AE.St, AE.Says n0 σ' (σ.carry x (ps z' (i + 1)) (own (i + 1))) → X.G (.back B σ')) → X.H (.c x :: .back B :: K) (σ.carry x (ps z i) (own i)))
    (fin : ∀ z : Int, z = ((b + n : Nat) : Int) → I n → ∀ B : Act → World → Prop, X.H (.c x :: .back B :: K) (σ.carry x (ps z n) (own n))) : X.G (.loop x K σ) := by
  refine X.carries (ι := { p : Nat × Int // p.1 ≤ n ∧ p.2 = ((b + p.1 : Nat) : Int) ∧ I p.1 }) (fun p => ps p.1.2 p.1.1) (fun p => own p.1.1) (fun p => n - p.1.1) ⟨(0, (b : Int)), Nat.zero_le _, rfl, i0⟩ h0 fun p B hB => ?_
  obtain ⟨⟨i, z⟩, hi, hz, hI⟩ := p
  by_cases h : i < n
  · refine step i z hz h hI B fun z' hz' hI' σ' hs => hB ⟨(i + 1, z'), h, hz', hI'⟩ σ' (by show n - (i + 1) < n - i; omega) hs
  · have e : i = n := by have : i ≤ n := hi; omega
    subst e
    exact fin z hz hI B
theorem rangeL (X : AE.Walk A P T fn n0 own' res GG) (hA : A = AE.std) {x : Code} {K : List AE.Item} {σ : AE.St} {α : Type} {f : α → List AE.AV} {l : List α} {es : List (List AE.AV)} (hes : es = lsAv f l) (hl : l.length < 2 ^ 61) (I : Nat → Prop) (ps : Int → Nat → List (Nat × AE.AV)) (own : Nat → List AE.OB) (i0 : I 0) (h0 : AE.Says n0 σ (σ.carry x (ps 0 0) (own 0)))
    (step : ∀ (i : Nat) (z : Int) (y : α), z = i → l[i]? = some y → es[i]? = some (f y) → A.cmp .lss z (A.llen es) = true → I i → ∀ B : Act → World → Prop, (I (i + 1) → ∀ σ' : AE.St, AE.Says n0 σ' (σ.carry x (ps (A.bin .add .i64 z 1) (i + 1)) (own (i + 1))) → X.G (.back B σ')) → X.H (.c x :: .back B :: K) (σ.carry x (ps z i) (own i)))
    (fin : ∀ z : Int, A.cmp .lss z (A.llen es) = false → I l.length → ∀ B : Act → World → Prop, X.H (.c x :: .back B :: K) (σ.carry x (ps z l.length) (own l.length))) : X.G (.loop x K σ) := by
  have hlen : A.llen es = (l.length : Int) := by rw [llen hA, hes, lsAv_len]
  refine ranges X 0 l.length I ps own i0 h0 (fun i z hz hi hI B hB => ?_) fun z hz hI B => fin z (ltF hA hz hlen (by omega)) hI B
  rw [Nat.zero_add] at hz
  have hy : l[i]? = some l[i] := List.getElem?_eq_getElem hi
  exact step i z l[i] hz hy (by rw [hes]; exact lsAv_get hy) (ltT hA hz hlen hi) hI B fun hI' σ' hs => hB _ (by rw [Nat.zero_add]; exact addI hA hz (y := 1) (b := 1) rfl (by omega)) hI' σ' hs
theorem rangeL0 (X : AE.Walk A P T fn n0 own' res GG) (hA : A = AE.std) {x : Code} {K : List AE.Item} {σ : AE.St} {α : Type} {f : α → List AE.AV} {l : List α} {es : List (List AE.AV)} (hes : es = lsAv f l) (hl : l.length < 2 ^ 61) (I : Nat → Prop) (ps : Int → Nat → List (Nat × AE.AV)) (i0 : I 0) (h0 : AE.Says n0 σ (σ.carry x (ps 0 0) σ.own))
    (step : ∀ (i : Nat) (z : Int) (y : α), z = i → l[i]? = some y → es[i]? = some (f y) → A.cmp .lss z (A.llen es) = true → I i → ∀ B : Act → World → Prop, (I (i + 1) → ∀ σ' : AE.St, AE.Says n0 σ' (σ.carry x (ps (A.bin .add .i64 z 1) (i + 1)) σ.own) → X.G (.back B σ')) → X.H (.c x :: .back B :: K) (σ.carry x (ps z i) σ.own))
    (fin : ∀ z : Int, A.cmp .lss z (A.llen es) = false → I l.length → ∀ B : Act → World → Prop, X.H (.c x :: .back B :: K) (σ.carry x (ps z l.length) σ.own)) : X.G (.loop x K σ) :=
  rangeL X hA hes hl I ps (fun _ => σ.own) i0 h0 step fin
theorem ranges0 (X : AE.Walk A P T fn n0 own' res GG) {x : Code} {K : List AE.Item} {σ : AE.St} (b n : Nat) (I : Nat → Prop) (ps : Int → Nat → List (Nat × AE.AV)) (i0 : I 0) (h0 : AE.Says n0 σ (σ.carry x (ps b 0) σ.own))
    (step : ∀ (i : Nat) (z : Int), z = ((b + i : Nat) : Int) → i < n → I i → ∀ B : Act → World → Prop, (∀ z' : Int, z' = ((b + i + 1 : Nat) : Int) → I (i + 1) → ∀ σ' : AE.St, AE.Says n0 σ' (σ.carry x (ps z' (i + 1)) σ.own) → X.G (.back B σ')) → X.H (.c x :: .back B :: K) (σ.carry x (ps z i) σ.own))
    (fin : ∀ z : Int, z = ((b + n : Nat) : Int) → I n → ∀ B : Act → World → Prop, X.H (.c x :: .back B :: K) (σ.carry x (ps z n) σ.own)) : X.G (.loop x K σ) :=
  ranges X b n I ps (fun _ => σ.own) i0 h0 step fin
end Go.Proofs.YthadehkggddgoaaGreatDoor
end
section
set_option linter.unusedVariables false
namespace Go.Proofs.YthadehkggddgoaaGreatDoor
open Go Go.Num
variable {A : AE.Ari} {P : Program} {T : AE.Tab} {fn : Func} {n0 : Nat} {own' : List AE.OB} {res : AE.AV} {GG : (Nat → Option Obj) → Prop}
theorem rangeLS (X : AE.Walk A P T fn n0 own' res GG) (hA : A = AE.std) {x : Code} {K : List AE.Item} {σ : AE.St} {α : Type} {f : α → List AE.AV} {l : List α} {es : List (List AE.AV)} (hes : es = lsAv f l) (hl : l.length < 2 ^ 61) (I : Nat → Prop) (ps : Int → Nat → List (Nat × AE.AV)) (own : Nat → List AE.OB → List AE.OB) (i0 : I 0) (h0 : AE.Says n0 σ (σ.carry x (ps 0 0) (own 0 σ.own)))
    (step : ∀ (i : Nat) (z : Int) (y : α), z = i → l[i]? = some y → es[i]? = some (f y) → A.cmp .lss z (A.llen es) = true → I i → ∀ B : Act → World → Prop, (I (i + 1) → ∀ σ' : AE.St, AE.Says n0 σ' (σ.carry x (ps (A.bin .add .i64 z 1) (i + 1)) (own (i + 1) σ.own)) → X.G (.back B σ')) → X.H (.c x :: .back B :: K) (σ.carry x (ps z i) (own i σ.own)))
    (fin : ∀ z : Int, A.cmp .lss z (A.llen es) = false → I l.length → ∀ B : Act → World → Prop, X.H (.c x :: .back B :: K) (σ.carry x (ps z l.length) (own l.length σ.own))) : X.G (.loop x K σ) :=
  rangeL X hA hes hl I ps (fun i => own i σ.own) i0 h0 step fin
theorem take_snoc {α : Type} {l : List α} {i : Nat} {y : α} (h : l[i]? = some y) : l.take (i + 1) = l.take i ++ [y] := by rw [List.take_add_one, h]; rfl
theorem grow1 {A : AE.Ari} (hA : A = AE.std) {es : List (List AE.AV)} {n : Nat} (h : es.length ≤ n) {c : List AE.AV} {b : Nat} (hb : (n + 1) * b ≤ 140737488355328) (hn : n < 2 ^ 60) : AE.GrowR (A.llen es) (A.llen [c]) b := by
  have h1 : A.llen [c] = 1 := by subst hA; rfl
  have h2 : A.llen es = (es.length : Int) := llen hA es
  have h3 : (es.length + 1) * b ≤ (n + 1) * b := Nat.mul_le_mul_right _ (by omega)
  constructor
  · rw [h1, h2]; omega
  · rw [h1, h2]
    have : (((es.length : Int) + 1) * (b : Int)) = (((es.length + 1) * b : Nat) : Int) := by rw [Int.natCast_mul]; rfl
    rw [this]; omega
end Go.Proofs.YthadehkggddgoaaGreatDoor
end
