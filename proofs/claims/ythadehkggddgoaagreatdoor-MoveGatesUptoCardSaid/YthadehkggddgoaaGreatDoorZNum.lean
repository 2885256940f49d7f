/- Natural numbers as strings of bytes (most significant first) and as rows of digits (least significant first): plain laws, no program in sight. Long division, a digit at a time: the trial digit is right or one too great. Plain laws. -/
import Derived.Test.YthadehkggddgoaaGreatDoorAE14
section
set_option linter.unusedVariables false
set_option linter.unusedSimpArgs false
namespace Go.Num
def val (l : List UInt8) : Nat := l.foldl (fun n b => n * 256 + b.toNat) 0
theorem foldl_val : ∀ (l : List UInt8) (n : Nat), l.foldl (fun n b => n * 256 + b.toNat) n = n * 256 ^ l.length + val l
  | [], n => by simp [val]
  | b :: l, n => by
    rw [val, List.foldl_cons, List.foldl_cons, foldl_val l, foldl_val l (0 * 256 + b.toNat), List.length_cons, Nat.pow_succ]
    simp only [Nat.zero_mul, Nat.zero_add, Nat.add_mul]
    rw [Nat.mul_comm (256 ^ l.length) 256, ← Nat.mul_assoc]; omega
theorem val_app (a b : List UInt8) : val (a ++ b) = val a * 256 ^ b.length + val b := by
  rw [val, List.foldl_append, foldl_val]; rfl
@[simp] theorem val_nil : val [] = 0 := rfl
theorem val_one (b : UInt8) : val [b] = b.toNat := by simp [val]
theorem val_cons (b : UInt8) (l : List UInt8) : val (b :: l) = b.toNat * 256 ^ l.length + val l := by
  have := val_app [b] l
  rw [val_one] at this; exact this
theorem val_snoc (l : List UInt8) (b : UInt8) : val (l ++ [b]) = val l * 256 + b.toNat := by rw [val_app, val_one]; simp
theorem val_lt : ∀ l : List UInt8, val l < 256 ^ l.length
  | [] => by simp
  | b :: l => by
    have h := val_lt l
    have hb : b.toNat < 256 := b.toNat_lt
    rw [val_cons, List.length_cons, Nat.pow_succ]
    have : b.toNat * 256 ^ l.length ≤ 255 * 256 ^ l.length := Nat.mul_le_mul_right _ (by omega)
    omega
def encL (n : Nat) : List UInt8 := if h : n = 0 then [] else encL (n / 256) ++ [UInt8.ofNat (n % 256)]
termination_by n
decreasing_by omega
theorem encL_zero : encL 0 = [] := by unfold encL; simp
theorem encL_pos {n : Nat} (h : n ≠ 0) : encL n = encL (n / 256) ++ [UInt8.ofNat (n % 256)] := by
  conv => lhs; unfold encL
  rw [dif_neg h]
theorem val_encL (n : Nat) : val (encL n) = n := by
  induction n using Nat.strongRecOn with
  | _ n ih =>
    by_cases h : n = 0
    · rw [h, encL_zero]; rfl
    · rw [encL_pos h, val_snoc, ih (n / 256) (by omega)]
      simp; omega
def trimL (l : List UInt8) : List UInt8 := l.dropWhile (· == 0)
theorem trimL_cons (b : UInt8) (l : List UInt8) : trimL (b :: l) = if b = 0 then trimL l else b :: l := by
  unfold trimL
  rw [List.dropWhile_cons]
  by_cases h : b = 0 <;> simp [h]
theorem val_trimL : ∀ l : List UInt8, val (trimL l) = val l
  | [] => rfl
  | b :: l => by
    rw [trimL_cons]
    split
    · rename_i h; rw [val_trimL l, val_cons, h]; simp
    · rfl
theorem encL_head : ∀ (n : Nat), (encL n).head? ≠ some 0 := by
  intro n
  induction n using Nat.strongRecOn with
  | _ n ih =>
    by_cases h : n = 0
    · rw [h, encL_zero]; simp
    · rw [encL_pos h]
      by_cases h2 : n / 256 = 0
      · rw [h2, encL_zero]
        simp only [List.nil_append, List.head?_cons, ne_eq, Option.some.injEq]
        intro h3
        have := congrArg UInt8.toNat h3
        simp at this; omega
      · have := ih (n / 256) (by omega)
        have hne : encL (n / 256) ≠ [] := fun h3 => h2 (by rw [← val_encL (n / 256), h3]; rfl)
        rw [List.head?_append]
        cases hh : (encL (n / 256)).head? with
        | none => exact absurd (List.head?_eq_none_iff.1 hh) hne
        | some b => rw [hh] at this; simpa using this
theorem val_inj : ∀ {a b : List UInt8}, a.length = b.length → val a = val b → a = b
  | [], [], _, _ => rfl
  | x :: a, y :: b, hl, h => by
    have hl' : a.length = b.length := by simpa using hl
    rw [val_cons, val_cons, hl'] at h
    have ha := val_lt a
    have hb := val_lt b
    rw [hl'] at ha
    have h1 : x.toNat = y.toNat := by
      have e1 : (x.toNat * 256 ^ b.length + val a) / 256 ^ b.length = x.toNat := by
        rw [Nat.mul_comm, Nat.mul_add_div (Nat.pow_pos (by decide)), Nat.div_eq_of_lt ha]; rfl
      have e2 : (y.toNat * 256 ^ b.length + val b) / 256 ^ b.length = y.toNat := by
        rw [Nat.mul_comm, Nat.mul_add_div (Nat.pow_pos (by decide)), Nat.div_eq_of_lt hb]; rfl
      rw [← e1, h, e2]
    have h2 : val a = val b := by rw [h1] at h; omega
    rw [UInt8.toNat_inj.1 h1, val_inj hl' h2]
  | [], _ :: _, hl, _ => by simp at hl
  | _ :: _, [], hl, _ => by simp at hl
theorem val_ge {b : UInt8} {l : List UInt8} (h : b ≠ 0) : 256 ^ l.length ≤ val (b :: l) := by
  rw [val_cons]
  have : 1 ≤ b.toNat := by
    rcases Nat.eq_zero_or_pos b.toNat with h0 | h0
    · exact absurd (UInt8.toNat_inj.1 (by simpa using h0)) h
    · exact h0
  have := Nat.mul_le_mul_right (256 ^ l.length) this
  omega
theorem len_of_val {a b : List UInt8} (ha : a.head? ≠ some 0) (h : b.length < a.length) : val b < val a := by
  cases a with
  | nil => simp at h
  | cons x a =>
    have hx : x ≠ 0 := fun e => ha (by simp [e])
    have h1 := val_ge (l := a) hx
    have h2 := val_lt b
    have h3 : 256 ^ b.length ≤ 256 ^ a.length := Nat.pow_le_pow_right (by decide) (by simp at h; omega)
    omega
theorem canon {a b : List UInt8} (ha : a.head? ≠ some 0) (hb : b.head? ≠ some 0) (h : val a = val b) : a = b := by
  rcases Nat.lt_trichotomy a.length b.length with hl | hl | hl
  · have := len_of_val hb hl; omega
  · exact val_inj hl h
  · have := len_of_val ha hl; omega
theorem trimL_head : ∀ l : List UInt8, (trimL l).head? ≠ some 0
  | [] => by simp [trimL]
  | b :: l => by
    rw [trimL_cons]
    split
    · exact trimL_head l
    · rename_i h; simpa using h
theorem encL_val (l : List UInt8) : encL (val l) = trimL l := canon (encL_head _) (trimL_head _) (by rw [val_encL, val_trimL])
theorem encL_len {n k : Nat} : (encL n).length ≤ k ↔ n < 256 ^ k := by
  constructor
  · intro h
    have h1 := val_lt (encL n)
    rw [val_encL] at h1
    exact Nat.lt_of_lt_of_le h1 (Nat.pow_le_pow_right (by decide) h)
  · intro h
    apply Nat.le_of_not_lt
    intro hlt
    cases hc : encL n with
    | nil => rw [hc] at hlt; simp at hlt
    | cons x a =>
      have hx : x ≠ 0 := fun e => encL_head n (by rw [hc]; simp [e])
      have h1 := val_ge (l := a) hx
      rw [← hc, val_encL] at h1
      rw [hc] at hlt
      have h3 : 256 ^ k ≤ 256 ^ a.length := Nat.pow_le_pow_right (by decide) (by simp at hlt; omega)
      omega
def bv (s : ByteArray) : Nat := val s.data.toList
def enc (n : Nat) : ByteArray := ⟨(encL n).toArray⟩
@[simp] theorem bv_enc (n : Nat) : bv (enc n) = n := by simp [bv, enc, val_encL]
theorem enc_bv {s : ByteArray} (h : s.data.toList.head? ≠ some 0) : enc (bv s) = s := by
  cases s; rename_i d
  unfold enc bv
  congr
  rw [encL_val]
  have := canon (trimL_head d.toList) h (val_trimL _)
  simp only at this
  rw [this]
theorem enc_size {n k : Nat} : (enc n).size ≤ k ↔ n < 256 ^ k := by
  have : (enc n).size = (encL n).length := by simp [enc, ByteArray.size]
  rw [this, encL_len]
theorem size_data (s : ByteArray) : s.data.toList.length = s.size := by rw [Array.length_toList]; rfl
theorem enc_size_bv (s : ByteArray) : (enc (bv s)).size ≤ s.size := by
  rw [enc_size]
  have := val_lt s.data.toList
  rw [size_data] at this; exact this
theorem enc_inj {a b : Nat} (h : enc a = enc b) : a = b := by rw [← bv_enc a, h, bv_enc]
theorem bv_lt (s : ByteArray) : bv s < 256 ^ s.size := by
  have := val_lt s.data.toList
  rw [size_data] at this; exact this
def dg (B : Nat) : Nat → Nat → List Nat
  | 0, _ => []
  | m + 1, x => x % B :: dg B m (x / B)
def wv (B : Nat) : List Nat → Nat
  | [] => 0
  | d :: l => d + B * wv B l
theorem dg_len (B : Nat) : ∀ (m x : Nat), (dg B m x).length = m
  | 0, _ => rfl
  | m + 1, x => by simp [dg, dg_len B m]
theorem dg_get {B : Nat} : ∀ {m x i : Nat}, i < m → (dg B m x)[i]? = some (x / B ^ i % B)
  | 0, _, _, h => by omega
  | m + 1, x, 0, _ => by simp [dg]
  | m + 1, x, i + 1, h => by
    rw [dg, List.getElem?_cons_succ, dg_get (by omega), Nat.div_div_eq_div_mul, Nat.pow_succ, Nat.mul_comm B]
theorem dg_none {B m x i : Nat} (h : m ≤ i) : (dg B m x)[i]? = none := by
  rw [List.getElem?_eq_none]; rw [dg_len]; exact h
theorem dg_ext {B m : Nat} {l : List Nat} {x : Nat} (hl : l.length = m) (h : ∀ i, i < m → l[i]? = some (x / B ^ i % B)) : l = dg B m x := by
  apply List.ext_getElem?
  intro i
  by_cases hi : i < m
  · rw [h i hi, dg_get hi]
  · rw [dg_none (by omega), List.getElem?_eq_none (by omega)]
theorem wv_dg {B : Nat} (hB : 0 < B) : ∀ (m x : Nat), wv B (dg B m x) = x % B ^ m
  | 0, x => by simp [dg, wv, Nat.mod_one]
  | m + 1, x => by
    rw [dg, wv, wv_dg hB m, Nat.pow_succ, Nat.mul_comm (B ^ m) B, Nat.mod_mul]
theorem wv_lt {B : Nat} (hB : 0 < B) : ∀ {l : List Nat}, (∀ d ∈ l, d < B) → wv B l < B ^ l.length
  | [], _ => by simp [wv]
  | d :: l, h => by
    have h1 := wv_lt hB (l := l) (fun x hx => h x (by simp [hx]))
    have h2 := h d (by simp)
    rw [wv, List.length_cons, Nat.pow_succ]
    have : B * (wv B l + 1) ≤ B * B ^ l.length := Nat.mul_le_mul_left _ h1
    rw [Nat.mul_add, Nat.mul_one] at this
    rw [Nat.mul_comm (B ^ l.length) B]
    omega
theorem dg_wv {B : Nat} (hB : 0 < B) : ∀ {l : List Nat}, (∀ d ∈ l, d < B) → dg B l.length (wv B l) = l
  | [], _ => rfl
  | d :: l, h => by
    have h2 := h d (by simp)
    rw [List.length_cons, dg, wv, Nat.add_mul_mod_self_left, Nat.mod_eq_of_lt h2, Nat.add_mul_div_left _ _ hB, Nat.div_eq_of_lt h2, Nat.zero_add, dg_wv hB fun x hx => h x (by simp [hx])]
theorem dg_mod {B : Nat} (hB : 0 < B) : ∀ (m x : Nat), dg B m (x % B ^ m) = dg B m x := by
  intro m x
  have h := dg_wv hB (l := dg B m x) (fun d hd => by
    obtain ⟨i, hi, rfl⟩ := List.getElem_of_mem hd
    have h2 := dg_get (B := B) (x := x) (i := i) (by rw [dg_len] at hi; exact hi)
    rw [List.getElem?_eq_getElem hi] at h2
    rw [Option.some.inj h2]
    exact Nat.mod_lt _ hB)
  rw [wv_dg hB, dg_len] at h
  exact h
theorem dg_set {B m i c d lo hi : Nat} (hB : 0 < B) (hc : c < B) (hd : d < B) (hlo : lo < B ^ i) (him : i < m) :
    (dg B m (hi * B ^ (i + 1) + c * B ^ i + lo)).set i d = dg B m (hi * B ^ (i + 1) + d * B ^ i + lo) := by
  have dig : ∀ (e j : Nat), e < B → (hi * B ^ (i + 1) + e * B ^ i + lo) / B ^ j % B = if j = i then e else if j < i then lo / B ^ j % B else hi / B ^ (j - (i + 1)) % B := by
    intro e j he
    have e0 : hi * B ^ (i + 1) + e * B ^ i + lo = (hi * B + e) * B ^ i + lo := by rw [Nat.add_mul, Nat.pow_succ, Nat.mul_comm (B ^ i) B, Nat.mul_assoc]
    rw [e0]
    by_cases h1 : j = i
    · rw [if_pos h1, h1, Nat.add_comm, Nat.add_mul_div_right _ _ (Nat.pow_pos hB), Nat.div_eq_of_lt hlo, Nat.zero_add, Nat.add_comm, Nat.add_mul_mod_self_right, Nat.mod_eq_of_lt he]
    · rw [if_neg h1]
      by_cases h2 : j < i
      · rw [if_pos h2]
        obtain ⟨k, rfl⟩ : ∃ k, i = j + 1 + k := ⟨i - (j + 1), by omega⟩
        rw [Nat.add_assoc, Nat.pow_add, ← Nat.mul_assoc, Nat.mul_comm _ (B ^ j), Nat.mul_assoc, Nat.add_comm, Nat.add_mul_div_left _ _ (Nat.pow_pos hB), Nat.add_comm 1 k, Nat.pow_succ, ← Nat.mul_assoc, Nat.add_mul_mod_self_right]
      · rw [if_neg h2]
        obtain ⟨k, rfl⟩ : ∃ k, j = i + (k + 1) := ⟨j - (i + 1), by omega⟩
        rw [Nat.pow_add, ← Nat.div_div_eq_div_mul, Nat.add_comm, Nat.add_mul_div_right _ _ (Nat.pow_pos hB), Nat.div_eq_of_lt hlo, Nat.zero_add, Nat.pow_succ, Nat.mul_comm (B ^ k) B, ← Nat.div_div_eq_div_mul, Nat.add_comm, Nat.add_mul_div_right _ _ hB, Nat.div_eq_of_lt he, Nat.zero_add]
        congr 3; omega
  refine dg_ext (by simp [dg_len]) fun j hj => ?_
  rw [List.getElem?_set]
  rw [dig d j hd]
  by_cases h1 : i = j
  · rw [if_pos h1, if_pos (by rw [dg_len]; exact h1 ▸ him), if_pos h1.symm]
  · have h1' : ¬ j = i := fun h => h1 h.symm
    rw [if_neg h1, dg_get hj, dig c j hc, if_neg h1', if_neg h1']
def be (m n : Nat) : List UInt8 := (dg 256 m n).reverse.map UInt8.ofNat
theorem be_succ (m n : Nat) : be (m + 1) n = be m (n / 256) ++ [UInt8.ofNat (n % 256)] := by simp [be, dg]
theorem be_len (m n : Nat) : (be m n).length = m := by simp [be, dg_len]
theorem val_be : ∀ (m n : Nat), val (be m n) = n % 256 ^ m
  | 0, n => by simp [be, dg, Nat.mod_one]
  | m + 1, n => by
    rw [be_succ, val_snoc, val_be m, Nat.pow_succ, Nat.mul_comm (256 ^ m) 256, Nat.mod_mul]
    have : (UInt8.ofNat (n % 256)).toNat = n % 256 := by simp
    rw [this]; omega
theorem be_zero (n : Nat) : be 0 n = [] := rfl
theorem enc_zero : enc 0 = ⟨⟨[]⟩⟩ := by rw [enc, encL_zero]
end Go.Num
end
section
set_option linter.unusedVariables false
namespace Go.Num
theorem trial_first {B V R v1 top P q : Nat} (hV : v1 * P ≤ V) (hR : R < (top + 1) * P) (hv : 0 < v1) (hq : q * V ≤ R) : q ≤ top / v1 := by
  rw [Nat.le_div_iff_mul_le hv]
  have h1 : q * (v1 * P) ≤ R := Nat.le_trans (Nat.mul_le_mul_left q hV) hq
  have h2 : q * v1 * P < (top + 1) * P := by rw [Nat.mul_assoc]; omega
  have h3 : q * v1 < top + 1 := Nat.lt_of_mul_lt_mul_right h2
  omega
theorem trial_down {V R W T P q d : Nat} (hV : W * P ≤ V) (hR : R < (T + 1) * P) (hq : q * V ≤ R) (hd : T < d * W) : q < d := by
  have h1 : q * (W * P) ≤ R := Nat.le_trans (Nat.mul_le_mul_left q hV) hq
  have h2 : q * W * P < (T + 1) * P := by rw [Nat.mul_assoc]; omega
  have h3 : q * W < T + 1 := Nat.lt_of_mul_lt_mul_right h2
  have h4 : q * W < d * W := by omega
  exact Nat.lt_of_mul_lt_mul_right h4
theorem trial_up {B V R W T P q d : Nat} (hV : V < (W + 1) * P) (hB : B * P ≤ V) (hT : T * P ≤ R) (hd : d * W ≤ T) (hdB : d ≤ B) (hR : R < (q + 1) * V) (hV0 : 0 < V) : d ≤ q + 1 := by
  have h1 : d * V ≤ d * (W + 1) * P := by
    rw [Nat.mul_assoc]; exact Nat.mul_le_mul_left d (Nat.le_of_lt hV)
  have h2 : d * (W + 1) * P = d * W * P + d * P := by rw [Nat.mul_add, Nat.mul_one, Nat.add_mul]
  have h3 : d * W * P ≤ T * P := Nat.mul_le_mul_right P hd
  have h4 : d * P ≤ B * P := Nat.mul_le_mul_right P hdB
  have h5 : d * V < (q + 2) * V := by
    have : (q + 2) * V = (q + 1) * V + V := by rw [Nat.add_mul, Nat.add_mul]; omega
    omega
  have := Nat.lt_of_mul_lt_mul_right h5
  omega
theorem trial_stop {B d v1 v2 top u2 rest : Nat} (hrest : top = d * v1 + rest) (hr : B ≤ rest) (hd : d ≤ B) (hv2 : v2 < B) : d * (v1 * B + v2) ≤ top * B + u2 := by
  rw [hrest, Nat.mul_add, Nat.add_mul, ← Nat.mul_assoc]
  have h1 : d * v2 ≤ B * v2 := Nat.mul_le_mul_right _ hd
  have h2 : B * v2 ≤ B * B := Nat.mul_le_mul_left _ (Nat.le_of_lt hv2)
  have h3 : B * B ≤ rest * B := Nat.mul_le_mul_right _ hr
  omega
theorem trial_test {B d v1 v2 top u2 rest : Nat} (hrest : top = d * v1 + rest) : d * v2 > rest * B + u2 ↔ top * B + u2 < d * (v1 * B + v2) := by
  rw [hrest, Nat.mul_add, Nat.add_mul, ← Nat.mul_assoc]
  omega
end Go.Num
end
