/- The steps of long division: plain laws. -/
import Derived.Test.YthadehkggddgoaaGreatDoorZBits
import Derived.Test.YthadehkggddgoaaGreatDoorZNum
import Derived.Lib.ItoaNum
set_option linter.unusedVariables false
set_option linter.unusedSectionVars false
namespace Go.Num
theorem two_digits {B x p : Nat} : x / B ^ (p + 1) * B + x / B ^ p % B = x / B ^ p := by
  have h := Nat.div_add_mod (x / B ^ p) B
  rw [Nat.div_div_eq_div_mul, ← Nat.pow_succ] at h
  rw [Nat.mul_comm]; exact h
theorem lg_q {B V R j q : Nat} (hV : 0 < V) (hB : 0 < B) (hq : q = R / (V * B ^ j)) (hR : R < V * B ^ (j + 1)) : q < B ∧ q * (V * B ^ j) ≤ R ∧ R < (q + 1) * (V * B ^ j) := by
  have hP : 0 < V * B ^ j := Nat.mul_pos hV (Nat.pow_pos hB)
  have h1 := Nat.div_add_mod R (V * B ^ j)
  have h2 := Nat.mod_lt R hP
  rw [← hq] at h1
  refine ⟨?_, ?_, ?_⟩
  · rw [hq, Nat.div_lt_iff_lt_mul hP, Nat.mul_comm, Nat.mul_assoc, ← Nat.pow_succ]; exact hR
  · rw [Nat.mul_comm]; omega
  · rw [Nat.add_mul, Nat.one_mul, Nat.mul_comm]; omega
section
variable {B b V R j e q v1 v2 top u2 : Nat} (hBb : B = 2 * b) (hb : 1 < B) (hVlo : b * B ^ (e + 1) ≤ V) (hVhi : V < B ^ (e + 2)) (hR : R < V * B ^ (j + 1)) (hq : q = R / (V * B ^ j))
  (hv1 : v1 = V / B ^ (e + 1)) (hv2 : v2 = V / B ^ e % B) (htop : top = R / B ^ (j + e + 1)) (hu2 : u2 = R / B ^ (j + e) % B)
include hBb hb hVlo hVhi hv1 in
theorem lg_v1 : b ≤ v1 ∧ v1 < B ∧ v1 * B ^ (e + 1) ≤ V ∧ V < (v1 + 1) * B ^ (e + 1) := by
  have hP : 0 < B ^ (e + 1) := Nat.pow_pos (by omega)
  have h1 := Nat.div_add_mod V (B ^ (e + 1))
  have h2 := Nat.mod_lt V hP
  rw [← hv1] at h1
  refine ⟨?_, ?_, ?_, ?_⟩
  · rw [hv1, Nat.le_div_iff_mul_le hP]; exact hVlo
  · rw [hv1, Nat.div_lt_iff_lt_mul hP, Nat.mul_comm, ← Nat.pow_succ]; exact hVhi
  · rw [hv1]; exact Nat.div_mul_le_self _ _
  · rw [Nat.add_mul, Nat.one_mul, Nat.mul_comm]; omega
include hBb hb hVlo hVhi hR hv1 htop in
theorem lg_top : top < (v1 + 1) * B ∧ top * B ^ (j + e + 1) ≤ R ∧ R < (top + 1) * B ^ (j + e + 1) := by
  have hP : 0 < B ^ (j + e + 1) := Nat.pow_pos (by omega)
  obtain ⟨a1, a2, a3, a4⟩ := lg_v1 hBb hb hVlo hVhi hv1
  have h1 := Nat.div_add_mod R (B ^ (j + e + 1))
  have h2 := Nat.mod_lt R hP
  rw [← htop] at h1
  refine ⟨?_, ?_, ?_⟩
  · rw [htop, Nat.div_lt_iff_lt_mul hP]
    refine Nat.lt_trans hR ?_
    have h3 := Nat.mul_lt_mul_of_pos_right a4 (show 0 < B ^ (j + 1) from Nat.pow_pos (by omega))
    have h4 : (v1 + 1) * B ^ (e + 1) * B ^ (j + 1) = (v1 + 1) * B * B ^ (j + e + 1) := by
      rw [Nat.mul_assoc, Nat.mul_assoc, ← Nat.pow_add]
      congr 1
      rw [Nat.mul_comm B, ← Nat.pow_succ]
      congr 1; omega
    rw [← h4]; exact h3
  · rw [htop]; exact Nat.div_mul_le_self _ _
  · rw [Nat.add_mul, Nat.one_mul, Nat.mul_comm]; omega
include hBb hb hVlo hVhi hR hv1 htop hq in
theorem lg_first : q ≤ top / v1 ∧ top / v1 ≤ B + 1 := by
  obtain ⟨a1, a2, a3, a4⟩ := lg_v1 hBb hb hVlo hVhi hv1
  obtain ⟨b1, b2, b3⟩ := lg_top hBb hb hVlo hVhi hR hv1 htop
  have hV0 : 0 < V := by
    have : 0 < b * B ^ (e + 1) := Nat.mul_pos (by omega) (Nat.pow_pos (by omega))
    omega
  obtain ⟨c1, c2, c3⟩ := lg_q hV0 (by omega) hq hR
  have hv0 : 0 < v1 := by omega
  refine ⟨trial_first (B := B) (V := V * B ^ j) (R := R) (P := B ^ (j + e + 1)) ?_ b3 hv0 c2, ?_⟩
  · have h4 : v1 * B ^ (j + e + 1) = v1 * B ^ (e + 1) * B ^ j := by
      rw [Nat.mul_assoc, ← Nat.pow_add]; congr 2; omega
    rw [h4]; exact Nat.mul_le_mul_right _ a3
  · have h5 : top < (B + 2) * v1 := by
      have : (B + 2) * v1 = v1 * B + 2 * v1 := by rw [Nat.add_mul, Nat.mul_comm]
      rw [Nat.add_mul] at b1
      omega
    have := (Nat.div_lt_iff_lt_mul hv0).2 h5
    omega
theorem lg_rest {d rest : Nat} (hb1 : top < (v1 + 1) * B) (hd : top = d * v1 + rest) (hr : B ≤ rest) : d < B := by
  apply Nat.lt_of_not_le
  intro h
  have := Nat.mul_le_mul_right v1 h
  rw [Nat.add_mul, Nat.mul_comm v1] at hb1
  omega
include hBb hb hVlo hVhi hR hv1 hv2 htop hu2 hq in
theorem lg_down {d rest : Nat} (hd : top = d * v1 + rest) (hqd : q ≤ d) (ht : B ≤ d ∨ rest * B + u2 < d * v2) : q + 1 ≤ d := by
  have hV0 : 0 < V := by
    have : 0 < b * B ^ (e + 1) := Nat.mul_pos (by omega) (Nat.pow_pos (by omega))
    omega
  obtain ⟨c1, c2, c3⟩ := lg_q hV0 (by omega) hq hR
  rcases ht with ht | ht
  · omega
  · have h1 := (trial_test (B := B) (d := d) (v1 := v1) (v2 := v2) (top := top) (u2 := u2) (rest := rest) hd).1 ht
    have hT : top * B + u2 = R / B ^ (j + e) := by rw [htop, hu2, two_digits]
    have hW2 : v1 * B + v2 = V / B ^ e := by rw [hv1, hv2, two_digits]
    rw [hT, hW2] at h1
    have hP : 0 < B ^ e := Nat.pow_pos (by omega)
    have hP2 : 0 < B ^ (j + e) := Nat.pow_pos (by omega)
    refine trial_down (V := V * B ^ j) (R := R) (W := V / B ^ e) (T := R / B ^ (j + e)) (P := B ^ (j + e)) (q := q) (d := d) ?_ ?_ c2 h1
    · rw [Nat.add_comm j e, Nat.pow_add, ← Nat.mul_assoc]; exact Nat.mul_le_mul_right _ (Nat.div_mul_le_self _ _)
    · have h2 := Nat.div_add_mod R (B ^ (j + e))
      have h3 := Nat.mod_lt R hP2
      rw [Nat.add_mul, Nat.one_mul, Nat.mul_comm]; omega
include hBb hb hVlo hVhi hR hv1 hv2 htop hu2 hq in
theorem lg_up {d rest : Nat} (hd : top = d * v1 + rest) (hdB : d < B) (ht : B ≤ rest ∨ ¬ rest * B + u2 < d * v2) : d ≤ q + 1 := by
  have hV0 : 0 < V := by
    have : 0 < b * B ^ (e + 1) := Nat.mul_pos (by omega) (Nat.pow_pos (by omega))
    omega
  obtain ⟨c1, c2, c3⟩ := lg_q hV0 (by omega) hq hR
  have hv2B : v2 < B := by rw [hv2]; exact Nat.mod_lt _ (by omega)
  have h1 : d * (v1 * B + v2) ≤ top * B + u2 := by
    rcases ht with ht | ht
    · exact trial_stop hd ht (Nat.le_of_lt hdB) hv2B
    · have := mt (trial_test (B := B) (d := d) (v1 := v1) (v2 := v2) (top := top) (u2 := u2) (rest := rest) hd).2 ht
      omega
  have hT : top * B + u2 = R / B ^ (j + e) := by rw [htop, hu2, two_digits]
  have hW2 : v1 * B + v2 = V / B ^ e := by rw [hv1, hv2, two_digits]
  rw [hT, hW2] at h1
  have hP : 0 < B ^ e := Nat.pow_pos (by omega)
  have h2 := Nat.div_add_mod V (B ^ e)
  have h3 := Nat.mod_lt V hP
  have hBV : B * B ^ (j + e) ≤ V * B ^ j := by
    rw [Nat.add_comm j e, Nat.pow_add, ← Nat.mul_assoc, Nat.mul_comm B, ← Nat.pow_succ]
    refine Nat.mul_le_mul_right _ (Nat.le_trans ?_ hVlo)
    exact Nat.le_mul_of_pos_left _ (by omega)
  refine trial_up (B := B) (V := V * B ^ j) (R := R) (W := V / B ^ e) (T := R / B ^ (j + e)) (P := B ^ (j + e)) (q := q) (d := d) ?_ hBV (Nat.div_mul_le_self _ _) h1 (Nat.le_of_lt hdB) c3 (Nat.mul_pos hV0 (Nat.pow_pos (by omega)))
  rw [Nat.add_comm j e, Nat.pow_add, ← Nat.mul_assoc]
  refine Nat.mul_lt_mul_of_pos_right ?_ (Nat.pow_pos (by omega))
  rw [Nat.add_mul, Nat.one_mul, Nat.mul_comm]; omega
end
theorem norm32 {d s : Nat} (h0 : 0 < d) (hd : d < 2 ^ 32) (hs : s = 32 - Lib.bitLen d) : s ≤ 31 ∧ 2 ^ 31 ≤ d * 2 ^ s ∧ (d + 1) * 2 ^ s ≤ 2 ^ 32 ∧ (32 - (Lib.bitLen d : Int)) = (s : Int) := by
  obtain ⟨hb1, h2, h1⟩ : 1 ≤ Lib.bitLen d ∧ 2 ^ (Lib.bitLen d - 1) ≤ d ∧ d < 2 ^ Lib.bitLen d := Lib.bitLenAux_bounds 64 d (by omega) (by omega)
  have hb2 : Lib.bitLen d ≤ 32 := by
    apply Nat.le_of_not_lt; intro h
    have : 2 ^ 32 ≤ 2 ^ (Lib.bitLen d - 1) := Nat.pow_le_pow_right (by decide) (by omega)
    omega
  have e1 : Lib.bitLen d - 1 + s = 31 := by omega
  have e2 : Lib.bitLen d + s = 32 := by omega
  refine ⟨by omega, ?_, ?_, by omega⟩
  · have := Nat.mul_le_mul_right (2 ^ s) h2
    rwa [← Nat.pow_add, e1] at this
  · have := Nat.mul_le_mul_right (2 ^ s) (show d + 1 ≤ 2 ^ Lib.bitLen d from h1)
    rwa [← Nat.pow_add, e2] at this
theorem norm_row {B V e vt s b : Nat} (hB : 0 < B) (hvt : vt = V / B ^ (e + 1)) (h1 : b ≤ vt * 2 ^ s) (h2 : (vt + 1) * 2 ^ s ≤ B) : b * B ^ (e + 1) ≤ V * 2 ^ s ∧ V * 2 ^ s < B ^ (e + 2) := by
  have hP : 0 < B ^ (e + 1) := Nat.pow_pos hB
  have h3 : vt * B ^ (e + 1) ≤ V := by rw [hvt]; exact Nat.div_mul_le_self _ _
  have h4 : V < (vt + 1) * B ^ (e + 1) := by
    have a := Nat.div_add_mod V (B ^ (e + 1))
    have b := Nat.mod_lt V hP
    rw [← hvt] at a
    rw [Nat.add_mul, Nat.one_mul, Nat.mul_comm]; omega
  constructor
  · refine Nat.le_trans (Nat.mul_le_mul_right _ h1) ?_
    rw [Nat.mul_right_comm]; exact Nat.mul_le_mul_right _ h3
  · have h5 := Nat.mul_lt_mul_of_pos_right h4 (Nat.two_pow_pos s)
    have h6 := Nat.mul_le_mul_right (B ^ (e + 1)) h2
    rw [Nat.mul_right_comm] at h6
    rw [show e + 2 = e + 1 + 1 from rfl, Nat.pow_succ, Nat.mul_comm _ B]
    omega
theorem lg_begin {B V U m n s b : Nat} (hb : 0 < b) (hn : 0 < n) (hnm : n ≤ m) (hU : U < B ^ m) (hB : B = 2 * b) (hVlo : b * B ^ (n - 1) ≤ V) (hs : 2 ^ s ≤ b) : U * 2 ^ s < V * B ^ (m + 1 - n) := by
  have hP : 0 < B ^ (m + 1 - n) := Nat.pow_pos (by omega)
  have h1 := Nat.mul_le_mul_right (B ^ (m + 1 - n)) hVlo
  rw [Nat.mul_assoc, ← Nat.pow_add, show n - 1 + (m + 1 - n) = m by omega] at h1
  have h2 := Nat.mul_lt_mul_of_pos_right hU (Nat.two_pow_pos s)
  have h3 := Nat.mul_le_mul_left (B ^ m) hs
  rw [Nat.mul_comm b] at h1
  omega
theorem lg_left {B V R j q d : Nat} {U1 : Nat} (hV : 0 < V) (hB : 0 < B) (N : Nat) (hq : q = R / (V * B ^ j)) (hR : R < V * B ^ (j + 1)) (hVN : V * B ^ (j + 1) ≤ N) (hqd : q ≤ d) (hdq : d ≤ q + 1) :
    (¬ R < d * V * B ^ j → d = q ∧ R - d * V * B ^ j = R % (V * B ^ j)) ∧ (R < d * V * B ^ j → d = q + 1 ∧ (R + N - d * V * B ^ j + V * B ^ j) % N = R % (V * B ^ j) ∧ R + N - d * V * B ^ j < N) := by
  obtain ⟨c1, c2, c3⟩ := lg_q hV hB hq hR
  have hm : R % (V * B ^ j) = R - q * (V * B ^ j) := by
    have := Nat.div_add_mod R (V * B ^ j)
    rw [← hq, Nat.mul_comm] at this; omega
  have hP : 0 < V * B ^ j := Nat.mul_pos hV (Nat.pow_pos hB)
  rw [Nat.mul_assoc, hm]
  constructor
  · intro h
    have : d = q := by
      rcases Nat.lt_or_ge q d with h1 | h1
      · have : d = q + 1 := by omega
        rw [this] at h; exact absurd c3 h
      · omega
    rw [this]; exact ⟨rfl, rfl⟩
  · intro h
    have hd : d = q + 1 := by
      rcases Nat.lt_or_ge q d with h1 | h1
      · omega
      · have : d = q := by omega
        rw [this] at h; omega
    rw [hd] at h ⊢
    have h5 : V * B ^ (j + 1) = B * (V * B ^ j) := by rw [Nat.pow_succ, ← Nat.mul_assoc, Nat.mul_comm]
    have h6 : (q + 1) * (V * B ^ j) = q * (V * B ^ j) + V * B ^ j := by rw [Nat.add_mul, Nat.one_mul]
    have h7 : (q + 1) * (V * B ^ j) ≤ B * (V * B ^ j) := Nat.mul_le_mul_right _ c1
    refine ⟨rfl, ?_, by omega⟩
    have h8 : R + N - (q + 1) * (V * B ^ j) + V * B ^ j = (R - q * (V * B ^ j)) + N := by omega
    rw [h8, Nat.add_mod_right, Nat.mod_eq_of_lt]
    omega
theorem lg_quot {B V R j q Q X cnt : Nat} (hB : 0 < B) (hV : 0 < V) (hq : q = R / (V * B ^ j)) (hR : R < V * B ^ (j + 1)) (hQ : Q % B ^ (j + 1) = 0) (hX : X = Q * V + R) (hj : j < cnt) :
    (dg B cnt Q).set j q = dg B cnt (Q + q * B ^ j) ∧ (Q + q * B ^ j) % B ^ j = 0 ∧ X = (Q + q * B ^ j) * V + R % (V * B ^ j) ∧ R % (V * B ^ j) < V * B ^ j := by
  obtain ⟨c1, c2, c3⟩ := lg_q hV hB hq hR
  have hd : Q / B ^ j % B = 0 := by
    have h1 : Q % B ^ (j + 1) / B ^ j = Q / B ^ j % B := by rw [Nat.pow_succ, Nat.mod_mul_right_div_self]
    rw [← h1, hQ, Nat.zero_div]
  refine ⟨?_, ?_, ?_, Nat.mod_lt _ (Nat.mul_pos hV (Nat.pow_pos hB))⟩
  · rw [dg_upd hB c1 hj]
    have := upd_eq B j Q q
    rw [hd, Nat.zero_mul, Nat.add_zero] at this
    rw [this]
  · have h1 : Q % B ^ j = 0 := by
      have : Q % B ^ (j + 1) % B ^ j = Q % B ^ j := Nat.mod_mod_of_dvd _ ⟨B, by rw [Nat.pow_succ]⟩
      rw [← this, hQ, Nat.zero_mod]
    rw [Nat.add_mul_mod_self_right, h1]
  · have := Nat.div_add_mod R (V * B ^ j)
    rw [← hq] at this
    rw [hX, Nat.add_mul, Nat.mul_assoc q, Nat.mul_comm (B ^ j) V, Nat.mul_comm q, Nat.add_assoc, this]
theorem right_step {B i s R m X E : Nat} (hE : B = E * 2 ^ s) (hE0 : 0 < E) (hX : X = R / B ^ i * B ^ i + R / 2 ^ s % B ^ i) (hi : i < m) :
    let r := R / B ^ i % B
    let r2 := R / B ^ (i + 1) % B
    X / B ^ i % B = r ∧ r / 2 ^ s < E ∧ r / 2 ^ s + r2 % 2 ^ s * E < B ∧ (dg B m X).set i (r / 2 ^ s + r2 % 2 ^ s * E) = dg B m (R / B ^ (i + 1) * B ^ (i + 1) + R / 2 ^ s % B ^ (i + 1)) := by
  intro r r2
  have h2 : 0 < 2 ^ s := Nat.two_pow_pos s
  have hB : 0 < B := by rw [hE]; exact Nat.mul_pos hE0 h2
  have hP : 0 < B ^ i := Nat.pow_pos hB
  have hlt := Nat.mod_lt (R / 2 ^ s) hP
  have e1 : X / B ^ i = R / B ^ i := by rw [hX, Nat.add_comm, Nat.add_mul_div_right _ _ hP, Nat.div_eq_of_lt hlt, Nat.zero_add]
  have hr : r < B := Nat.mod_lt _ hB
  have a1 : r / 2 ^ s < E := by rw [Nat.div_lt_iff_lt_mul h2, ← hE]; exact hr
  have a2 : r / 2 ^ s + r2 % 2 ^ s * E < B := by
    have h3 : (r2 % 2 ^ s + 1) * E ≤ 2 ^ s * E := Nat.mul_le_mul_right _ (Nat.mod_lt _ h2)
    rw [Nat.add_mul, Nat.one_mul, Nat.mul_comm (2 ^ s) E, ← hE] at h3
    omega
  refine ⟨by rw [e1], a1, a2, ?_⟩
  have hdig : R / 2 ^ s / B ^ i % B = r / 2 ^ s + r2 % 2 ^ s * E := by
    have f1 : R / 2 ^ s / B ^ i = R / B ^ i / 2 ^ s := by rw [Nat.div_div_eq_div_mul, Nat.div_div_eq_div_mul, Nat.mul_comm]
    have f2 : R / B ^ i = R / B ^ (i + 1) * B + r := two_digits.symm
    have f3 : (R / B ^ (i + 1) * B + r) / 2 ^ s = R / B ^ (i + 1) * E + r / 2 ^ s := by
      rw [hE, ← Nat.mul_assoc, Nat.add_comm, Nat.add_mul_div_right _ _ h2, Nat.add_comm]
    rw [f1, f2, f3]
    have f4 := Nat.div_add_mod (R / B ^ (i + 1)) (2 ^ s)
    have f5 : R / B ^ (i + 1) % 2 ^ s = r2 % 2 ^ s := by
      show _ = R / B ^ (i + 1) % B % 2 ^ s
      exact (Nat.mod_mod_of_dvd _ ⟨E, by rw [hE, Nat.mul_comm]⟩).symm
    rw [f5] at f4
    have f6 : R / B ^ (i + 1) * E + r / 2 ^ s = (r / 2 ^ s + r2 % 2 ^ s * E) + R / B ^ (i + 1) / 2 ^ s * B := by
      conv => lhs; rw [← f4]
      rw [Nat.add_mul, hE, Nat.mul_comm (2 ^ s), Nat.mul_assoc, Nat.mul_comm (2 ^ s) E]; omega
    rw [f6, Nat.add_mul_mod_self_right, Nat.mod_eq_of_lt a2]
  rw [mod_succ (R / 2 ^ s), hdig]
  have f2 : R / B ^ i = R / B ^ (i + 1) * B + r := two_digits.symm
  have hXe : X = R / B ^ (i + 1) * B ^ (i + 1) + r * B ^ i + R / 2 ^ s % B ^ i := by
    rw [hX, f2, Nat.add_mul, Nat.mul_assoc, Nat.mul_comm B, ← Nat.pow_succ]
  rw [hXe, dg_set hB hr a2 hlt hi]
  congr 1
  omega
end Go.Num
