/- AE, part 14: the arithmetic laid open, for the plain side of a walk. -/
import Derived.Test.YtjbnffclpebkkaaDoorAE12
namespace Go.AE
open Go
theorem wrap_u8 (n : Int) : IntKind.wrap .u8 n = n % 256 := by simp [IntKind.wrap, IntKind.bits, IntKind.signed]
theorem wrap_u32 (n : Int) : IntKind.wrap .u32 n = n % 4294967296 := by simp [IntKind.wrap, IntKind.bits, IntKind.signed]
theorem wrap_u64 (n : Int) : IntKind.wrap .u64 n = n % 18446744073709551616 := by simp [IntKind.wrap, IntKind.bits, IntKind.signed]
theorem wrap_i64 {n : Int} (h0 : -9223372036854775808 ≤ n) (h1 : n ≤ 9223372036854775807) : IntKind.wrap .i64 n = n := by
  simp [IntKind.wrap, IntKind.bits, IntKind.signed]; omega
theorem std_add {a b : Int} (h0 : -9223372036854775808 ≤ a + b) (h : a + b ≤ 9223372036854775807) : std.bin .add .i64 a b = a + b := wrap_i64 h0 h
theorem std_sub {a b : Int} (h0 : -9223372036854775808 ≤ a - b) (h : a - b ≤ 9223372036854775807) : std.bin .sub .i64 a b = a - b := wrap_i64 h0 h
/-- What a comparison says that came out so. -/
theorem ltN {A : Ari} (hA : A = std) {i n : Nat} {m : Int} (hm : m = n) (h : A.cmp .lss (Int.ofNat i) m = true) : i < n := by
  subst hA; subst hm; simpa [std, cmpI] using h
theorem geN {A : Ari} (hA : A = std) {i n : Nat} {m : Int} (hm : m = n) (h : A.cmp .lss (Int.ofNat i) m = false) : n ≤ i := by
  subst hA; subst hm; simpa [std, cmpI] using h
theorem addN {A : Ari} (hA : A = std) {i : Nat} (h : i < 2 ^ 62) : A.bin .add .i64 (Int.ofNat i) 1 = ((i + 1 : Nat) : Int) := by
  subst hA; show std.bin .add .i64 (i : Int) 1 = _; rw [std_add] <;> omega
theorem c_lss {A : Ari} (hA : A = std) (a b : Int) : A.cmp .lss a b = (decide (a < b)) := by subst hA; rfl
theorem c_leq {A : Ari} (hA : A = std) (a b : Int) : A.cmp .leq a b = (decide (a ≤ b)) := by subst hA; rfl
theorem c_gtr {A : Ari} (hA : A = std) (a b : Int) : A.cmp .gtr a b = (decide (b < a)) := by subst hA; rfl
theorem c_geq {A : Ari} (hA : A = std) (a b : Int) : A.cmp .geq a b = (decide (b ≤ a)) := by subst hA; rfl
theorem c_eql {A : Ari} (hA : A = std) (a b : Int) : A.cmp .eql a b = (decide (a = b)) := by subst hA; show (a == b) = _; by_cases h : a = b <;> simp [h]
theorem c_neq {A : Ari} (hA : A = std) (a b : Int) : A.cmp .neq a b = (!decide (a = b)) := by subst hA; show (a != b) = _; by_cases h : a = b <;> simp [h]
theorem c_not {A : Ari} (hA : A = std) (b : Bool) : A.bnot b = !b := by subst hA; rfl
theorem c_and {A : Ari} (hA : A = std) (a b : Bool) : A.band a b = (a && b) := by subst hA; rfl
theorem c_beq {A : Ari} (hA : A = std) (a b : Bool) : A.bcmp .eql a b = (a == b) := by subst hA; rfl
theorem c_bne {A : Ari} (hA : A = std) (a b : Bool) : A.bcmp .neq a b = (a != b) := by subst hA; rfl
theorem c_mset {A : Ari} (hA : A = std) (g : Value → Option Value) (k v : Value) : A.mset g k v = msetF g k v := by subst hA; rfl
theorem posN {A : Ari} (hA : A = std) {i : Nat} (h : A.cmp .gtr (Int.ofNat i) 0 = true) : 0 < i := by
  subst hA
  have : (0 : Int) < Int.ofNat i := by simpa [std, cmpI] using h
  have h2 : (0 : Int) < (i : Int) := this
  omega
theorem subN {A : Ari} (hA : A = std) {i : Nat} (h0 : 0 < i) (h : i < 2 ^ 62) : A.bin .sub .i64 (Int.ofNat i) 1 = ((i - 1 : Nat) : Int) := by
  subst hA; show std.bin .sub .i64 (i : Int) 1 = _; rw [std_sub] <;> omega
theorem ltT {A : Ari} (hA : A = std) {a b : Int} (h : A.cmp .lss a b = true) : a < b := by subst hA; simpa [std, cmpI] using h
theorem ltF {A : Ari} (hA : A = std) {a b : Int} (h : A.cmp .lss a b = false) : b ≤ a := by subst hA; simpa [std, cmpI] using h
theorem leT {A : Ari} (hA : A = std) {a b : Int} (h : A.cmp .leq a b = true) : a ≤ b := by subst hA; simpa [std, cmpI] using h
theorem leF {A : Ari} (hA : A = std) {a b : Int} (h : A.cmp .leq a b = false) : b < a := by subst hA; simpa [std, cmpI] using h
theorem gtT {A : Ari} (hA : A = std) {a b : Int} (h : A.cmp .gtr a b = true) : b < a := by subst hA; simpa [std, cmpI] using h
theorem gtF {A : Ari} (hA : A = std) {a b : Int} (h : A.cmp .gtr a b = false) : a ≤ b := by subst hA; simpa [std, cmpI] using h
theorem geT {A : Ari} (hA : A = std) {a b : Int} (h : A.cmp .geq a b = true) : b ≤ a := by subst hA; simpa [std, cmpI] using h
theorem geF {A : Ari} (hA : A = std) {a b : Int} (h : A.cmp .geq a b = false) : a < b := by subst hA; simpa [std, cmpI] using h
theorem eqT {A : Ari} (hA : A = std) {a b : Int} (h : A.cmp .eql a b = true) : a = b := by subst hA; simpa [std, cmpI] using h
theorem eqF {A : Ari} (hA : A = std) {a b : Int} (h : A.cmp .eql a b = false) : a ≠ b := by subst hA; simpa [std, cmpI] using h
theorem neT {A : Ari} (hA : A = std) {a b : Int} (h : A.cmp .neq a b = true) : a ≠ b := by subst hA; simpa [std, cmpI] using h
theorem neF {A : Ari} (hA : A = std) {a b : Int} (h : A.cmp .neq a b = false) : a = b := by subst hA; simpa [std, cmpI] using h
theorem sbytes_len (s : ByteArray) : (sbytes s).length = s.size := by
  rw [sbytes_eq, List.length_map, Array.length_toList]; rfl
end Go.AE
