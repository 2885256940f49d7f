/- AE, part 14: the arithmetic laid open, for the plain side of a walk. -/
import Derived.Test.YtjbnffclpebkkaaAE12
namespace Go.AE
open Go
theorem wrap_u8 (n : Int) : IntKind.wrap .u8 n = n % 256 := by simp [IntKind.wrap, IntKind.bits, IntKind.signed]
theorem wrap_u32 (n : Int) : IntKind.wrap .u32 n = n % 4294967296 := by simp [IntKind.wrap, IntKind.bits, IntKind.signed]
theorem wrap_u64 (n : Int) : IntKind.wrap .u64 n = n % 18446744073709551616 := by simp [IntKind.wrap, IntKind.bits, IntKind.signed]
theorem wrap_i64 {n : Int} (h0 : -9223372036854775808 ≤ n) (h1 : n ≤ 9223372036854775807) : IntKind.wrap .i64 n = n := by
  simp [IntKind.wrap, IntKind.bits, IntKind.signed]; omega
theorem std_add {a b : Int} (h0 : -9223372036854775808 ≤ a + b) (h : a + b ≤ 9223372036854775807) : std.bin .add .i64 a b = a + b := wrap_i64 h0 h
theorem std_sub {a b : Int} (h0 : -9223372036854775808 ≤ a - b) (h : a - b ≤ 9223372036854775807) : std.bin .sub .i64 a b = a - b := wrap_i64 h0 h
theorem sbytes_len (s : ByteArray) : (sbytes s).length = s.size := by
  rw [sbytes_eq, List.length_map, Array.length_toList]; rfl
end Go.AE
