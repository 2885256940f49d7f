/- Bits of numbers apart; steps of rows of digits. Plain laws. Digits taken away, added, multiplied: plain laws. Rows moved left, digits taken away and put back: plain laws. -/
import Derived.Test.YthadehkggddgoaaGreatDoorZData
section
set_option linter.unusedVariables false
namespace Go.Num
theorem or_u32 {k a b:Nat} (h:a * 2 ^ k + b < 2 ^ 32) (hb:b < 2 ^ k):AE.std.bin .or .u32 (b:Int) ((a * 2 ^ k:Nat):Int) = ((b + a * 2 ^ k:Nat):Int):=by
 have e:b ||| a * 2 ^ k = b + a * 2 ^ k:=by rw [Nat.or_comm,Nat.mul_comm,← Nat.two_pow_add_eq_or_of_lt hb a,Nat.add_comm]
 show IntKind.wrap .u32 (((BitVec.ofInt 32 (b:Int)) ||| (BitVec.ofInt 32 ((a * 2 ^ k:Nat):Int))).toNat:Int) = _
 rw [AE.wrap_u32,BitVec.toNat_or,BitVec.toNat_ofInt,BitVec.toNat_ofInt]
 have h1:((((a * 2 ^ k:Nat):Int)) % ((2 ^ 32:Nat):Int)).toNat = a * 2 ^ k:=by omega
 have h2:(((b:Int)) % ((2 ^ 32:Nat):Int)).toNat = b:=by omega
 rw [h1,h2,e]
 omega
theorem or_u64 {k a b:Nat} (h:a * 2 ^ k + b < 2 ^ 64) (hb:b < 2 ^ k):AE.std.bin .or .u64 (b:Int) ((a * 2 ^ k:Nat):Int) = ((b + a * 2 ^ k:Nat):Int):=by
 have e:b ||| a * 2 ^ k = b + a * 2 ^ k:=by rw [Nat.or_comm,Nat.mul_comm,← Nat.two_pow_add_eq_or_of_lt hb a,Nat.add_comm]
 show IntKind.wrap .u64 (((BitVec.ofInt 64 (b:Int)) ||| (BitVec.ofInt 64 ((a * 2 ^ k:Nat):Int))).toNat:Int) = _
 rw [AE.wrap_u64,BitVec.toNat_or,BitVec.toNat_ofInt,BitVec.toNat_ofInt]
 have h1:((((a * 2 ^ k:Nat):Int)) % ((2 ^ 64:Nat):Int)).toNat = a * 2 ^ k:=by omega
 have h2:(((b:Int)) % ((2 ^ 64:Nat):Int)).toNat = b:=by omega
 rw [h1,h2,e]
 omega
theorem or_u64' {k a b:Nat} (h:a * 2 ^ k + b < 2 ^ 64) (hb:b < 2 ^ k):AE.std.bin .or .u64 ((a * 2 ^ k:Nat):Int) (b:Int) = ((b + a * 2 ^ k:Nat):Int):=by
 have e:a * 2 ^ k ||| b = b + a * 2 ^ k:=by rw [Nat.mul_comm,← Nat.two_pow_add_eq_or_of_lt hb a,Nat.add_comm]
 show IntKind.wrap .u64 (((BitVec.ofInt 64 ((a * 2 ^ k:Nat):Int)) ||| (BitVec.ofInt 64 (b:Int))).toNat:Int) = _
 rw [AE.wrap_u64,BitVec.toNat_or,BitVec.toNat_ofInt,BitVec.toNat_ofInt]
 have h1:((((a * 2 ^ k:Nat):Int)) % ((2 ^ 64:Nat):Int)).toNat = a * 2 ^ k:=by omega
 have h2:(((b:Int)) % ((2 ^ 64:Nat):Int)).toNat = b:=by omega
 rw [h1,h2,e]
 omega
theorem shl_u32 {b k:Nat} (hk:k ≤ 32) (h:b * 2 ^ k < 2 ^ 32):AE.std.bin .shl .u32 (b:Int) (k:Int) = ((b * 2 ^ k:Nat):Int):=by
 show IntKind.wrap .u32 ((b:Int) * 2 ^ min ((k:Int)).toNat 32) = _
 rw [show ((k:Int)).toNat = k from rfl,Nat.min_eq_left hk,AE.wrap_u32]
 have:(b:Int) * 2 ^ k = ((b * 2 ^ k:Nat):Int):=by rw [Int.natCast_mul,Int.natCast_pow]; rfl
 rw [this]; omega
theorem shl_u64 {b k:Nat} (hk:k ≤ 64) (h:b * 2 ^ k < 2 ^ 64):AE.std.bin .shl .u64 (b:Int) (k:Int) = ((b * 2 ^ k:Nat):Int):=by
 show IntKind.wrap .u64 ((b:Int) * 2 ^ min ((k:Int)).toNat 64) = _
 rw [show ((k:Int)).toNat = k from rfl,Nat.min_eq_left hk,AE.wrap_u64]
 have:(b:Int) * 2 ^ k = ((b * 2 ^ k:Nat):Int):=by rw [Int.natCast_mul,Int.natCast_pow]; rfl
 rw [this]; omega
theorem shr_u64 {n k:Nat} (hk:k ≤ 64):AE.std.bin .shr .u64 (n:Int) (k:Int) = ((n / 2 ^ k:Nat):Int):=by
 show Int.fdiv (n:Int) (2 ^ min ((k:Int)).toNat 64) = _
 rw [show ((k:Int)).toNat = k from rfl,Nat.min_eq_left hk,Int.fdiv_eq_ediv_of_nonneg _ (by exact Int.le_of_lt (Int.pow_pos (by decide)))]
 rw [Int.natCast_ediv,Int.natCast_pow]; rfl
theorem shr_u32 {n k:Nat} (hk:k ≤ 32):AE.std.bin .shr .u32 (n:Int) (k:Int) = ((n / 2 ^ k:Nat):Int):=by
 show Int.fdiv (n:Int) (2 ^ min ((k:Int)).toNat 32) = _
 rw [show ((k:Int)).toNat = k from rfl,Nat.min_eq_left hk,Int.fdiv_eq_ediv_of_nonneg _ (by exact Int.le_of_lt (Int.pow_pos (by decide)))]
 rw [Int.natCast_ediv,Int.natCast_pow]; rfl
theorem conv_nat {k:IntKind} (hk:k = .u8 ∨ k = .u32 ∨ k = .u64) (n:Nat):AE.std.conv k (n:Int) = ((n % 2 ^ k.bits:Nat):Int):=by
 show IntKind.wrap k (n:Int) = _
 rcases hk with rfl|rfl|rfl
 ·rw [AE.wrap_u8]; rfl
 ·rw [AE.wrap_u32]; rfl
 ·rw [AE.wrap_u64]; rfl
theorem quo_i64 {a b:Nat} (ha:a < 2 ^ 62):AE.std.bin .quo .i64 (a:Int) (b:Int) = ((a / b:Nat):Int):=by
 show IntKind.wrap .i64 (Int.tdiv (a:Int) (b:Int)) = _
 rw [Int.tdiv_eq_ediv_of_nonneg (Int.natCast_nonneg _),← Int.natCast_ediv]
 have:a / b ≤ a:=Nat.div_le_self _ _
 generalize a / b = q at *
 rw [AE.wrap_i64] <;> omega
theorem rem_i64 {a b:Nat}:AE.std.bin .rem .i64 (a:Int) (b:Int) = ((a % b:Nat):Int):=by
 show Int.tmod (a:Int) (b:Int) = _
 rw [Int.tmod_eq_emod_of_nonneg (Int.natCast_nonneg _),← Int.natCast_emod]
theorem mul_i64 {a b:Nat} (h:a * b < 2 ^ 62):AE.std.bin .mul .i64 (a:Int) (b:Int) = ((a * b:Nat):Int):=by
 show IntKind.wrap .i64 ((a:Int) * (b:Int)) = _
 rw [← Int.natCast_mul,AE.wrap_i64] <;> omega
theorem add_i64 {a b:Nat} (h:a + b < 2 ^ 62):AE.std.bin .add .i64 (a:Int) (b:Int) = ((a + b:Nat):Int):=by
 rw [AE.std_add] <;> omega
theorem sub_i64 {a b:Nat} (h0:b ≤ a) (h:a < 2 ^ 62):AE.std.bin .sub .i64 (a:Int) (b:Int) = ((a - b:Nat):Int):=by
 rw [AE.std_sub] <;> omega
theorem add_u64 {a b:Nat} (h:a + b < 2 ^ 64):AE.std.bin .add .u64 (a:Int) (b:Int) = ((a + b:Nat):Int):=by
 show IntKind.wrap .u64 ((a:Int) + (b:Int)) = _
 rw [AE.wrap_u64]; omega
theorem mul_u64 {a b:Nat} (h:a * b < 2 ^ 64):AE.std.bin .mul .u64 (a:Int) (b:Int) = ((a * b:Nat):Int):=by
 show IntKind.wrap .u64 ((a:Int) * (b:Int)) = _
 rw [AE.wrap_u64,← Int.natCast_mul]; omega
theorem quo_u64 {a b:Nat} (ha:a < 2 ^ 64):AE.std.bin .quo .u64 (a:Int) (b:Int) = ((a / b:Nat):Int):=by
 show IntKind.wrap .u64 (Int.tdiv (a:Int) (b:Int)) = _
 rw [Int.tdiv_eq_ediv_of_nonneg (Int.natCast_nonneg _),← Int.natCast_ediv]
 have:a / b ≤ a:=Nat.div_le_self _ _
 generalize a / b = q at *
 rw [AE.wrap_u64]; omega
theorem rem_u64 {a b:Nat}:AE.std.bin .rem .u64 (a:Int) (b:Int) = ((a % b:Nat):Int):=by
 show Int.tmod (a:Int) (b:Int) = _
 rw [Int.tmod_eq_emod_of_nonneg (Int.natCast_nonneg _),← Int.natCast_emod]
theorem dg_byte {s:Nat} (hs:0 < s) {x m i:Nat} (hi:i < s * m) :
  let c:=(x % 256 ^ i) / (256 ^ s) ^ (i / s) % 256 ^ s
  let b:=x / 256 ^ i % 256
  (dg (256 ^ s) m (x % 256 ^ i))[i / s]? = some c ∧ c < 256 ^ (i % s) ∧ c + b * 256 ^ (i % s) < 256 ^ (i % s + 1) ∧ (dg (256 ^ s) m (x % 256 ^ i)).set (i / s) (c + b * 256 ^ (i % s)) = dg (256 ^ s) m (x % 256 ^ (i + 1)):=by
 intro c b
 have him:i / s < m:=by rw [Nat.div_lt_iff_lt_mul hs,Nat.mul_comm]; exact hi
 have hrs:i % s < s:=Nat.mod_lt _ hs
 have hpow:256 ^ i = (256 ^ s) ^ (i / s) * 256 ^ (i % s):=by
  rw [← Nat.pow_mul,← Nat.pow_add,Nat.div_add_mod]
 have hB:0 < 256 ^ s:=Nat.pow_pos (by decide)
 have hP:0 < (256 ^ s) ^ (i / s):=Nat.pow_pos hB
 have hy:x % 256 ^ i < 256 ^ i:=Nat.mod_lt _ (Nat.pow_pos (by decide))
 have hc0:(x % 256 ^ i) / (256 ^ s) ^ (i / s) < 256 ^ (i % s):=by
  rw [Nat.div_lt_iff_lt_mul hP,Nat.mul_comm,← hpow]; exact hy
 have hle:256 ^ (i % s) ≤ 256 ^ s:=Nat.pow_le_pow_right (by decide) (by omega)
 have hc:c = (x % 256 ^ i) / (256 ^ s) ^ (i / s):=Nat.mod_eq_of_lt (by omega)
 have hb:b < 256:=Nat.mod_lt _ (by decide)
 have hcl:c < 256 ^ (i % s):=by rw [hc]; exact hc0
 have hd:c + b * 256 ^ (i % s) < 256 ^ (i % s + 1):=by
  have:b * 256 ^ (i % s) ≤ 255 * 256 ^ (i % s):=Nat.mul_le_mul_right _ (by omega)
  rw [Nat.pow_succ]; omega
 have hd2:256 ^ (i % s + 1) ≤ 256 ^ s:=Nat.pow_le_pow_right (by decide) (by omega)
 have hxy:x % 256 ^ i = 0 * (256 ^ s) ^ (i / s + 1) + c * (256 ^ s) ^ (i / s) + (x % 256 ^ i) % (256 ^ s) ^ (i / s):=by
  rw [hc,Nat.zero_mul,Nat.zero_add,Nat.mul_comm _ ((256 ^ s) ^ (i / s))]
  exact (Nat.div_add_mod _ _).symm
 have hxn:x % 256 ^ (i + 1) = 0 * (256 ^ s) ^ (i / s + 1) + (c + b * 256 ^ (i % s)) * (256 ^ s) ^ (i / s) + (x % 256 ^ i) % (256 ^ s) ^ (i / s):=by
  rw [Nat.mod_pow_succ]
  conv=>lhs; lhs; rw [hxy]
  rw [Nat.add_mul,hpow]
  have:b * 256 ^ (i % s) * (256 ^ s) ^ (i / s) = (256 ^ s) ^ (i / s) * 256 ^ (i % s) * b:=by
   rw [Nat.mul_comm b,Nat.mul_assoc,Nat.mul_comm b,← Nat.mul_assoc,Nat.mul_comm (256 ^ (i % s))]
  have hbe:(x / ((256 ^ s) ^ (i / s) * 256 ^ (i % s)) % 256) = b:=by show _ = x / 256 ^ i % 256; rw [hpow]
  rw [hbe]
  omega
 refine ⟨dg_get him,hcl,hd,?_⟩
 have:=dg_set (B:=256 ^ s) (m:=m) (i:=i / s) (c:=c) (d:=c + b * 256 ^ (i % s)) (lo:=(x % 256 ^ i) % (256 ^ s) ^ (i / s)) (hi:=0) hB (by omega) (by omega) (Nat.mod_lt _ hP) him
 rw [← hxy,← hxn] at this
 exact this
theorem dg_zero {B:Nat}:∀ m:Nat,dg B m 0 = List.replicate m 0
 | 0=>rfl
 | m + 1=>by rw [dg,Nat.zero_mod,Nat.zero_div,dg_zero m,List.replicate_succ]
theorem val_digit:∀ (l:List UInt8) (i:Nat) (b:UInt8),i < l.length → l[l.length - 1 - i]? = some b → val l / 256 ^ i % 256 = b.toNat:=by
 intro l i b hi hb
 have hsp:l = l.take (l.length - 1 - i) ++ b :: l.drop (l.length - i):=by
  have h1:=List.take_append_drop (l.length - 1 - i) l
  have h2:l.drop (l.length - 1 - i) = b :: l.drop (l.length - i):=by
   rw [List.drop_eq_getElem_cons (by omega)]
   have h3:l[l.length - 1 - i]'(by omega) = b:=by
    rw [List.getElem?_eq_getElem (by omega)] at hb; exact Option.some.inj hb
   rw [h3]
   congr 2; omega
  rw [h2] at h1; exact h1.symm
 have hdl:(l.drop (l.length - i)).length = i:=by rw [List.length_drop]; omega
 have hd:=val_lt (l.drop (l.length - i))
 rw [hdl] at hd
 conv=>lhs; rw [hsp]
 rw [val_app,val_cons,hdl,List.length_cons,hdl,Nat.pow_succ]
 have hb2:b.toNat < 256:=b.toNat_lt
 have e:val (l.take (l.length - 1 - i)) * (256 ^ i * 256) + (b.toNat * 256 ^ i + val (l.drop (l.length - i))) = (val (l.take (l.length - 1 - i)) * 256 + b.toNat) * 256 ^ i + val (l.drop (l.length - i)):=by
  rw [Nat.add_mul,Nat.mul_assoc,Nat.mul_comm 256 (256 ^ i)]; omega
 rw [e,Nat.add_comm,Nat.add_mul_div_right _ _ (Nat.pow_pos (by decide)),Nat.div_eq_of_lt hd,Nat.zero_add]
 omega
section
variable {A:AE.Ari} (hA:A = AE.std) {a b:Nat} {x y:Int} (hx:x = (a:Int)) (hy:y = (b:Int))
include hA hx hy
theorem addI (h:a + b < 2 ^ 62):A.bin .add .i64 x y = ((a + b:Nat):Int):=by subst hA; subst hx; subst hy; exact add_i64 h
theorem subI (h0:b ≤ a) (h:a < 2 ^ 62):A.bin .sub .i64 x y = ((a - b:Nat):Int):=by subst hA; subst hx; subst hy; exact sub_i64 h0 h
theorem mulI (h:a * b < 2 ^ 62):A.bin .mul .i64 x y = ((a * b:Nat):Int):=by subst hA; subst hx; subst hy; exact mul_i64 h
theorem quoI (h:a < 2 ^ 62):A.bin .quo .i64 x y = ((a / b:Nat):Int):=by subst hA; subst hx; subst hy; exact quo_i64 h
theorem remI:A.bin .rem .i64 x y = ((a % b:Nat):Int):=by subst hA; subst hx; subst hy; exact rem_i64
theorem addU (h:a + b < 2 ^ 64):A.bin .add .u64 x y = ((a + b:Nat):Int):=by subst hA; subst hx; subst hy; exact add_u64 h
theorem mulU (h:a * b < 2 ^ 64):A.bin .mul .u64 x y = ((a * b:Nat):Int):=by subst hA; subst hx; subst hy; exact mul_u64 h
theorem quoU (h:a < 2 ^ 64):A.bin .quo .u64 x y = ((a / b:Nat):Int):=by subst hA; subst hx; subst hy; exact quo_u64 h
theorem remU:A.bin .rem .u64 x y = ((a % b:Nat):Int):=by subst hA; subst hx; subst hy; exact rem_u64
theorem shrU (h:b ≤ 64):A.bin .shr .u64 x y = ((a / 2 ^ b:Nat):Int):=by subst hA; subst hx; subst hy; exact shr_u64 h
theorem shlU (h:b ≤ 64) (h2:a * 2 ^ b < 2 ^ 64):A.bin .shl .u64 x y = ((a * 2 ^ b:Nat):Int):=by subst hA; subst hx; subst hy; exact shl_u64 h h2
theorem shrW (h:b ≤ 32):A.bin .shr .u32 x y = ((a / 2 ^ b:Nat):Int):=by subst hA; subst hx; subst hy; exact shr_u32 h
theorem subU:A.bin .sub .u64 x y = (((a:Int) - (b:Int)) % 2 ^ 64):=by
 subst hA; subst hx; subst hy
 show IntKind.wrap .u64 _ = _
 rw [AE.wrap_u64]; rfl
theorem ltI:A.cmp .lss x y = decide (a < b):=by
 rw [AE.c_lss hA,hx,hy]; simp
theorem leI:A.cmp .leq x y = decide (a ≤ b):=by
 rw [AE.c_leq hA,hx,hy]; simp
theorem gtI:A.cmp .gtr x y = decide (b < a):=by
 rw [AE.c_gtr hA,hx,hy]; simp
theorem geI:A.cmp .geq x y = decide (b ≤ a):=by
 rw [AE.c_geq hA,hx,hy]; simp
theorem eqI:A.cmp .eql x y = decide (a = b):=by
 rw [AE.c_eql hA,hx,hy]; simp only [Int.ofNat_inj]
theorem neI:A.cmp .neq x y = !decide (a = b):=by
 rw [AE.c_neq hA,hx,hy]; simp only [Int.ofNat_inj]
theorem ltT (h:a < b):A.cmp .lss x y = true:=(ltI hA hx hy).trans (decide_eq_true h)
theorem ltF (h:¬ a < b):A.cmp .lss x y = false:=(ltI hA hx hy).trans (decide_eq_false h)
theorem leT (h:a ≤ b):A.cmp .leq x y = true:=(leI hA hx hy).trans (decide_eq_true h)
theorem leF (h:¬ a ≤ b):A.cmp .leq x y = false:=(leI hA hx hy).trans (decide_eq_false h)
theorem gtT (h:b < a):A.cmp .gtr x y = true:=(gtI hA hx hy).trans (decide_eq_true h)
theorem gtF (h:¬ b < a):A.cmp .gtr x y = false:=(gtI hA hx hy).trans (decide_eq_false h)
theorem geT (h:b ≤ a):A.cmp .geq x y = true:=(geI hA hx hy).trans (decide_eq_true h)
theorem geF (h:¬ b ≤ a):A.cmp .geq x y = false:=(geI hA hx hy).trans (decide_eq_false h)
theorem eqT (h:a = b):A.cmp .eql x y = true:=(eqI hA hx hy).trans (decide_eq_true h)
theorem eqF (h:¬ a = b):A.cmp .eql x y = false:=(eqI hA hx hy).trans (decide_eq_false h)
theorem neT (h:a ≠ b):A.cmp .neq x y = true:=(neI hA hx hy).trans (by simpa using h)
theorem neF (h:a = b):A.cmp .neq x y = false:=(neI hA hx hy).trans (by simpa using h)
end
section
variable {A:AE.Ari} (hA:A = AE.std) {a:Nat} {x:Int} (hx:x = (a:Int))
include hA hx
theorem cv64 (h:a < 2 ^ 64):A.conv .u64 x = (a:Int):=by
 subst hA; subst hx; rw [conv_nat (.inr (.inr rfl))]; exact congrArg Int.ofNat (Nat.mod_eq_of_lt h)
theorem cv32:A.conv .u32 x = ((a % 2 ^ 32:Nat):Int):=by subst hA; subst hx; exact conv_nat (.inr (.inl rfl)) a
theorem cv8:A.conv .u8 x = ((a % 2 ^ 8:Nat):Int):=by subst hA; subst hx; exact conv_nat (.inl rfl) a
end
theorem wv_snoc (B:Nat):∀ (l:List Nat) (d:Nat),wv B (l ++ [d]) = wv B l + d * B ^ l.length
 | [],d=>by simp [wv]
 | x :: l,d=>by
  rw [List.cons_append,wv,wv,wv_snoc B l d,List.length_cons,Nat.pow_succ,Nat.mul_add,← Nat.mul_assoc,Nat.mul_comm B d,Nat.mul_assoc d B,Nat.mul_comm B (B ^ l.length)]
  omega
theorem be_app:∀ (p q hi lo:Nat),lo < 256 ^ q → be (p + q) (hi * 256 ^ q + lo) = be p hi ++ be q lo
 | p,0,hi,lo,h=>by
  have:lo = 0:=by simpa using h
  subst this; simp [be_zero]
 | p,q + 1,hi,lo,h=>by
  have h1:(hi * 256 ^ (q + 1) + lo) / 256 = hi * 256 ^ q + lo / 256:=by
   rw [Nat.pow_succ,← Nat.mul_assoc,Nat.add_comm,Nat.add_mul_div_right _ _ (by decide)]; omega
  have h2:(hi * 256 ^ (q + 1) + lo) % 256 = lo % 256:=by
   rw [Nat.pow_succ,← Nat.mul_assoc,Nat.add_comm,Nat.add_mul_mod_self_right]
  rw [← Nat.add_assoc,be_succ,be_succ,h1,h2,be_app p q hi (lo / 256) (by rw [Nat.div_lt_iff_lt_mul (by decide),← Nat.pow_succ]; exact h),List.append_assoc]
theorem be4 (n:Nat):be 4 n = [UInt8.ofNat (n / 2 ^ 24 % 256),UInt8.ofNat (n / 2 ^ 16 % 256),UInt8.ofNat (n / 2 ^ 8 % 256),UInt8.ofNat (n % 256)]:=by
 simp only [be_succ,be_zero,List.nil_append,List.cons_append,Nat.div_div_eq_div_mul,Nat.reduceMul,Nat.reducePow]
theorem set4 {α : Type} (k:Nat) (z a b c d:α) (l:List α):((((List.replicate (k + 4) z ++ l).set k a).set (k + 1) b).set (k + 2) c).set (k + 3) d = List.replicate k z ++ ([a,b,c,d] ++ l):=by
 rw [show List.replicate (k + 4) z = List.replicate k z ++ [z,z,z,z] by rw [← List.replicate_append_replicate]; rfl]
 simp [List.append_assoc]
theorem dg_put {B m i d o:Nat} (hB:0 < B) (hd:d < B) (ho:o < B ^ i) (him:i < m):(dg B m o).set i d = dg B m (o + d * B ^ i):=by
 have:=dg_set (B:=B) (m:=m) (i:=i) (c:=0) (d:=d) (lo:=o) (hi:=0) hB hB hd ho him
 rw [Nat.zero_mul,Nat.zero_add,Nat.zero_mul,Nat.zero_add,Nat.zero_add] at this
 rw [this,Nat.add_comm]
theorem mod_succ (x B i:Nat):x % B ^ (i + 1) = x % B ^ i + x / B ^ i % B * B ^ i:=by
 rw [Nat.mod_pow_succ,Nat.mul_comm]
theorem split_pow {B i s:Nat} (hB:0 < B) {o c e:Nat} (hs:s = o + c * B ^ i) (ho:o < B ^ i):(s + e * B ^ i) % B ^ (i + 1) = o + (c + e) % B * B ^ i ∧ (s + e * B ^ i) / B ^ (i + 1) = (c + e) / B:=by
 have hP:0 < B ^ i:=Nat.pow_pos hB
 have e1:s + e * B ^ i = o + (c + e) * B ^ i:=by rw [hs,Nat.add_mul]; omega
 have h1:=Nat.div_add_mod (c + e) B
 have e2:s + e * B ^ i = (o + (c + e) % B * B ^ i) + (c + e) / B * B ^ (i + 1):=by
  rw [e1]
  conv=>lhs; rw [← h1]
  rw [Nat.pow_succ,Nat.add_mul,Nat.mul_comm B,Nat.mul_assoc,Nat.mul_comm B (B ^ i)]
  omega
 have h3:o + (c + e) % B * B ^ i < B ^ (i + 1):=by
  have hm:(c + e) % B + 1 ≤ B:=Nat.mod_lt _ hB
  have:=Nat.mul_le_mul_right (B ^ i) hm
  rw [Nat.add_mul,Nat.one_mul] at this
  rw [Nat.pow_succ,Nat.mul_comm (B ^ i) B]; omega
 rw [e2]
 exact ⟨by rw [Nat.add_mul_mod_self_right,Nat.mod_eq_of_lt h3],by rw [Nat.add_mul_div_right _ _ (Nat.pow_pos hB),Nat.div_eq_of_lt h3,Nat.zero_add]⟩
theorem digit_zero {x B i k:Nat} (hB:0 < B) (h:x < B ^ k) (hk:k ≤ i):x / B ^ i % B = 0:=by
 have:x < B ^ i:=Nat.lt_of_lt_of_le h (Nat.pow_le_pow_right hB hk)
 rw [Nat.div_eq_of_lt this,Nat.zero_mod]
theorem dg_all {B m v:Nat} (hB:0 < B):∀ d ∈ dg B m v,d < B:=fun d hd=>by
 obtain ⟨i,hi,rfl⟩:=List.getElem_of_mem hd
 have h2:=dg_get (B:=B) (x:=v) (i:=i) (by rw [dg_len] at hi; exact hi)
 rw [List.getElem?_eq_getElem hi] at h2
 rw [Option.some.inj h2]
 exact Nat.mod_lt _ hB
end Go.Num
end
section
set_option linter.unusedVariables false
namespace Go.Num
theorem sub_u64 (x y:Int):AE.std.bin .sub .u64 x y = (x - y) % 18446744073709551616:=by
 show IntKind.wrap .u64 _ = _
 rw [AE.wrap_u64]
theorem sub3 {A:AE.Ari} (hA:A = AE.std) {u p q:Nat} {x y z:Int} (hx:x = (u:Int)) (hy:y = (p:Int)) (hz:z = (q:Int)) (hu:u < 4294967296) (hp:p + q ≤ 4294967296) :
  A.conv .u32 (A.bin .sub .u64 (A.bin .sub .u64 x y) z) = ((u + (if u < p + q then 1 else 0) * 4294967296 - p - q:Nat):Int) ∧ A.bin .shr .u64 (A.bin .sub .u64 (A.bin .sub .u64 x y) z) 63 = (((if u < p + q then 1 else 0:Nat)):Int):=by
 subst hA hx hy hz
 rw [sub_u64,sub_u64]
 obtain ⟨N,hN⟩:∃ N:Nat,((((u:Int) - p) % 18446744073709551616 - q) % 18446744073709551616) = (N:Int):=⟨((((u:Int) - p) % 18446744073709551616 - q) % 18446744073709551616).toNat,by omega⟩
 have hc:AE.std.conv .u32 (N:Int) = ((N % 2 ^ 32:Nat):Int):=conv_nat (.inr (.inl rfl)) N
 have hs:AE.std.bin .shr .u64 (N:Int) 63 = ((N / 2 ^ 63:Nat):Int):=shr_u64 (k:=63) (by decide)
 rw [hN,hc,hs]
 by_cases h:u < p + q
 ·rw [if_pos h]; constructor <;> omega
 ·rw [if_neg h]; constructor <;> omega
theorem sub2 {A:AE.Ari} (hA:A = AE.std) {u p:Nat} {x y:Int} (hx:x = (u:Int)) (hy:y = (p:Int)) (hu:u < 4294967296) (hp:p ≤ 4294967296) :
  A.conv .u32 (A.bin .sub .u64 x y) = ((u + (if u < p then 1 else 0) * 4294967296 - p:Nat):Int) ∧ A.bin .shr .u64 (A.bin .sub .u64 x y) 63 = (((if u < p then 1 else 0:Nat)):Int):=by
 have h:=sub3 hA hx hy (z:=0) (q:=0) rfl hu (by omega)
 have e:A.bin .sub .u64 (A.bin .sub .u64 x y) 0 = A.bin .sub .u64 x y:=by
  subst hA; rw [sub_u64,sub_u64]; omega
 rw [e] at h
 simpa using h
theorem borrow_step {P a b dx dy beta lo:Nat} (hP:0 < P) (hlo:lo + b = a + beta * P) (hlt:lo < P) (W:Nat) (hdx:dx < W) (hb1:beta ≤ 1) (hdy:dy < W) :
  let beta' := if dx < beta + dy then 1 else 0
  let d:=dx + beta' * W - beta - dy
  (lo + d * P) + (b + dy * P) = (a + dx * P) + beta' * (P * W) ∧ lo + d * P < P * W ∧ d < W:=by
 intro beta' d
 have hd:d + beta + dy = dx + beta' * W:=by
  show dx + beta' * W - beta - dy + beta + dy = _
  have:beta + dy ≤ dx + beta' * W:=by
   by_cases h:dx < beta + dy
   ·have:beta' = 1:=if_pos h
    rw [this]; omega
   ·omega
  omega
 have hdW:d < W:=by
  by_cases h:dx < beta + dy
  ·have:beta' = 1:=if_pos h
   rw [this] at hd; omega
  ·have:beta' = 0:=if_neg h
   rw [this] at hd; omega
 refine ⟨?_,?_,hdW⟩
 ·have h1:(d + beta + dy) * P = (dx + beta' * W) * P:=by rw [hd]
  simp only [Nat.add_mul] at h1
  have h2:beta' * W * P = beta' * (P * W):=by rw [Nat.mul_assoc,Nat.mul_comm W]
  omega
 ·have h1:(d + 1) * P ≤ W * P:=Nat.mul_le_mul_right _ hdW
  rw [Nat.add_mul,Nat.one_mul,Nat.mul_comm W] at h1
  omega
def upd (B p R d:Nat):Nat:=R / B ^ (p + 1) * B ^ (p + 1) + d * B ^ p + R % B ^ p
theorem upd_split {B:Nat} (p R:Nat):R = R / B ^ (p + 1) * B ^ (p + 1) + R / B ^ p % B * B ^ p + R % B ^ p:=by
 have h1:=Nat.div_add_mod R (B ^ p)
 have h2:=Nat.div_add_mod (R / B ^ p) B
 rw [Nat.div_div_eq_div_mul,← Nat.pow_succ] at h2
 conv=>lhs; rw [← h1,← h2]
 rw [Nat.mul_add,Nat.pow_succ,Nat.mul_comm (B ^ p) (B * _),Nat.mul_comm B,Nat.mul_assoc,Nat.mul_comm B (B ^ p),Nat.mul_comm (B ^ p) (R / B ^ p % B)]
theorem upd_eq (B p R d:Nat):upd B p R d + R / B ^ p % B * B ^ p = R + d * B ^ p:=by
 have:=upd_split (B:=B) p R
 unfold upd; omega
theorem upd_lt {B p R d q:Nat} (hB:0 < B) (hp:p < q) (hR:R < B ^ q) (hd:d < B):upd B p R d < B ^ q:=by
 have hP:0 < B ^ p:=Nat.pow_pos hB
 obtain ⟨e,rfl⟩:∃ e,q = p + 1 + e:=⟨q - (p + 1),by omega⟩
 have h1:R / B ^ (p + 1) < B ^ e:=by rw [Nat.div_lt_iff_lt_mul (Nat.pow_pos hB),Nat.mul_comm,← Nat.pow_add]; exact hR
 have h2:(R / B ^ (p + 1) + 1) * B ^ (p + 1) ≤ B ^ e * B ^ (p + 1):=Nat.mul_le_mul_right _ h1
 have h3:(d + 1) * B ^ p ≤ B * B ^ p:=Nat.mul_le_mul_right _ hd
 have h4:=Nat.mod_lt R hP
 rw [Nat.add_mul,Nat.one_mul] at h2 h3
 have h5:B ^ (p + 1) = B * B ^ p:=by rw [Nat.pow_succ,Nat.mul_comm]
 rw [Nat.pow_add,Nat.mul_comm (B ^ (p + 1))]
 unfold upd; omega
theorem dg_upd {B m p R d:Nat} (hB:0 < B) (hd:d < B) (hp:p < m):(dg B m R).set p d = dg B m (upd B p R d):=by
 have h:=dg_set (B:=B) (m:=m) (i:=p) (c:=R / B ^ p % B) (d:=d) (lo:=R % B ^ p) (hi:=R / B ^ (p + 1)) hB (Nat.mod_lt _ hB) hd (Nat.mod_lt _ (Nat.pow_pos hB)) hp
 rw [← upd_split] at h
 exact h
theorem mul_step {B R c w v T:Nat} (hB:0 < B) (p:Nat) (hT:R + c * B ^ p = T):upd B p R ((c + w * v + R / B ^ p % B) % B) + (c + w * v + R / B ^ p % B) / B * B ^ (p + 1) = T + w * v * B ^ p:=by
 have h1:=upd_eq B p R ((c + w * v + R / B ^ p % B) % B)
 have h2:=Nat.div_add_mod (c + w * v + R / B ^ p % B) B
 have h3:(B * ((c + w * v + R / B ^ p % B) / B) + (c + w * v + R / B ^ p % B) % B) * B ^ p = (c + w * v + R / B ^ p % B) * B ^ p:=by rw [h2]
 rw [Nat.add_mul,Nat.add_mul,Nat.add_mul] at h3
 have h4:(c + w * v + R / B ^ p % B) / B * B ^ (p + 1) = B * ((c + w * v + R / B ^ p % B) / B) * B ^ p:=by
  rw [Nat.pow_succ,Nat.mul_comm (B ^ p) B,← Nat.mul_assoc,Nat.mul_comm _ B]
 omega
theorem mul_bound {B c w v d:Nat} (hB:0 < B) (hc:c < B) (hw:w < B) (hv:v < B) (hd:d < B):c + w * v + d < B * B:=by
 obtain ⟨b,rfl⟩:∃ b,B = b + 1:=⟨B - 1,by omega⟩
 have h1:w * v ≤ b * b:=Nat.mul_le_mul (by omega) (by omega)
 have h2:(b + 1) * (b + 1) = b * b + 2 * b + 1:=by rw [Nat.add_mul,Nat.mul_add]; omega
 omega
end Go.Num
end
section
set_option linter.unusedVariables false
namespace Go.Num
theorem left_step {B i s n O v d : Nat} (hB : 0 < B) (hs : ∃ E, B = E * 2 ^ s) (hO : O < B ^ i * 2 ^ s) (hv : v = d * 2 ^ s) (hvB : v < B * B) (hi : i < n) :
    O / B ^ i % B + v % B < B ∧ ((dg B (n + 1) O).set i (O / B ^ i % B + v % B)).set (i + 1) (v / B) = dg B (n + 1) (O + v * B ^ i) := by
  have hP : 0 < B ^ i := Nat.pow_pos hB
  obtain ⟨E, hE⟩ := hs
  have hE0 : 0 < E := by rcases Nat.eq_zero_or_pos E with h | h; · rw [h, Nat.zero_mul] at hE; omega
                         · exact h
  have hc : O / B ^ i < 2 ^ s := by rw [Nat.div_lt_iff_lt_mul hP, Nat.mul_comm]; exact hO
  have hsB : 2 ^ s ≤ B := by rw [hE]; exact Nat.le_mul_of_pos_left _ hE0
  have hcm : O / B ^ i % B = O / B ^ i := Nat.mod_eq_of_lt (by omega)
  have hvm : v % B = d % E * 2 ^ s := by rw [hv, hE, Nat.mul_mod_mul_right]
  have hlt : O / B ^ i + v % B < B := by
    have h1 : d % E + 1 ≤ E := Nat.mod_lt _ hE0
    have h2 := Nat.mul_le_mul_right (2 ^ s) h1
    rw [Nat.add_mul, Nat.one_mul, ← hE] at h2
    rw [hvm]; omega
  rw [hcm]
  refine ⟨hlt, ?_⟩
  rw [dg_upd hB hlt (by omega)]
  have h1 := upd_eq B i O (O / B ^ i + v % B)
  rw [hcm, Nat.add_mul] at h1
  have h2 : upd B i O (O / B ^ i + v % B) = O + v % B * B ^ i := by omega
  have h3 : O + v % B * B ^ i < B ^ (i + 1) := by
    have h4 := Nat.div_add_mod O (B ^ i)
    have h5 := Nat.mod_lt O hP
    have h6 := Nat.mul_le_mul_right (B ^ i) (show O / B ^ i + v % B + 1 ≤ B from hlt)
    rw [Nat.add_mul, Nat.add_mul, Nat.one_mul, Nat.mul_comm (O / B ^ i)] at h6
    rw [Nat.pow_succ, Nat.mul_comm (B ^ i) B]; omega
  have h7 : v / B < B := by rw [Nat.div_lt_iff_lt_mul hB]; exact hvB
  rw [h2, dg_put hB h7 h3 (by omega)]
  congr 1
  have h8 := Nat.div_add_mod v B
  conv => rhs; rw [← h8]
  rw [Nat.add_mul, Nat.pow_succ, Nat.mul_comm (B ^ i) B, ← Nat.mul_assoc, Nat.mul_comm (v / B) B]; omega
theorem away_step {B p R S T c w v b b' d0 d:Nat} (hB:0 < B) (hd0:d0 = R / B ^ p % B) (hd:d + (c + w * v) % B + b = d0 + b' * B) (hS:R + S = (b + c) * B ^ p + T) :
  upd B p R d + (S + w * v * B ^ p) = (b' + (c + w * v) / B) * B ^ (p + 1) + T:=by
 have h1:=upd_eq B p R d
 rw [← hd0] at h1
 have h2:=Nat.div_add_mod (c + w * v) B
 generalize (c + w * v) % B = low at *
 generalize (c + w * v) / B = hi at *
 have h3:(B * hi + low) * B ^ p = (c + w * v) * B ^ p:=by rw [h2]
 have h4:(d + low + b) * B ^ p = (d0 + b' * B) * B ^ p:=by rw [hd]
 rw [Nat.add_mul,Nat.add_mul] at h3 h4
 rw [Nat.add_mul] at h4 hS
 have h5:(b' + hi) * B ^ (p + 1) = b' * B * B ^ p + B * hi * B ^ p:=by
  rw [Nat.add_mul,Nat.pow_succ,Nat.mul_comm (B ^ p) B,← Nat.mul_assoc,← Nat.mul_assoc,Nat.mul_comm hi B]
 rw [h5]; omega
theorem away_last {B p R S c b b' d0 d T:Nat} (hB:0 < B) (hd0:d0 = R / B ^ p % B) (hd:d + c + b = d0 + b' * B) (hS:R + S = (b + c) * B ^ p + T) :
  upd B p R d + S = b' * B ^ (p + 1) + T:=by
 have h1:=upd_eq B p R d
 rw [← hd0] at h1
 have h4:(d + c + b) * B ^ p = (d0 + b' * B) * B ^ p:=by rw [hd]
 rw [Nat.add_mul,Nat.add_mul,Nat.add_mul] at h4
 rw [Nat.add_mul] at hS
 have h5:b' * B ^ (p + 1) = b' * B * B ^ p:=by rw [Nat.pow_succ,Nat.mul_comm (B ^ p) B,← Nat.mul_assoc]
 omega
theorem back_step {B p R S c v d0:Nat} (hd0:d0 = R / B ^ p % B) (hS:R + c * B ^ p = S) :
  upd B p R ((c + (d0 + v)) % B) + (c + (d0 + v)) / B * B ^ (p + 1) = S + v * B ^ p:=by
 have h1:=upd_eq B p R ((c + (d0 + v)) % B)
 rw [← hd0] at h1
 have h2:=Nat.div_add_mod (c + (d0 + v)) B
 generalize (c + (d0 + v)) % B = low at *
 generalize (c + (d0 + v)) / B = hi at *
 have h3:(B * hi + low) * B ^ p = (c + (d0 + v)) * B ^ p:=by rw [h2]
 rw [Nat.add_mul,Nat.add_mul,Nat.add_mul] at h3
 have h5:hi * B ^ (p + 1) = B * hi * B ^ p:=by rw [Nat.pow_succ,Nat.mul_comm (B ^ p) B,← Nat.mul_assoc,Nat.mul_comm hi B]
 omega
theorem back_last {B p R c d0:Nat} (hB:0 < B) (hR:R < B ^ (p + 1)) (hd0:d0 = R / B ^ p % B):upd B p R ((d0 + c) % B) = (R + c * B ^ p) % B ^ (p + 1):=by
 have hP:0 < B ^ p:=Nat.pow_pos hB
 have h1:=upd_eq B p R ((d0 + c) % B)
 rw [← hd0] at h1
 have h2:=Nat.div_add_mod (d0 + c) B
 have hlt:upd B p R ((d0 + c) % B) < B ^ (p + 1):=upd_lt hB (by omega) hR (Nat.mod_lt _ hB)
 generalize (d0 + c) % B = low at *
 generalize (d0 + c) / B = hi at *
 have h3:(B * hi + low) * B ^ p = (d0 + c) * B ^ p:=by rw [h2]
 rw [Nat.add_mul,Nat.add_mul] at h3
 have h5:hi * B ^ (p + 1) = B * hi * B ^ p:=by rw [Nat.pow_succ,Nat.mul_comm (B ^ p) B,← Nat.mul_assoc,Nat.mul_comm hi B]
 have h6:R + c * B ^ p = upd B p R low + hi * B ^ (p + 1):=by omega
 rw [h6,Nat.add_mul_mod_self_right,Nat.mod_eq_of_lt hlt]
end Go.Num
end
