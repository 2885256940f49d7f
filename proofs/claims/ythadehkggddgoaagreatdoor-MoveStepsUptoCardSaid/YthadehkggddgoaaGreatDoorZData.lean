/- Natural numbers as strings of bytes (most significant first) and as rows of digits (least significant first): plain laws, no program in sight. Long division, a digit at a time: the trial digit is right or one too great. Plain laws. Plain laws: rational numbers, their sign, numerator and denominator as texts. The program's data: numbers, points, frames, arms, works, states; as cells of memory. -/
import Derived.Test.YthadehkggddgoaaGreatDoorAE14
section
section
set_option linter.unusedVariables false
set_option linter.unusedSimpArgs false
namespace Go.Num
def val (l:List UInt8):Nat:=l.foldl (fun n b=>n * 256 + b.toNat) 0
theorem foldl_val:∀ (l:List UInt8) (n:Nat),l.foldl (fun n b=>n * 256 + b.toNat) n = n * 256 ^ l.length + val l
 | [],n=>by simp [val]
 | b :: l,n=>by
  rw [val,List.foldl_cons,List.foldl_cons,foldl_val l,foldl_val l (0 * 256 + b.toNat),List.length_cons,Nat.pow_succ]
  simp only [Nat.zero_mul,Nat.zero_add,Nat.add_mul]
  rw [Nat.mul_comm (256 ^ l.length) 256,← Nat.mul_assoc]; omega
theorem val_app (a b:List UInt8):val (a ++ b) = val a * 256 ^ b.length + val b:=by
 rw [val,List.foldl_append,foldl_val]; rfl
@[simp] theorem val_nil:val [] = 0:=rfl
theorem val_one (b:UInt8):val [b] = b.toNat:=by simp [val]
theorem val_cons (b:UInt8) (l:List UInt8):val (b :: l) = b.toNat * 256 ^ l.length + val l:=by
 have:=val_app [b] l
 rw [val_one] at this; exact this
theorem val_snoc (l:List UInt8) (b:UInt8):val (l ++ [b]) = val l * 256 + b.toNat:=by rw [val_app,val_one]; simp
theorem val_lt:∀ l:List UInt8,val l < 256 ^ l.length
 | []=>by simp
 | b :: l=>by
  have h:=val_lt l
  have hb:b.toNat < 256:=b.toNat_lt
  rw [val_cons,List.length_cons,Nat.pow_succ]
  have:b.toNat * 256 ^ l.length ≤ 255 * 256 ^ l.length:=Nat.mul_le_mul_right _ (by omega)
  omega
def encL (n:Nat):List UInt8:=if h:n = 0 then [] else encL (n / 256) ++ [UInt8.ofNat (n % 256)]
termination_by n
decreasing_by omega
theorem encL_zero:encL 0 = []:=by unfold encL; simp
theorem encL_pos {n:Nat} (h:n ≠ 0):encL n = encL (n / 256) ++ [UInt8.ofNat (n % 256)]:=by
 conv=>lhs; unfold encL
 rw [dif_neg h]
theorem val_encL (n:Nat):val (encL n) = n:=by
 induction n using Nat.strongRecOn with
 | _ n ih =>
  by_cases h:n = 0
  ·rw [h,encL_zero]; rfl
  ·rw [encL_pos h,val_snoc,ih (n / 256) (by omega)]
   simp; omega
def trimL (l:List UInt8):List UInt8:=l.dropWhile (· == 0)
theorem trimL_cons (b:UInt8) (l:List UInt8):trimL (b :: l) = if b = 0 then trimL l else b :: l:=by
 unfold trimL
 rw [List.dropWhile_cons]
 by_cases h:b = 0 <;> simp [h]
theorem val_trimL:∀ l:List UInt8,val (trimL l) = val l
 | []=>rfl
 | b :: l=>by
  rw [trimL_cons]
  split
  ·rename_i h; rw [val_trimL l,val_cons,h]; simp
  ·rfl
theorem encL_head:∀ (n:Nat),(encL n).head? ≠ some 0:=by
 intro n
 induction n using Nat.strongRecOn with
 | _ n ih =>
  by_cases h:n = 0
  ·rw [h,encL_zero]; simp
  ·rw [encL_pos h]
   by_cases h2:n / 256 = 0
   ·rw [h2,encL_zero]
    simp only [List.nil_append,List.head?_cons,ne_eq,Option.some.injEq]
    intro h3
    have:=congrArg UInt8.toNat h3
    simp at this; omega
   ·have:=ih (n / 256) (by omega)
    have hne:encL (n / 256) ≠ []:=fun h3=>h2 (by rw [← val_encL (n / 256),h3]; rfl)
    rw [List.head?_append]
    cases hh:(encL (n / 256)).head? with
    | none=>exact absurd (List.head?_eq_none_iff.1 hh) hne
    | some b=>rw [hh] at this; simpa using this
theorem val_inj:∀ {a b:List UInt8},a.length = b.length → val a = val b → a = b
 | [],[],_,_=>rfl
 | x :: a,y :: b,hl,h=>by
  have hl' : a.length = b.length:=by simpa using hl
  rw [val_cons,val_cons,hl'] at h
  have ha:=val_lt a
  have hb:=val_lt b
  rw [hl'] at ha
  have h1:x.toNat = y.toNat:=by
   have e1:(x.toNat * 256 ^ b.length + val a) / 256 ^ b.length = x.toNat:=by
    rw [Nat.mul_comm,Nat.mul_add_div (Nat.pow_pos (by decide)),Nat.div_eq_of_lt ha]; rfl
   have e2:(y.toNat * 256 ^ b.length + val b) / 256 ^ b.length = y.toNat:=by
    rw [Nat.mul_comm,Nat.mul_add_div (Nat.pow_pos (by decide)),Nat.div_eq_of_lt hb]; rfl
   rw [← e1,h,e2]
  have h2:val a = val b:=by rw [h1] at h; omega
  rw [UInt8.toNat_inj.1 h1,val_inj hl' h2]
 | [],_ :: _,hl,_=>by simp at hl
 | _ :: _,[],hl,_=>by simp at hl
theorem val_ge {b:UInt8} {l:List UInt8} (h:b ≠ 0):256 ^ l.length ≤ val (b :: l):=by
 rw [val_cons]
 have:1 ≤ b.toNat:=by
  rcases Nat.eq_zero_or_pos b.toNat with h0|h0
  ·exact absurd (UInt8.toNat_inj.1 (by simpa using h0)) h
  ·exact h0
 have:=Nat.mul_le_mul_right (256 ^ l.length) this
 omega
theorem len_of_val {a b:List UInt8} (ha:a.head? ≠ some 0) (h:b.length < a.length):val b < val a:=by
 cases a with
 | nil=>simp at h
 | cons x a =>
  have hx:x ≠ 0:=fun e=>ha (by simp [e])
  have h1:=val_ge (l:=a) hx
  have h2:=val_lt b
  have h3:256 ^ b.length ≤ 256 ^ a.length:=Nat.pow_le_pow_right (by decide) (by simp at h; omega)
  omega
theorem canon {a b:List UInt8} (ha:a.head? ≠ some 0) (hb:b.head? ≠ some 0) (h:val a = val b):a = b:=by
 rcases Nat.lt_trichotomy a.length b.length with hl|hl|hl
 ·have:=len_of_val hb hl; omega
 ·exact val_inj hl h
 ·have:=len_of_val ha hl; omega
theorem trimL_head:∀ l:List UInt8,(trimL l).head? ≠ some 0
 | []=>by simp [trimL]
 | b :: l=>by
  rw [trimL_cons]
  split
  ·exact trimL_head l
  ·rename_i h; simpa using h
theorem encL_val (l:List UInt8):encL (val l) = trimL l:=canon (encL_head _) (trimL_head _) (by rw [val_encL,val_trimL])
theorem encL_len {n k:Nat}:(encL n).length ≤ k ↔ n < 256 ^ k:=by
 constructor
 ·intro h
  have h1:=val_lt (encL n)
  rw [val_encL] at h1
  exact Nat.lt_of_lt_of_le h1 (Nat.pow_le_pow_right (by decide) h)
 ·intro h
  apply Nat.le_of_not_lt
  intro hlt
  cases hc:encL n with
  | nil=>rw [hc] at hlt; simp at hlt
  | cons x a =>
   have hx:x ≠ 0:=fun e=>encL_head n (by rw [hc]; simp [e])
   have h1:=val_ge (l:=a) hx
   rw [← hc,val_encL] at h1
   rw [hc] at hlt
   have h3:256 ^ k ≤ 256 ^ a.length:=Nat.pow_le_pow_right (by decide) (by simp at hlt; omega)
   omega
def bv (s:ByteArray):Nat:=val s.data.toList
def enc (n:Nat):ByteArray:=⟨(encL n).toArray⟩
@[simp] theorem bv_enc (n:Nat):bv (enc n) = n:=by simp [bv,enc,val_encL]
theorem enc_bv {s:ByteArray} (h:s.data.toList.head? ≠ some 0):enc (bv s) = s:=by
 cases s; rename_i d
 unfold enc bv
 congr
 rw [encL_val]
 have:=canon (trimL_head d.toList) h (val_trimL _)
 simp only at this
 rw [this]
theorem enc_size {n k:Nat}:(enc n).size ≤ k ↔ n < 256 ^ k:=by
 have:(enc n).size = (encL n).length:=by simp [enc,ByteArray.size]
 rw [this,encL_len]
theorem size_data (s:ByteArray):s.data.toList.length = s.size:=by rw [Array.length_toList]; rfl
theorem enc_size_bv (s:ByteArray):(enc (bv s)).size ≤ s.size:=by
 rw [enc_size]
 have:=val_lt s.data.toList
 rw [size_data] at this; exact this
theorem enc_inj {a b:Nat} (h:enc a = enc b):a = b:=by rw [← bv_enc a,h,bv_enc]
theorem bv_lt (s:ByteArray):bv s < 256 ^ s.size:=by
 have:=val_lt s.data.toList
 rw [size_data] at this; exact this
def dg (B:Nat):Nat → Nat → List Nat
 | 0,_=>[]
 | m + 1,x=>x % B :: dg B m (x / B)
def wv (B:Nat):List Nat → Nat
 | []=>0
 | d :: l=>d + B * wv B l
theorem dg_len (B:Nat):∀ (m x:Nat),(dg B m x).length = m
 | 0,_=>rfl
 | m + 1,x=>by simp [dg,dg_len B m]
theorem dg_get {B:Nat}:∀ {m x i:Nat},i < m → (dg B m x)[i]? = some (x / B ^ i % B)
 | 0,_,_,h=>by omega
 | m + 1,x,0,_=>by simp [dg]
 | m + 1,x,i + 1,h=>by
  rw [dg,List.getElem?_cons_succ,dg_get (by omega),Nat.div_div_eq_div_mul,Nat.pow_succ,Nat.mul_comm B]
theorem dg_none {B m x i:Nat} (h:m ≤ i):(dg B m x)[i]? = none:=by
 rw [List.getElem?_eq_none]; rw [dg_len]; exact h
theorem dg_ext {B m:Nat} {l:List Nat} {x:Nat} (hl:l.length = m) (h:∀ i,i < m → l[i]? = some (x / B ^ i % B)):l = dg B m x:=by
 apply List.ext_getElem?
 intro i
 by_cases hi:i < m
 ·rw [h i hi,dg_get hi]
 ·rw [dg_none (by omega),List.getElem?_eq_none (by omega)]
theorem wv_dg {B:Nat} (hB:0 < B):∀ (m x:Nat),wv B (dg B m x) = x % B ^ m
 | 0,x=>by simp [dg,wv,Nat.mod_one]
 | m + 1,x=>by
  rw [dg,wv,wv_dg hB m,Nat.pow_succ,Nat.mul_comm (B ^ m) B,Nat.mod_mul]
theorem wv_lt {B:Nat} (hB:0 < B):∀ {l:List Nat},(∀ d ∈ l,d < B) → wv B l < B ^ l.length
 | [],_=>by simp [wv]
 | d :: l,h=>by
  have h1:=wv_lt hB (l:=l) (fun x hx=>h x (by simp [hx]))
  have h2:=h d (by simp)
  rw [wv,List.length_cons,Nat.pow_succ]
  have:B * (wv B l + 1) ≤ B * B ^ l.length:=Nat.mul_le_mul_left _ h1
  rw [Nat.mul_add,Nat.mul_one] at this
  rw [Nat.mul_comm (B ^ l.length) B]
  omega
theorem dg_wv {B:Nat} (hB:0 < B):∀ {l:List Nat},(∀ d ∈ l,d < B) → dg B l.length (wv B l) = l
 | [],_=>rfl
 | d :: l,h=>by
  have h2:=h d (by simp)
  rw [List.length_cons,dg,wv,Nat.add_mul_mod_self_left,Nat.mod_eq_of_lt h2,Nat.add_mul_div_left _ _ hB,Nat.div_eq_of_lt h2,Nat.zero_add,dg_wv hB fun x hx=>h x (by simp [hx])]
theorem dg_mod {B:Nat} (hB:0 < B):∀ (m x:Nat),dg B m (x % B ^ m) = dg B m x:=by
 intro m x
 have h:=dg_wv hB (l:=dg B m x) (fun d hd=>by
  obtain ⟨i,hi,rfl⟩:=List.getElem_of_mem hd
  have h2:=dg_get (B:=B) (x:=x) (i:=i) (by rw [dg_len] at hi; exact hi)
  rw [List.getElem?_eq_getElem hi] at h2
  rw [Option.some.inj h2]
  exact Nat.mod_lt _ hB)
 rw [wv_dg hB,dg_len] at h
 exact h
theorem dg_set {B m i c d lo hi:Nat} (hB:0 < B) (hc:c < B) (hd:d < B) (hlo:lo < B ^ i) (him:i < m) :
  (dg B m (hi * B ^ (i + 1) + c * B ^ i + lo)).set i d = dg B m (hi * B ^ (i + 1) + d * B ^ i + lo):=by
 have dig:∀ (e j:Nat),e < B → (hi * B ^ (i + 1) + e * B ^ i + lo) / B ^ j % B = if j = i then e else if j < i then lo / B ^ j % B else hi / B ^ (j - (i + 1)) % B:=by
  intro e j he
  have e0:hi * B ^ (i + 1) + e * B ^ i + lo = (hi * B + e) * B ^ i + lo:=by rw [Nat.add_mul,Nat.pow_succ,Nat.mul_comm (B ^ i) B,Nat.mul_assoc]
  rw [e0]
  by_cases h1:j = i
  ·rw [if_pos h1,h1,Nat.add_comm,Nat.add_mul_div_right _ _ (Nat.pow_pos hB),Nat.div_eq_of_lt hlo,Nat.zero_add,Nat.add_comm,Nat.add_mul_mod_self_right,Nat.mod_eq_of_lt he]
  ·rw [if_neg h1]
   by_cases h2:j < i
   ·rw [if_pos h2]
    obtain ⟨k,rfl⟩:∃ k,i = j + 1 + k:=⟨i - (j + 1),by omega⟩
    rw [Nat.add_assoc,Nat.pow_add,← Nat.mul_assoc,Nat.mul_comm _ (B ^ j),Nat.mul_assoc,Nat.add_comm,Nat.add_mul_div_left _ _ (Nat.pow_pos hB),Nat.add_comm 1 k,Nat.pow_succ,← Nat.mul_assoc,Nat.add_mul_mod_self_right]
   ·rw [if_neg h2]
    obtain ⟨k,rfl⟩:∃ k,j = i + (k + 1):=⟨j - (i + 1),by omega⟩
    rw [Nat.pow_add,← Nat.div_div_eq_div_mul,Nat.add_comm,Nat.add_mul_div_right _ _ (Nat.pow_pos hB),Nat.div_eq_of_lt hlo,Nat.zero_add,Nat.pow_succ,Nat.mul_comm (B ^ k) B,← Nat.div_div_eq_div_mul,Nat.add_comm,Nat.add_mul_div_right _ _ hB,Nat.div_eq_of_lt he,Nat.zero_add]
    congr 3; omega
 refine dg_ext (by simp [dg_len]) fun j hj=>?_
 rw [List.getElem?_set]
 rw [dig d j hd]
 by_cases h1:i = j
 ·rw [if_pos h1,if_pos (by rw [dg_len]; exact h1 ▸ him),if_pos h1.symm]
 ·have h1' : ¬ j = i:=fun h=>h1 h.symm
  rw [if_neg h1,dg_get hj,dig c j hc,if_neg h1', if_neg h1']
def be (m n:Nat):List UInt8:=(dg 256 m n).reverse.map UInt8.ofNat
theorem be_succ (m n:Nat):be (m + 1) n = be m (n / 256) ++ [UInt8.ofNat (n % 256)]:=by simp [be,dg]
theorem be_len (m n:Nat):(be m n).length = m:=by simp [be,dg_len]
theorem val_be:∀ (m n:Nat),val (be m n) = n % 256 ^ m
 | 0,n=>by simp [be,dg,Nat.mod_one]
 | m + 1,n=>by
  rw [be_succ,val_snoc,val_be m,Nat.pow_succ,Nat.mul_comm (256 ^ m) 256,Nat.mod_mul]
  have:(UInt8.ofNat (n % 256)).toNat = n % 256:=by simp
  rw [this]; omega
theorem be_zero (n:Nat):be 0 n = []:=rfl
theorem enc_zero:enc 0 = ⟨⟨[]⟩⟩:=by rw [enc,encL_zero]
end Go.Num
end
section
set_option linter.unusedVariables false
namespace Go.Num
theorem trial_first {B V R v1 top P q:Nat} (hV:v1 * P ≤ V) (hR:R < (top + 1) * P) (hv:0 < v1) (hq:q * V ≤ R):q ≤ top / v1:=by
 rw [Nat.le_div_iff_mul_le hv]
 have h1:q * (v1 * P) ≤ R:=Nat.le_trans (Nat.mul_le_mul_left q hV) hq
 have h2:q * v1 * P < (top + 1) * P:=by rw [Nat.mul_assoc]; omega
 have h3:q * v1 < top + 1:=Nat.lt_of_mul_lt_mul_right h2
 omega
theorem trial_down {V R W T P q d:Nat} (hV:W * P ≤ V) (hR:R < (T + 1) * P) (hq:q * V ≤ R) (hd:T < d * W):q < d:=by
 have h1:q * (W * P) ≤ R:=Nat.le_trans (Nat.mul_le_mul_left q hV) hq
 have h2:q * W * P < (T + 1) * P:=by rw [Nat.mul_assoc]; omega
 have h3:q * W < T + 1:=Nat.lt_of_mul_lt_mul_right h2
 have h4:q * W < d * W:=by omega
 exact Nat.lt_of_mul_lt_mul_right h4
theorem trial_up {B V R W T P q d:Nat} (hV:V < (W + 1) * P) (hB:B * P ≤ V) (hT:T * P ≤ R) (hd:d * W ≤ T) (hdB:d ≤ B) (hR:R < (q + 1) * V) (hV0:0 < V):d ≤ q + 1:=by
 have h1:d * V ≤ d * (W + 1) * P:=by
  rw [Nat.mul_assoc]; exact Nat.mul_le_mul_left d (Nat.le_of_lt hV)
 have h2:d * (W + 1) * P = d * W * P + d * P:=by rw [Nat.mul_add,Nat.mul_one,Nat.add_mul]
 have h3:d * W * P ≤ T * P:=Nat.mul_le_mul_right P hd
 have h4:d * P ≤ B * P:=Nat.mul_le_mul_right P hdB
 have h5:d * V < (q + 2) * V:=by
  have:(q + 2) * V = (q + 1) * V + V:=by rw [Nat.add_mul,Nat.add_mul]; omega
  omega
 have:=Nat.lt_of_mul_lt_mul_right h5
 omega
theorem trial_stop {B d v1 v2 top u2 rest:Nat} (hrest:top = d * v1 + rest) (hr:B ≤ rest) (hd:d ≤ B) (hv2:v2 < B):d * (v1 * B + v2) ≤ top * B + u2:=by
 rw [hrest,Nat.mul_add,Nat.add_mul,← Nat.mul_assoc]
 have h1:d * v2 ≤ B * v2:=Nat.mul_le_mul_right _ hd
 have h2:B * v2 ≤ B * B:=Nat.mul_le_mul_left _ (Nat.le_of_lt hv2)
 have h3:B * B ≤ rest * B:=Nat.mul_le_mul_right _ hr
 omega
theorem trial_test {B d v1 v2 top u2 rest:Nat} (hrest:top = d * v1 + rest):d * v2 > rest * B + u2 ↔ top * B + u2 < d * (v1 * B + v2):=by
 rw [hrest,Nat.mul_add,Nat.add_mul,← Nat.mul_assoc]
 omega
end Go.Num
end
end
section
section
set_option linter.unusedVariables false
set_option linter.unusedSimpArgs false
namespace Go.Proofs.YthadehkggddgoaaGreatDoor
open Go Go.Num
structure Q where
 neg:Bool
 num:ByteArray
 den:ByteArray
def Q.sz (q:Q):Nat:=max q.num.size q.den.size
def Q.c (q:Q):List AE.AV:=[.b q.neg,.v (.string q.num),.v (.string q.den)]
theorem Q.le1 {q:Q} {k:Nat} (h:q.sz ≤ k):q.num.size ≤ k:=by unfold Q.sz at h; omega
theorem Q.le2 {q:Q} {k:Nat} (h:q.sz ≤ k):q.den.size ≤ k:=by unfold Q.sz at h; omega
def sg (neg:Bool) (n:Nat):Int:=if neg then -(n:Int) else n
theorem sg_natAbs (neg:Bool) (n:Nat):(sg neg n).natAbs = n:=by unfold sg; split <;> omega
theorem sg_neg (neg:Bool) (n:Nat) (h:n = 0 → neg = false):decide (sg neg n < 0) = neg:=by
 unfold sg
 cases neg
 ·simp only [Bool.false_eq_true,if_false,decide_eq_false_iff_not]; omega
 ·have:n ≠ 0:=fun e=>by cases h e
  simp only [if_true,decide_eq_true_eq]; omega
theorem sg_of (z:Int):sg (decide (z < 0)) z.natAbs = z:=by
 unfold sg; split
 ·rename_i h; have:=of_decide_eq_true h; omega
 ·rename_i h; have:¬ z < 0:=fun e=>h (decide_eq_true e); omega
def Q.Good (q:Q):Prop:=q.num.data.toList.head? ≠ some 0 ∧ q.den.data.toList.head? ≠ some 0 ∧ bv q.den ≠ 0 ∧ (bv q.num = 0 → q.neg = false) ∧ Nat.gcd (bv q.num) (bv q.den) = 1
instance (q:Q):Decidable q.Good:=by unfold Q.Good; infer_instance
def Q.of (r:Rat):Q:=⟨decide (r.num < 0),enc r.num.natAbs,enc r.den⟩
def Q.v (q:Q):Rat:=if q.Good then mkRat (sg q.neg (bv q.num)) (bv q.den) else 0
theorem mkRat_red {n:Int} {d:Nat} (hd:d ≠ 0) (h:Nat.gcd n.natAbs d = 1):(mkRat n d).num = n ∧ (mkRat n d).den = d:=by
 have:mkRat n d = ⟨n,d,hd,h⟩:=(Rat.mk_eq_mkRat n d hd h).symm
 rw [this]; exact ⟨rfl,rfl⟩
theorem Q.of_good (r:Rat):(Q.of r).Good:=by
 refine ⟨encL_head _,encL_head _,?_,?_,?_⟩
 ·show bv (enc r.den) ≠ 0; rw [bv_enc]; exact r.den_nz
 ·show bv (enc _) = 0 → decide _ = false; rw [bv_enc]; intro h; simp only [decide_eq_false_iff_not]; omega
 ·show Nat.gcd (bv (enc _)) (bv (enc _)) = 1; rw [bv_enc,bv_enc]; exact r.reduced
theorem Q.v_of (r:Rat):(Q.of r).v = r:=by
 rw [Q.v,if_pos (Q.of_good r)]
 show mkRat (sg (decide (r.num < 0)) (bv (enc r.num.natAbs))) (bv (enc r.den)) = r
 rw [bv_enc,bv_enc,sg_of,Rat.mkRat_self]
theorem Q.of_v {q:Q} (h:q.Good):Q.of q.v = q:=by
 have h' := h
 obtain ⟨h1,h2,h3,h4,h5⟩:=h'
 rw [Q.v,if_pos h]
 obtain ⟨e1,e2⟩:=mkRat_red (n:=sg q.neg (bv q.num)) h3 (by rw [sg_natAbs]; exact h5)
 rw [Q.of,e1,e2,sg_natAbs,enc_bv h1,enc_bv h2,sg_neg _ _ h4]
theorem Q.of_zero:Q.of 0 = ⟨false,⟨⟨[]⟩⟩,⟨⟨[1]⟩⟩⟩:=by
 have h1:enc 1 = ⟨⟨[1]⟩⟩:=by rw [enc,encL_pos (by decide),encL_zero]; rfl
 show (⟨decide ((0:Int) < 0),enc 0,enc 1⟩:Q) = _
 rw [h1,enc_zero]; rfl
theorem enc_one:enc 1 = ⟨⟨[1]⟩⟩:=by rw [enc,encL_pos (by decide),encL_zero]; rfl
theorem Q.v_bad {q:Q} (h:¬ q.Good):q.v = 0:=by rw [Q.v,if_neg h]
theorem Q.num_nil {r:Rat}:(Q.of r).num = ⟨⟨[]⟩⟩ ↔ r = 0:=by
 show enc _ = _ ↔ _
 rw [← enc_zero]
 constructor
 ·intro h; have:=enc_inj h; exact Rat.num_eq_zero.1 (by omega)
 ·intro h; rw [h]; rfl
theorem made_red (neg:Bool) {n d:Nat} (hd:d ≠ 0) (hn:n ≠ 0):(⟨neg,enc (n / Nat.gcd n d),enc (d / Nat.gcd n d)⟩:Q) = Q.of (mkRat (sg neg n) d):=by
 have hg:0 < Nat.gcd n d:=Nat.gcd_pos_of_pos_left _ (Nat.pos_of_ne_zero hn)
 have e1:(mkRat (sg neg n) d).num = sg neg (n / Nat.gcd n d):=by
  rw [Rat.num_mkRat,if_neg hd,sg_natAbs,Nat.gcd_comm]
  unfold sg
  split
  ·rw [Int.neg_ediv_of_dvd (Int.natCast_dvd_natCast.2 (Nat.gcd_dvd_left n d)),Int.natCast_ediv]
  ·rw [Int.natCast_ediv]
 have e2:(mkRat (sg neg n) d).den = d / Nat.gcd n d:=by
  rw [Rat.den_mkRat,if_neg hd,sg_natAbs,Nat.gcd_comm]
 have hne:n / Nat.gcd n d ≠ 0:=Nat.ne_of_gt (Nat.div_pos (Nat.le_of_dvd (Nat.pos_of_ne_zero hn) (Nat.gcd_dvd_left n d)) hg)
 rw [Q.of,e1,e2,sg_natAbs,sg_neg _ _ (fun h=>absurd h hne)]
theorem made_zero (neg:Bool) (d:Nat):Q.of (mkRat (sg neg 0) d) = Q.of 0:=by
 have:sg neg 0 = 0:=by unfold sg; split <;> rfl
 rw [this,Rat.zero_mkRat]
def rs (r:Rat):Nat:=max (enc r.num.natAbs).size (enc r.den).size
theorem rs_le {r:Rat} {k:Nat}:rs r ≤ k ↔ r.num.natAbs < 256 ^ k ∧ r.den < 256 ^ k:=by
 rw [rs,Nat.max_le,enc_size,enc_size]
theorem rs_num (r:Rat):(Q.of r).num.size ≤ rs r:=Nat.le_max_left _ _
theorem rs_den (r:Rat):(Q.of r).den.size ≤ rs r:=Nat.le_max_right _ _
theorem rs_v {q:Q} {k:Nat} (h1:q.num.size ≤ k) (h2:q.den.size ≤ k):rs q.v ≤ k + 1:=by
 by_cases h:q.Good
 ·have:=Q.of_v h
  rw [rs]
  have e1:(enc q.v.num.natAbs) = q.num:=by rw [← this]; show _ = enc _; rw [Q.v_of]
  have e2:(enc q.v.den) = q.den:=by rw [← this]; show _ = enc _; rw [Q.v_of]
  rw [e1,e2]; omega
 ·rw [Q.v_bad h,rs_le]
  have:256 ^ 1 ≤ 256 ^ (k + 1):=Nat.pow_le_pow_right (by decide) (by omega)
  exact ⟨by show 0 < _; omega,by show 1 < _; omega⟩
theorem Q.rs {q:Q}:rs q.v ≤ q.sz + 1:=rs_v (Nat.le_max_left _ _) (Nat.le_max_right _ _)
theorem sz_of (r:Rat):(Q.of r).sz = rs r:=rfl
theorem mkRat_le (n:Int) (d:Nat) (hd:d ≠ 0):(mkRat n d).num.natAbs ≤ n.natAbs ∧ (mkRat n d).den ≤ d:=by
 rw [Rat.num_mkRat,Rat.den_mkRat,if_neg hd,if_neg hd]
 refine ⟨?_,Nat.div_le_self _ _⟩
 have hd2:((Nat.gcd d n.natAbs:Nat):Int) ∣ n:=by
  rw [← Int.dvd_natAbs,Int.ofNat_dvd]; exact Nat.gcd_dvd_right d n.natAbs
 rw [Int.natAbs_ediv_of_dvd hd2,Int.natAbs_natCast]
 exact Nat.div_le_self _ _
theorem rs_mk {n:Int} {d k:Nat} (hd:d ≠ 0) (h1:n.natAbs < 256 ^ k) (h2:d < 256 ^ k):rs (mkRat n d) ≤ k:=by
 obtain ⟨e1,e2⟩:=mkRat_le n d hd
 exact rs_le.2 ⟨Nat.lt_of_le_of_lt e1 h1,Nat.lt_of_le_of_lt e2 h2⟩
theorem mul_lt_pow {a b i j:Nat} (h1:a < 256 ^ i) (h2:b < 256 ^ j):a * b < 256 ^ (i + j):=by
 rw [Nat.pow_add]
 exact Nat.mul_lt_mul'' h1 h2
theorem rs_mul (a b:Rat):rs (a * b) ≤ rs a + rs b:=by
 obtain ⟨a1,a2⟩:=rs_le.1 (Nat.le_refl (rs a))
 obtain ⟨b1,b2⟩:=rs_le.1 (Nat.le_refl (rs b))
 rw [Rat.mul_def']
 exact rs_mk (Nat.mul_ne_zero a.den_nz b.den_nz) (by rw [Int.natAbs_mul]; exact mul_lt_pow a1 b1) (mul_lt_pow a2 b2)
theorem rs_add (a b:Rat):rs (a + b) ≤ rs a + rs b + 1:=by
 obtain ⟨a1,a2⟩:=rs_le.1 (Nat.le_refl (rs a))
 obtain ⟨b1,b2⟩:=rs_le.1 (Nat.le_refl (rs b))
 rw [Rat.add_def']
 have h1:=mul_lt_pow a1 b2
 have h2:=mul_lt_pow b1 a2
 have h3:=mul_lt_pow a2 b2
 rw [Nat.add_comm (rs b)] at h2
 have h4:256 ^ (rs a + rs b + 1) = 256 ^ (rs a + rs b) * 256:=Nat.pow_succ ..
 refine rs_mk (Nat.mul_ne_zero a.den_nz b.den_nz) ?_ (by omega)
 have:=Int.natAbs_add_le (a.num * (b.den:Int)) (b.num * (a.den:Int))
 rw [Int.natAbs_mul,Int.natAbs_mul,Int.natAbs_natCast,Int.natAbs_natCast] at this
 omega
theorem rs_neg (a:Rat):rs (-a) = rs a:=by rw [rs,rs,Rat.neg_num,Rat.neg_den,Int.natAbs_neg]
theorem rs_sub (a b:Rat):rs (a - b) ≤ rs a + rs b + 1:=by
 rw [Rat.sub_eq_add_neg]; have:=rs_add a (-b); rw [rs_neg] at this; exact this
theorem sg_add_same (neg:Bool) (a b:Nat):sg neg (a + b) = sg neg a + sg neg b:=by unfold sg; split <;> omega
theorem sg_sub_ge (neg:Bool) {a b:Nat} (h:b ≤ a):sg neg (a - b) = sg neg a + sg (!neg) b:=by unfold sg; cases neg <;> simp <;> omega
theorem sg_sub_le (neg:Bool) {a b:Nat} (h:a ≤ b):sg (!neg) (b - a) = sg neg a + sg (!neg) b:=by unfold sg; cases neg <;> simp <;> omega
theorem sg_mul (neg:Bool) (a d:Nat):sg neg (a * d) = sg neg a * d:=by
 unfold sg; split
 ·rw [Int.neg_mul,Int.natCast_mul]
 ·rw [Int.natCast_mul]
theorem sg_mul2 (n m:Bool) (a b:Nat):sg (n != m) (a * b) = sg n a * sg m b:=by
 unfold sg; cases n <;> cases m <;> simp [Int.neg_mul,Int.mul_neg]
theorem sg_num (r:Rat):sg (Q.of r).neg r.num.natAbs = r.num:=sg_of _
theorem Q.bnum (r:Rat):bv (Q.of r).num = r.num.natAbs:=bv_enc _
theorem Q.bden (r:Rat):bv (Q.of r).den = r.den:=bv_enc _
theorem add_same {a b:Rat} (h:a.den = b.den) {z:Int} (hz:z = a.num + b.num):mkRat z a.den = a + b:=by
 rw [Rat.add_def', ← h,hz,← Int.add_mul,Rat.mkRat_mul_right a.den_nz]
theorem add_diff {a b:Rat} {z:Int} (hz:z = a.num * b.den + b.num * a.den):mkRat z (a.den * b.den) = a + b:=by rw [Rat.add_def', hz]
theorem mul_mk {a b:Rat} {z:Int} (hz:z = a.num * b.num):mkRat z (a.den * b.den) = a * b:=by rw [Rat.mul_def', hz]
def cmp2 (x y:Int):Int:=if x < y then -1 else if y < x then 1 else 0
def cmpR (a b:Rat):Int:=if a < b then -1 else if b < a then 1 else 0
theorem cmpR_eq (a b:Rat):cmpR a b = cmp2 (a.num * b.den) (b.num * a.den):=by
 simp only [cmpR,cmp2,Rat.lt_iff]
theorem cmpR_diff {a b:Rat} (h:(Q.of a).neg ≠ (Q.of b).neg):cmpR a b = if (Q.of a).neg = true then -1 else 1:=by
 have e1:(Q.of a).neg = decide (a.num < 0):=rfl
 have e2:(Q.of b).neg = decide (b.num < 0):=rfl
 rw [e1,e2] at h
 rw [e1,cmpR_eq,cmp2]
 have ha:=a.den_pos
 have hb:=b.den_pos
 by_cases h1:a.num < 0
 ·have h2:0 ≤ b.num:=by
   by_cases h2:b.num < 0
   ·rw [decide_eq_true h1,decide_eq_true h2] at h; exact absurd rfl h
   ·omega
  have p1:a.num * b.den < 0:=Int.mul_neg_of_neg_of_pos h1 (by omega)
  have p2:0 ≤ b.num * a.den:=Int.mul_nonneg h2 (by omega)
  rw [if_pos (by omega),if_pos (decide_eq_true h1)]
 ·have h2:b.num < 0:=by
   by_cases h2:b.num < 0
   ·exact h2
   ·rw [decide_eq_false h1,decide_eq_false h2] at h; exact absurd rfl h
  have p1:b.num * a.den < 0:=Int.mul_neg_of_neg_of_pos h2 (by omega)
  have p2:0 ≤ a.num * b.den:=Int.mul_nonneg (by omega) (by omega)
  rw [if_neg (by omega),if_pos (by omega),if_neg (by simpa using h1)]
theorem cmpR_same {a b:Rat} (h:(Q.of a).neg = (Q.of b).neg):cmpR a b = if (Q.of a).neg = true then -cmp2 (a.num.natAbs * b.den:Nat) (b.num.natAbs * a.den:Nat) else cmp2 (a.num.natAbs * b.den:Nat) (b.num.natAbs * a.den:Nat):=by
 have e1:=sg_num a
 have e2:=sg_num b
 rw [← h] at e2
 have f1:a.num * b.den = sg (Q.of a).neg (a.num.natAbs * b.den):=by rw [sg_mul,e1]
 have f2:b.num * a.den = sg (Q.of a).neg (b.num.natAbs * a.den):=by rw [sg_mul,e2]
 rw [cmpR_eq,f1,f2]
 generalize a.num.natAbs * b.den = x
 generalize b.num.natAbs * a.den = y
 cases (Q.of a).neg
 ·simp [sg,cmp2]
 ·simp only [sg,cmp2,if_true]
  by_cases h1:x < y
  ·have:((x:Nat):Int) < y:=by omega
   rw [if_neg (by omega),if_pos (by omega),if_pos (by omega)]; rfl
  ·by_cases h2:y < x
   ·rw [if_pos (by omega),if_neg (by omega),if_pos (by omega)]
   ·rw [if_neg (by omega),if_neg (by omega),if_neg (by omega),if_neg (by omega)]; rfl
theorem cmpR_le {a b:Rat}:cmpR a b ≤ 0 ↔ a ≤ b:=by
 rw [cmpR]
 split
 ·rename_i h; simp [Rat.le_of_lt h]
 ·rename_i h; split
  ·rename_i h2; simp [Rat.not_le.2 h2]
  ·rename_i h2; simp [Rat.not_lt.1 h2]
theorem cmpR_ge {a b:Rat}:0 ≤ cmpR a b ↔ b ≤ a:=by
 rw [cmpR]
 split
 ·rename_i h; simp [Rat.not_le.2 h]
 ·rename_i h; split
  ·rename_i h2; simp [Rat.le_of_lt h2]
  ·rename_i h2; simp [Rat.not_lt.1 h]
def sgnR (a:Rat):Int:=if a = 0 then 0 else if a < 0 then -1 else 1
theorem neg_lt_zero {a:Rat}:(Q.of a).neg = true ↔ a < 0:=by
 show decide (a.num < 0) = true ↔ _
 rw [decide_eq_true_eq,← Rat.not_le,← Rat.num_nonneg]; omega
def absR (a:Rat):Rat:=if a < 0 then -a else a
theorem rs_abs (a:Rat):rs (absR a) = rs a:=by unfold absR; split; exact rs_neg a; rfl
theorem of_neg (a:Rat):Q.of (-a) = ⟨!(Q.of a).neg && decide ((Q.of a).num ≠ ⟨⟨[]⟩⟩),(Q.of a).num,(Q.of a).den⟩:=by
 have h1:(decide ((Q.of a).num ≠ ⟨⟨[]⟩⟩)) = !decide (a.num = 0):=by
  rw [Bool.eq_iff_iff]
  simp only [decide_eq_true_eq,Bool.not_eq_true', decide_eq_false_iff_not,ne_eq]
  exact not_congr (Q.num_nil.trans Rat.num_eq_zero.symm)
 rw [h1]
 show (⟨decide (-a.num < 0),enc (-a.num).natAbs,enc a.den⟩:Q) = ⟨!decide (a.num < 0) && _,enc a.num.natAbs,enc a.den⟩
 rw [Int.natAbs_neg]
 congr 1
 by_cases h2:a.num < 0
 ·rw [decide_eq_true h2,decide_eq_false (by omega)]; rfl
 ·by_cases h3:a.num = 0
  ·rw [decide_eq_false h2,decide_eq_false (by omega),decide_eq_true h3]; rfl
  ·rw [decide_eq_false h2,decide_eq_true (by omega),decide_eq_false h3]; rfl
theorem of_abs (a:Rat):Q.of (absR a) = ⟨false,(Q.of a).num,(Q.of a).den⟩:=by
 unfold absR
 split
 ·rename_i h
  rw [of_neg,neg_lt_zero.2 h]; rfl
 ·rename_i h
  have:(Q.of a).neg = false:=by
   cases h2:(Q.of a).neg
   ·rfl
   ·exact absurd (neg_lt_zero.1 h2) h
  rw [← this]
end Go.Proofs.YthadehkggddgoaaGreatDoor
end
section
set_option linter.unusedVariables false
namespace Go.Proofs.YthadehkggddgoaaGreatDoor
open Go
theorem lsAv_ex (α : Type):∃ g:(α → List AE.AV) → List α → List (List AE.AV),∀ f l,g f l = l.map f:=⟨_,fun _ _=>rfl⟩
noncomputable def lsAv {α : Type}:(α → List AE.AV) → List α → List (List AE.AV):=(lsAv_ex α).choose
theorem lsAv_eq {α : Type} (f:α → List AE.AV) (l:List α):lsAv f l = l.map f:=(lsAv_ex α).choose_spec f l
theorem lsAv_len {α : Type} (f:α → List AE.AV) (l:List α):(lsAv f l).length = l.length:=by rw [lsAv_eq,List.length_map]
theorem lsAv_get {α : Type} {f:α → List AE.AV} {l:List α} {i:Nat} {x:α} (h:l[i]? = some x):(lsAv f l)[i]? = some (f x):=by rw [lsAv_eq,List.getElem?_map,h]; rfl
theorem lsAv_nil {α : Type} (f:α → List AE.AV):lsAv f [] = []:=by rw [lsAv_eq]; rfl
theorem lsAv_app {α : Type} (f:α → List AE.AV) (l m:List α):lsAv f l ++ lsAv f m = lsAv f (l ++ m):=by rw [lsAv_eq,lsAv_eq,lsAv_eq,List.map_append]
theorem lsAv_set {α : Type} (f:α → List AE.AV) (l:List α) (i:Nat) (x:α):(lsAv f l).set i (f x) = lsAv f (l.set i x):=by rw [lsAv_eq,lsAv_eq,List.map_set]
structure V2 where
 x:Q
 y:Q
def V2.c (p:V2):List AE.AV:=p.x.c ++ p.y.c
structure Sp where
 low:Q
 high:Q
def Sp.c (p:Sp):List AE.AV:=p.low.c ++ p.high.c
structure Bx where
 low:V2
 high:V2
def Bx.c (p:Bx):List AE.AV:=p.low.c ++ p.high.c
structure Tn where
 half:Bool
 t:Q
def Tn.c (p:Tn):List AE.AV:=.b p.half :: p.t.c
structure Fr where
 at_:V2
 turn:Tn
def Fr.c (p:Fr):List AE.AV:=p.at_.c ++ p.turn.c
structure Lk where
 length:Q
 low:Q
 high:Q
 speed:Q
 brake:Q
 shape:List V2
noncomputable def Lk.c (p:Lk):List AE.AV:=p.length.c ++ p.low.c ++ p.high.c ++ p.speed.c ++ p.brake.c ++ [.l 6 (lsAv V2.c p.shape)]
structure Ar where
 name:ByteArray
 base:Fr
 links:List Lk
noncomputable def Ar.c (p:Ar):List AE.AV:=.v (.string p.name) :: p.base.c ++ [.l 16 (lsAv Lk.c p.links)]
structure Pt where
 name:ByteArray
 shape:List V2
 grasp:Fr
noncomputable def Pt.c (p:Pt):List AE.AV:=.v (.string p.name) :: .l 6 (lsAv V2.c p.shape) :: p.grasp.c
structure Sl where
 name:ByteArray
 frame:Fr
 within:Q
def Sl.c (p:Sl):List AE.AV:=.v (.string p.name) :: p.frame.c ++ p.within.c
structure Gt where
 name:ByteArray
 zone:Bx
def Gt.c (p:Gt):List AE.AV:=.v (.string p.name) :: p.zone.c
noncomputable def wallC (l:List V2):List AE.AV:=[.l 6 (lsAv V2.c l)]
structure Wk where
 arms:List Ar
 walls:List (List V2)
 parts:List Pt
 slots:List Sl
 gates:List Gt
 walk:Q
noncomputable def Wk.c (p:Wk):List AE.AV:=.l 12 (lsAv Ar.c p.arms) :: .l 1 (lsAv wallC p.walls) :: .l 12 (lsAv Pt.c p.parts) :: .l 14 (lsAv Sl.c p.slots) :: .l 13 (lsAv Gt.c p.gates) :: p.walk.c
structure As where
 q:List Q
 v:List Q
 power:Bool
 holds:Int
noncomputable def As.c (p:As):List AE.AV:=[.l 3 (lsAv Q.c p.q),.l 3 (lsAv Q.c p.v),.b p.power,.v (.int .i64 p.holds)]
def boolC (b:Bool):List AE.AV:=[.b b]
structure Ss where
 tick:Int
 arms:List As
 parts:List Fr
 people:List V2
 opens:List Bool
noncomputable def Ss.c (p:Ss):List AE.AV:=[.v (.int .i64 p.tick),.l 4 (lsAv As.c p.arms),.l 10 (lsAv Fr.c p.parts),.l 6 (lsAv V2.c p.people),.l 1 (lsAv boolC p.opens)]
end Go.Proofs.YthadehkggddgoaaGreatDoor
end
end
