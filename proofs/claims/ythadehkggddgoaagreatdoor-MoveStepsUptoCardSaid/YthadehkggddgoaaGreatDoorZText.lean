/- Contracts: nat.trim, nat.short. Contracts: nat.words, nat.text. Contract: nat.text. Contracts: nat.Cmp, nat.Of. -/
import Derived.Test.YthadehkggddgoaaGreatDoorZLoop
import Derived.Test.YthadehkggddgoaaGreatDoorZData
import Derived.Test.YthadehkggddgoaaGreatDoorZBits
set_option maxRecDepth 100000
set_option maxHeartbeats 0
section
set_option linter.unusedVariables false
set_option linter.unusedSimpArgs false
namespace Go.Proofs.YthadehkggddgoaaGreatDoor
open Go Go.Num
theorem ext_list (s:ByteArray) (i j:Nat):(s.extract i j).data.toList = (s.data.toList.take j).drop i:=by
 rw [ByteArray.data_extract,Array.toList_extract]
 simp [List.extract,List.drop_take]
theorem bAt_get {s:ByteArray} {i:Nat} {b:UInt8} (h:s.data.toList[i]? = some b):AE.bAt s (i:Int) = b.toNat:=by
 unfold AE.bAt
 rw [show ((i:Int)).toNat = i from rfl,h]; rfl
theorem ba_ext {s t:ByteArray} (h:s.data.toList = t.data.toList):s = t:=by
 cases s; cases t; congr; exact Array.toList_inj.1 h
theorem or_add {k a b:Nat} (h:a * 2 ^ k + b < 2 ^ 64) (hb:b < 2 ^ k):AE.std.bin .or .u64 ((a * 2 ^ k:Nat):Int) (b:Int) = Int.ofNat (a * 2 ^ k + b):=by
 have e:a * 2 ^ k ||| b = a * 2 ^ k + b:=by rw [Nat.mul_comm]; exact (Nat.two_pow_add_eq_or_of_lt hb a).symm
 show IntKind.wrap .u64 (((BitVec.ofInt 64 ((a * 2 ^ k:Nat):Int)) ||| (BitVec.ofInt 64 (b:Int))).toNat:Int) = _
 rw [AE.wrap_u64,BitVec.toNat_or,BitVec.toNat_ofInt,BitVec.toNat_ofInt]
 have h1:((((a * 2 ^ k:Nat):Int)) % ((2 ^ 64:Nat):Int)).toNat = a * 2 ^ k:=by omega
 have h2:(((b:Int)) % ((2 ^ 64:Nat):Int)).toNat = b:=by omega
 rw [h1,h2,e]
 have h3:((a * 2 ^ k + b:Nat):Int) % 18446744073709551616 = ((a * 2 ^ k + b:Nat):Int):=by omega
 exact h3
theorem trim_ok (a r:ByteArray) (hr:r = enc (bv a)):AE.ACall Tryz.prog 156 [] [.v (.string a)] [] (.v (.string r)):=by
 refine AE.ACall.of_walk (fn:=Tryz.f156) (c:=bodyOf Tryz.f156) tabOK Tryz.func156 rfl rfl mixed fun A hA X=>?_
 (refine X.g ?_; cbv)
 refine X.carries (ι:={ x:ByteArray // bv x = bv a }) (fun x=>[(0,.v (.string x.1))]) (fun _=>[]) (fun x=>x.1.size) ⟨a,rfl⟩ ?_ fun i B hB=>?_
 ·(cbv <;> (and_intros <;> first|rfl|trivial))
 obtain ⟨x,hx⟩:=i
 simp only
 have hfin:x.data.toList.head? ≠ some 0 → x = r:=fun h=>by rw [hr,← hx,enc_bv h]
 cases hl:x.data.toList with
 | nil =>
  have h0:x.size = 0:=by rw [← size_data,hl]; rfl
  have hxr:=hfin (by rw [hl]; simp)
  have c1:A.cmp .gtr (A.slen x) 0 = false:=by rw [AE.c_gtr hA,slen hA,h0]; rfl
  clear hB hfin
  (repeat' (first|(refine X.g ?_; cbv)|refine X.splitT ?_|refine X.splitF ?_|refine X.sp (fun hc=>?_) (fun hc=>?_)|refine X.needT ?_))
  all_goals (refine X.ret _ (X.done rfl ?_); cbv <;> (and_intros <;> first|exact hxr|rfl|trivial))
 | cons b l =>
  have h0:x.size = l.length + 1:=by rw [← size_data,hl]; rfl
  have c1:A.cmp .gtr (A.slen x) 0 = true:=by rw [AE.c_gtr hA,slen hA]; simp; omega
  have hb:A.sidx x 0 = b.toNat:=by subst hA; exact bAt_get (i:=0) (by rw [hl]; rfl)
  have hin:AE.InR 0 (A.slen x):=⟨by omega,by rw [slen hA]; omega⟩
  have hcut:AE.CutR 1 (A.slen x):=⟨by omega,by rw [slen hA]; omega⟩
  obtain ⟨y,hy⟩:∃ y,y = A.ssub x 1 (A.slen x):=⟨_,rfl⟩
  have hyl:y.data.toList = l:=by
   have:y = x.extract 1 x.size:=by subst hA; exact hy
   rw [this,ext_list,hl,h0]; simp
  by_cases h:b = 0
  ·have c2:A.cmp .eql (A.sidx x 0) 0 = true:=by rw [AE.c_eql hA,hb,h]; rfl
   clear hfin
   (repeat' (first|(refine X.g ?_; cbv)|refine X.splitT ?_|refine X.splitF ?_|refine X.sp (fun hc=>?_) (fun hc=>?_)|refine X.need _ _ _ hin ?_|refine X.need _ _ _ hcut ?_|refine X.needT ?_))
   all_goals (refine hB ⟨y,by rw [← hx,bv,bv,hyl,hl,val_cons,h]; simp⟩ _ (by show y.size < x.size; rw [← size_data,hyl]; omega) ?_; clear hB; cbv <;> (and_intros <;> first|exact hy.symm|rfl|trivial))
  ·have c2:A.cmp .eql (A.sidx x 0) 0 = false:=by
    rw [AE.c_eql hA,hb]; simp; intro h2; exact h (UInt8.toNat_inj.1 (by simpa using h2))
   have hxr:=hfin (by rw [hl]; simpa using h)
   clear hB hfin
   (repeat' (first|(refine X.g ?_; cbv)|refine X.splitT ?_|refine X.splitF ?_|refine X.sp (fun hc=>?_) (fun hc=>?_)|refine X.need _ _ _ hin ?_|refine X.needT ?_))
   all_goals (refine X.ret _ (X.done rfl ?_); cbv <;> (and_intros <;> first|exact hxr|rfl|trivial))
theorem shlOr {v b:Nat} (h:v < 256 ^ 7) (hb:b < 256):AE.std.bin .or .u64 (AE.std.bin .shl .u64 (Int.ofNat v) 8) (AE.std.conv .u64 (b:Int)) = Int.ofNat (v * 256 + b):=by
 have h1:AE.std.bin .shl .u64 (Int.ofNat v) 8 = ((v * 256:Nat):Int):=by
  show IntKind.wrap .u64 ((v:Int) * 2 ^ 8) = _
  rw [AE.wrap_u64]; omega
 have h2:AE.std.conv .u64 (b:Int) = (b:Int):=by
  show IntKind.wrap .u64 (b:Int) = _
  rw [AE.wrap_u64]; omega
 rw [h1,h2]
 exact or_add (k:=8) (a:=v) (b:=b) (by omega) (by simpa using hb)
theorem short_ok (a:ByteArray) (ha:a.size ≤ 8) (r:Int) (hr:r = bv a):AE.ACall Tryz.prog 158 [] [.v (.string a)] [] (.v (.int .u64 r)):=by
 refine AE.ACall.of_walk (fn:=Tryz.f158) (c:=bodyOf Tryz.f158) tabOK Tryz.func158 rfl rfl mixed fun A hA X=>?_
 (refine X.g ?_; cbv)
 refine X.carries (ι:={ p:Nat × Int × Int // p.1 ≤ a.size ∧ p.2.1 = p.1 ∧ p.2.2 = Int.ofNat (val (a.data.toList.take p.1)) }) (fun p=>[(7,.v (.int .i64 p.1.2.1)),(3,.v (.int .u64 p.1.2.2))]) (fun _=>[]) (fun p=>a.size - p.1.1) ⟨(0,0,0),Nat.zero_le _,rfl,rfl⟩ ?_ fun i B hB=>?_
 ·(cbv <;> (and_intros <;> first|rfl|trivial))
 obtain ⟨⟨i,j,z⟩,hi,hj,hz⟩:=i
 simp only at hi hj hz ⊢
 by_cases h:i < a.size
 ·have c1:A.cmp .lss j (A.slen a) = true:=by rw [AE.c_lss hA,slen hA,hj]; simp; exact h
  have hlt:i < a.data.toList.length:=by rw [size_data]; exact h
  have hg:a.data.toList[i]? = some a.data.toList[i]:=List.getElem?_eq_getElem hlt
  have hb:A.sidx a j = (a.data.toList[i]).toNat:=by subst hA; rw [hj]; exact bAt_get hg
  have hin:AE.InR j (A.slen a):=⟨by rw [hj]; exact Int.natCast_nonneg _,by rw [slen hA,hj]; exact Int.ofNat_lt.2 h⟩
  obtain ⟨j', hj'⟩:∃ j' : Int,j' = ((i + 1:Nat):Int):=⟨_,rfl⟩
  obtain ⟨z', hz'⟩:∃ z' : Int,z' = Int.ofNat (val (a.data.toList.take (i + 1))):=⟨_,rfl⟩
  have e1:A.bin .add .i64 j 1 = j' := by rw [hj,hj']; exact AE.addN hA (by omega)
  have e2:A.bin .or .u64 (A.bin .shl .u64 z 8) (A.conv .u64 (A.sidx a j)) = z' := by
   rw [hb,hz', List.take_add_one,hg]
   simp only [Option.toList]
   rw [val_snoc]
   have hv:=val_lt (a.data.toList.take i)
   have h7:(a.data.toList.take i).length ≤ 7:=by rw [List.length_take]; omega
   have h8:val (a.data.toList.take i) < 256 ^ 7:=Nat.lt_of_lt_of_le hv (Nat.pow_le_pow_right (by decide) h7)
   have hb8:(a.data.toList[i]).toNat < 256:=UInt8.toNat_lt _
   rw [hz]
   subst hA
   exact shlOr h8 hb8
  (repeat' (first|(refine X.g ?_; cbv)|refine X.splitT ?_|refine X.splitF ?_|refine X.sp (fun hc=>?_) (fun hc=>?_)|refine X.need _ _ _ hin ?_|refine X.needT ?_))
  all_goals (refine hB ⟨(i + 1,j', z'),h,hj', hz'⟩ _ (by show a.size - (i + 1) < a.size - i; omega) ?_; clear hB; cbv <;> (and_intros <;> first|exact e1|exact e2|rfl|trivial))
 ·have c1:A.cmp .lss j (A.slen a) = false:=by rw [AE.c_lss hA,slen hA,hj]; simp; omega
  have hzr:z = r:=by rw [hz,hr,List.take_of_length_le (by rw [size_data]; omega)]; rfl
  clear hB
  (repeat' (first|(refine X.g ?_; cbv)|refine X.splitT ?_|refine X.splitF ?_|refine X.sp (fun hc=>?_) (fun hc=>?_)|refine X.needT ?_))
  all_goals (refine X.ret _ (X.done rfl ?_); cbv <;> (and_intros <;> first|exact hzr|rfl|trivial))
theorem be8 (n:Nat):be 8 n = [56,48,40,32,24,16,8,0].map fun k=>UInt8.ofNat (n / 2 ^ k % 256):=by
 simp only [be_succ,be_zero,List.nil_append,List.cons_append,Nat.div_div_eq_div_mul,List.map_cons,List.map_nil,Nat.reduceMul,Nat.reducePow,Nat.div_one]
theorem shr_byte {n k:Nat} (hk:k ≤ 64):AE.std.conv .u8 (AE.std.bin .shr .u64 (n:Int) (k:Int)) = ((UInt8.ofNat (n / 2 ^ k % 256)).toNat:Int):=by
 have h1:AE.std.bin .shr .u64 (n:Int) (k:Int) = ((n / 2 ^ k:Nat):Int):=by
  show Int.fdiv (n:Int) (2 ^ min ((k:Int)).toNat 64) = _
  rw [show ((k:Int)).toNat = k from rfl,Nat.min_eq_left hk,Int.fdiv_eq_ediv_of_nonneg _ (by exact Int.le_of_lt (Int.pow_pos (by decide)))]
  rw [Int.natCast_ediv,Int.natCast_pow]; rfl
 rw [h1]
 show IntKind.wrap .u8 _ = _
 rw [AE.wrap_u8]
 simp
def sel (b:Nat → Int) (i j:Nat):AE.AV:=.v (.int .u8 (if j < i then b j else 0))
theorem fromShort_ok (n:Nat) (hn:n < 2 ^ 64) (z:Int) (hz:z = n) (r:ByteArray) (hr:r = enc n):AE.ACall Tryz.prog 157 [] [.v (.int .u64 z)] [] (.v (.string r)):=by
 refine AE.ACall.of_walk (fn:=Tryz.f157) (c:=bodyOf Tryz.f157) tabOK Tryz.func157 rfl rfl mixed fun A hA X=>?_
 (refine X.g ?_; cbv)
 obtain ⟨b,hb⟩:∃ b:Nat → Int,∀ j,b j = ((UInt8.ofNat (n / 2 ^ (56 - 8 * j) % 256)).toNat:Int):=⟨_,fun _=>rfl⟩
 obtain ⟨s,hs⟩:∃ s:ByteArray,s = ⟨(be 8 n).toArray⟩:=⟨_,rfl⟩
 have hsb:[[AE.AV.v (.int .u8 (b 0))],[.v (.int .u8 (b 1))],[.v (.int .u8 (b 2))],[.v (.int .u8 (b 3))],[.v (.int .u8 (b 4))],[.v (.int .u8 (b 5))],[.v (.int .u8 (b 6))],[.v (.int .u8 (b 7))]] = AE.sbytes s:=by
  rw [AE.sbytes_eq,hs,be8]; simp [hb]
 have h171:=trim_ok s r (by rw [hr,bv,hs]; simp only [List.toList_toArray]; rw [val_be,Nat.mod_eq_of_lt (by omega)])
 refine X.carries (ι:={ i:Nat // i ≤ 8 }) (fun i=>[(5,.v (.int .i64 i.1))]) (fun i=>[.box [sel b i.1 0,sel b i.1 1,sel b i.1 2,sel b i.1 3,sel b i.1 4,sel b i.1 5,sel b i.1 6,sel b i.1 7] 248]) (fun i=>8 - i.1) ⟨0,by decide⟩ ?_ fun i B hB=>?_
 ·(cbv <;> (and_intros <;> first|rfl|trivial))
 obtain ⟨i,hi⟩:=i
 have hcell:∀ j:Nat,j ≤ 7 → A.conv .u8 (A.bin .shr .u64 z (A.bin .sub .i64 56 (A.bin .mul .i64 8 (j:Int)))) = b j:=fun j hj=>by
  have e1:A.bin .mul .i64 8 (j:Int) = ((8 * j:Nat):Int):=by subst hA; show IntKind.wrap .i64 _ = _; rw [AE.wrap_i64] <;> omega
  have e2:A.bin .sub .i64 56 (A.bin .mul .i64 8 (j:Int)) = ((56 - 8 * j:Nat):Int):=by rw [e1]; subst hA; rw [AE.std_sub] <;> omega
  rw [e2,hz,hb]; subst hA; exact shr_byte (by omega)
 have hneed:∀ j:Nat,j ≤ 7 → 0 ≤ A.bin .sub .i64 56 (A.bin .mul .i64 8 (j:Int)):=fun j hj=>by
  have e1:A.bin .mul .i64 8 (j:Int) = ((8 * j:Nat):Int):=by subst hA; show IntKind.wrap .i64 _ = _; rw [AE.wrap_i64] <;> omega
  rw [e1]; subst hA; rw [AE.std_sub] <;> omega
 have c8:A.cmp .lss 8 8 = false:=by subst hA; rfl
 match i,hi with
 | 8,_ =>
  clear hB hcell hneed
  repeat' (first|(refine X.g ?_; cbv)|refine X.splitT ?_|refine X.splitF ?_|refine X.sp (fun hc=>?_) (fun hc=>?_)|fail)
  refine X.halt _ _ (X.frzB 0 _ _ (by simp) ?_)
  (refine X.g ?_; cbv)
  refine X.str _ _ _ _ s hsb ?_
  (repeat' (first|(refine X.g ?_; cbv)|refine X.splitT ?_|refine X.splitF ?_|refine X.sp (fun hc=>?_) (fun hc=>?_)|refine X.callsA [] h171 ?_|refine X.needT ?_))
  all_goals (refine X.ret _ (X.done rfl ?_); cbv <;> (and_intros <;> first|rfl|trivial))
 | 0,_ =>
  have c1:A.cmp .lss 0 8 = true:=by subst hA; rfl
  have e1:A.bin .add .i64 0 1 = 1:=by subst hA; rfl
  have e2:=hcell 0 (by decide)
  have hn1:=hneed 0 (by decide)
  clear hcell hneed
  repeat' (first|(refine X.g ?_; cbv)|refine X.splitT ?_|refine X.splitF ?_|refine X.sp (fun hc=>?_) (fun hc=>?_)|refine X.need _ _ _ hn1 ?_|refine X.ixa _ _ _ _ _ _ _ _ 0 rfl (by decide) ?_|fail)
  all_goals (refine hB ⟨1,by decide⟩ _ (by show 8 - 1 < 8 - 0; decide) ?_; clear hB; cbv <;> (and_intros <;> first|exact e1|exact e2|rfl|trivial))
 | 1,_ =>
  have c1:A.cmp .lss 1 8 = true:=by subst hA; rfl
  have e1:A.bin .add .i64 1 1 = 2:=by subst hA; rfl
  have e2:=hcell 1 (by decide)
  have hn1:=hneed 1 (by decide)
  clear hcell hneed
  repeat' (first|(refine X.g ?_; cbv)|refine X.splitT ?_|refine X.splitF ?_|refine X.sp (fun hc=>?_) (fun hc=>?_)|refine X.need _ _ _ hn1 ?_|refine X.ixa _ _ _ _ _ _ _ _ 1 rfl (by decide) ?_|fail)
  all_goals (refine hB ⟨2,by decide⟩ _ (by show 8 - 2 < 8 - 1; decide) ?_; clear hB; cbv <;> (and_intros <;> first|exact e1|exact e2|rfl|trivial))
 | 2,_ =>
  have c1:A.cmp .lss 2 8 = true:=by subst hA; rfl
  have e1:A.bin .add .i64 2 1 = 3:=by subst hA; rfl
  have e2:=hcell 2 (by decide)
  have hn1:=hneed 2 (by decide)
  clear hcell hneed
  repeat' (first|(refine X.g ?_; cbv)|refine X.splitT ?_|refine X.splitF ?_|refine X.sp (fun hc=>?_) (fun hc=>?_)|refine X.need _ _ _ hn1 ?_|refine X.ixa _ _ _ _ _ _ _ _ 2 rfl (by decide) ?_|fail)
  all_goals (refine hB ⟨3,by decide⟩ _ (by show 8 - 3 < 8 - 2; decide) ?_; clear hB; cbv <;> (and_intros <;> first|exact e1|exact e2|rfl|trivial))
 | 3,_ =>
  have c1:A.cmp .lss 3 8 = true:=by subst hA; rfl
  have e1:A.bin .add .i64 3 1 = 4:=by subst hA; rfl
  have e2:=hcell 3 (by decide)
  have hn1:=hneed 3 (by decide)
  clear hcell hneed
  repeat' (first|(refine X.g ?_; cbv)|refine X.splitT ?_|refine X.splitF ?_|refine X.sp (fun hc=>?_) (fun hc=>?_)|refine X.need _ _ _ hn1 ?_|refine X.ixa _ _ _ _ _ _ _ _ 3 rfl (by decide) ?_|fail)
  all_goals (refine hB ⟨4,by decide⟩ _ (by show 8 - 4 < 8 - 3; decide) ?_; clear hB; cbv <;> (and_intros <;> first|exact e1|exact e2|rfl|trivial))
 | 4,_ =>
  have c1:A.cmp .lss 4 8 = true:=by subst hA; rfl
  have e1:A.bin .add .i64 4 1 = 5:=by subst hA; rfl
  have e2:=hcell 4 (by decide)
  have hn1:=hneed 4 (by decide)
  clear hcell hneed
  repeat' (first|(refine X.g ?_; cbv)|refine X.splitT ?_|refine X.splitF ?_|refine X.sp (fun hc=>?_) (fun hc=>?_)|refine X.need _ _ _ hn1 ?_|refine X.ixa _ _ _ _ _ _ _ _ 4 rfl (by decide) ?_|fail)
  all_goals (refine hB ⟨5,by decide⟩ _ (by show 8 - 5 < 8 - 4; decide) ?_; clear hB; cbv <;> (and_intros <;> first|exact e1|exact e2|rfl|trivial))
 | 5,_ =>
  have c1:A.cmp .lss 5 8 = true:=by subst hA; rfl
  have e1:A.bin .add .i64 5 1 = 6:=by subst hA; rfl
  have e2:=hcell 5 (by decide)
  have hn1:=hneed 5 (by decide)
  clear hcell hneed
  repeat' (first|(refine X.g ?_; cbv)|refine X.splitT ?_|refine X.splitF ?_|refine X.sp (fun hc=>?_) (fun hc=>?_)|refine X.need _ _ _ hn1 ?_|refine X.ixa _ _ _ _ _ _ _ _ 5 rfl (by decide) ?_|fail)
  all_goals (refine hB ⟨6,by decide⟩ _ (by show 8 - 6 < 8 - 5; decide) ?_; clear hB; cbv <;> (and_intros <;> first|exact e1|exact e2|rfl|trivial))
 | 6,_ =>
  have c1:A.cmp .lss 6 8 = true:=by subst hA; rfl
  have e1:A.bin .add .i64 6 1 = 7:=by subst hA; rfl
  have e2:=hcell 6 (by decide)
  have hn1:=hneed 6 (by decide)
  clear hcell hneed
  repeat' (first|(refine X.g ?_; cbv)|refine X.splitT ?_|refine X.splitF ?_|refine X.sp (fun hc=>?_) (fun hc=>?_)|refine X.need _ _ _ hn1 ?_|refine X.ixa _ _ _ _ _ _ _ _ 6 rfl (by decide) ?_|fail)
  all_goals (refine hB ⟨7,by decide⟩ _ (by show 8 - 7 < 8 - 6; decide) ?_; clear hB; cbv <;> (and_intros <;> first|exact e1|exact e2|rfl|trivial))
 | 7,_ =>
  have c1:A.cmp .lss 7 8 = true:=by subst hA; rfl
  have e1:A.bin .add .i64 7 1 = 8:=by subst hA; rfl
  have e2:=hcell 7 (by decide)
  have hn1:=hneed 7 (by decide)
  clear hcell hneed
  repeat' (first|(refine X.g ?_; cbv)|refine X.splitT ?_|refine X.splitF ?_|refine X.sp (fun hc=>?_) (fun hc=>?_)|refine X.need _ _ _ hn1 ?_|refine X.ixa _ _ _ _ _ _ _ _ 7 rfl (by decide) ?_|fail)
  all_goals (refine hB ⟨8,by decide⟩ _ (by show 8 - 8 < 8 - 7; decide) ?_; clear hB; cbv <;> (and_intros <;> first|exact e1|exact e2|rfl|trivial))
 | n + 9,h=>omega
end Go.Proofs.YthadehkggddgoaaGreatDoor
end
section
set_option linter.unusedVariables false
set_option linter.unusedSimpArgs false
namespace Go.Proofs.YthadehkggddgoaaGreatDoor
open Go Go.Num
def wn (x:Nat):Nat:=((enc x).size + 3) / 4
def W:Nat:=256 ^ 4
theorem W_eq:W = 4294967296:=by decide
theorem wn_lt (x:Nat):x < W ^ wn x:=by
 have h:x < 256 ^ (enc x).size:=enc_size.1 (Nat.le_refl _)
 rw [W,← Nat.pow_mul]
 exact Nat.lt_of_lt_of_le h (Nat.pow_le_pow_right (by decide) (by unfold wn; omega))
theorem words_ok (a:ByteArray) (ha:a.size ≤ 2 ^ 40) (m:Nat) (hm:m = wn (bv a)) (es:List (List AE.AV)) (hes:es = wl (dg W m (bv a))) :
  AE.ACall Tryz.prog 159 [] [.v (.string a)] [.row 1000215 1 es] (.w 0 1 0 m):=by
 refine AE.ACall.of_walk (fn:=Tryz.f159) (c:=bodyOf Tryz.f159) tabOK Tryz.func159 rfl rfl mixed fun A hA X=>?_
 obtain ⟨x,hx⟩:∃ x,x = bv a:=⟨_,rfl⟩
 rw [← hx] at hm hes
 obtain ⟨t,ht⟩:∃ t,t = enc x:=⟨_,rfl⟩
 have h171:=trim_ok a t (by rw [ht,hx])
 obtain ⟨n,hn⟩:∃ n,n = t.size:=⟨_,rfl⟩
 have hnm:m = (n + 3) / 4:=by rw [hm,wn,← ht,← hn]
 have hn40:n ≤ 2 ^ 40:=by rw [hn,ht,hx]; exact Nat.le_trans (enc_size_bv a) ha
 have hm4:n ≤ 4 * m:=by omega
 have hsl:A.slen t = (n:Int):=by rw [slen hA,← hn]
 obtain ⟨z,hz⟩:∃ z:Int,z = (m:Int):=⟨_,rfl⟩
 have hq:A.bin .quo .i64 (A.bin .add .i64 (A.slen t) 3) 4 = z:=by
  rw [hsl,hz]; subst hA
  rw [show (3:Int) = ((3:Nat):Int) from rfl,add_i64 (by omega),show (4:Int) = ((4:Nat):Int) from rfl,quo_i64 (by omega),← hnm]
 have hmake:AE.MakeR (A.bin .quo .i64 (A.bin .add .i64 (A.slen t) 3) 4) (A.bin .quo .i64 (A.bin .add .i64 (A.slen t) 3) 4) 4:=by rw [hq,hz]; constructor <;> omega
 obtain ⟨e0,he0⟩:∃ e0,e0 = wl (dg W m (x % 256 ^ 0)):=⟨_,rfl⟩
 have hrep:A.lrep (A.bin .quo .i64 (A.bin .add .i64 (A.slen t) 3) 4) [.v (.int .u32 0)] = e0:=by
  rw [hq,hz,he0,Nat.pow_zero,Nat.mod_one,dg_zero,← wl_rep]; subst hA; rfl
 (repeat' (first|(refine X.g ?_; cbv)|refine X.splitT ?_|refine X.splitF ?_|refine X.sp (fun hc=>?_) (fun hc=>?_)|refine X.callsA [] h171 ?_|refine X.need _ _ _ hmake ?_|refine X.needT ?_))
 have hlen:m = (A.lrep (A.bin .quo .i64 (A.bin .add .i64 (A.slen t) 3) 4) [.v (.int .u32 0)]).length:=by rw [hrep,he0,wl_len,dg_len]
 refine X.loopG _ _ _ (X.fix 0 _ _ _ _ _ rfl (by decide) (X.asW 3 0 1 m _ _ _ rfl hlen ?_))
 (refine X.g ?_; cbv)
 refine X.carries (ι:={ p:Nat × Int × List (List AE.AV) // p.1 ≤ n ∧ p.2.1 = p.1 ∧ p.2.2 = wl (dg W m (x % 256 ^ p.1)) }) (fun p=>[(15,.v (.int .i64 p.1.2.1))]) (fun p=>[.row 1000215 1 p.1.2.2]) (fun p=>n - p.1.1) ⟨(0,0,e0),Nat.zero_le _,rfl,he0⟩ ?_ fun i B hB=>?_
 ·(cbv <;> (and_intros <;> first|exact hrep|rfl|trivial))
 obtain ⟨⟨i,j,ei⟩,hi,hj,hei⟩:=i
 simp only at hi hj hei ⊢
 by_cases h:i < n
 ·have c1:A.cmp .lss j (A.slen t) = true:=by rw [AE.c_lss hA,hsl,hj]; simp; exact h
  obtain ⟨hc1,hc2,hc3,hc4⟩:=dg_byte (s:=4) (by decide) (x:=x) (m:=m) (i:=i) (by omega)
  obtain ⟨c,hc⟩:∃ c,c = (x % 256 ^ i) / (256 ^ 4) ^ (i / 4) % 256 ^ 4:=⟨_,rfl⟩
  obtain ⟨b,hb⟩:∃ b,b = x / 256 ^ i % 256:=⟨_,rfl⟩
  rw [← hc] at hc1 hc2
  rw [← hc,← hb] at hc3 hc4
  obtain ⟨ci,hci⟩:∃ ci:Int,ci = (c:Int):=⟨_,rfl⟩
  obtain ⟨k,hk⟩:∃ k,k = i / 4:=⟨_,rfl⟩
  have hr4:i % 4 < 4:=Nat.mod_lt _ (by decide)
  rw [← hk] at hc1 hc4
  have hcell:ei[k]? = some [.v (.int .u32 ci)]:=by rw [hei,hci]; exact wl_get hc1
  have hkm:k < m:=by rw [hk]; omega
  have e4:A.bin .quo .i64 j 4 = (k:Int):=by rw [hj,hk]; subst hA; rw [show (4:Int) = ((4:Nat):Int) from rfl,quo_i64 (by omega)]
  have hkn:A.bin .sub .i64 (A.bin .sub .i64 (A.slen t) 1) j = ((n - 1 - i:Nat):Int):=by
   rw [hsl,hj]; subst hA; rw [show (1:Int) = ((1:Nat):Int) from rfl,sub_i64 (by omega) (by omega),sub_i64 (by omega) (by omega)]
  have hlt:n - 1 - i < t.data.toList.length:=by rw [size_data,← hn]; omega
  have hg:t.data.toList[n - 1 - i]? = some t.data.toList[n - 1 - i]:=List.getElem?_eq_getElem hlt
  have hsi:A.sidx t (A.bin .sub .i64 (A.bin .sub .i64 (A.slen t) 1) j) = (b:Int):=by
   rw [hkn]; subst hA
   show AE.bAt t _ = _
   rw [bAt_get hg]
   have:=val_digit t.data.toList i _ (by rw [size_data,← hn]; exact h) (by rw [size_data,← hn]; exact hg)
   rw [hb,← this]
   have:val t.data.toList = x:=by rw [ht]; exact bv_enc x
   rw [this]
  have hin:AE.InR (A.bin .sub .i64 (A.bin .sub .i64 (A.slen t) 1) j) (A.slen t):=by rw [hkn,hsl]; exact ⟨Int.natCast_nonneg _,Int.ofNat_lt.2 (by omega)⟩
  have hsh:A.bin .mul .i64 (A.bin .rem .i64 j 4) 8 = ((8 * (i % 4):Nat):Int):=by
   rw [hj]; subst hA; rw [show (4:Int) = ((4:Nat):Int) from rfl,rem_i64,show (8:Int) = ((8:Nat):Int) from rfl,mul_i64 (by omega),Nat.mul_comm]
  have hshn:0 ≤ A.bin .mul .i64 (A.bin .rem .i64 j 4) 8:=by rw [hsh]; exact Int.natCast_nonneg _
  obtain ⟨e', he'⟩:∃ e', e' = wl (dg W m (x % 256 ^ (i + 1))):=⟨_,rfl⟩
  obtain ⟨j', hj'⟩:∃ j' : Int,j' = ((i + 1:Nat):Int):=⟨_,rfl⟩
  have e1:A.bin .add .i64 j 1 = j' := by rw [hj,hj']; exact AE.addN hA (by omega)
  have hpw:(256:Nat) ^ (i % 4) = 2 ^ (8 * (i % 4)):=by rw [Nat.pow_mul]
  have hpw1:(256:Nat) ^ (i % 4 + 1) ≤ 2 ^ 32:=by
   have:(256:Nat) ^ (i % 4 + 1) ≤ 256 ^ 4:=Nat.pow_le_pow_right (by decide) (by omega)
   exact this
  have e2:A.lset ei k [.v (.int .u32 (A.bin .or .u32 ci (A.bin .shl .u32 (A.conv .u32 (A.sidx t (A.bin .sub .i64 (A.bin .sub .i64 (A.slen t) 1) j))) (A.bin .mul .i64 (A.bin .rem .i64 j 4) 8))))] = e' := by
   rw [hsi,hsh,he', hei,hci,W,← hc4]
   have hbl:b < 256:=by rw [hb]; exact Nat.mod_lt _ (by decide)
   subst hA
   rw [conv_nat (.inr (.inl rfl)),Nat.mod_eq_of_lt (show b < 2 ^ IntKind.bits .u32 by show b < 2 ^ 32; omega),shl_u32 (by omega) (by rw [← hpw]; omega),or_u32 (by rw [← hpw]; omega) (by rw [← hpw]; exact hc2),← hpw]
   exact wl_set _ _ _
  have hat:AE.AtR k ei:=⟨by rw [hei,wl_len,dg_len]; exact hkm⟩
  clear hc1 hc2 hc3 hc4
  repeat' (first|(refine X.g ?_; cbv)|refine X.splitT ?_|refine X.splitF ?_|refine X.sp (fun hc=>?_) (fun hc=>?_)|refine X.drawX _ _ _ (by kernel_rfl) ?_|refine X.need _ _ _ hin ?_|refine X.need _ _ _ hshn ?_|refine X.need _ _ _ hat ?_|refine X.need _ _ _ trivial ?_|refine X.idxw _ _ _ _ _ _ _ _ k k e4 hkm (Nat.zero_add k).symm ?_|refine X.ldq _ _ _ _ _ _ _ _ _ hcell ?_|refine X.stq _ _ _ _ _ _ _ _ _ _ hcell ?_|fail)
  all_goals (refine hB ⟨(i + 1,j', e'),h,hj', he'⟩ _ (by show n - (i + 1) < n - i; omega) ?_; clear hB; cbv <;> (and_intros <;> first|exact e1|exact e2|rfl|trivial))
 ·have c1:A.cmp .lss j (A.slen t) = false:=by rw [AE.c_lss hA,hsl,hj]; simp; omega
  have hin:i = n:=by omega
  have hee:ei = es:=by
   rw [hei,hes,hin]
   have:x < 256 ^ n:=by rw [hn,ht]; exact enc_size.1 (Nat.le_refl _)
   rw [Nat.mod_eq_of_lt this]
  clear hB
  (repeat' (first|(refine X.g ?_; cbv)|refine X.splitT ?_|refine X.splitF ?_|refine X.sp (fun hc=>?_) (fun hc=>?_)|refine X.needT ?_))
  all_goals (refine X.ret _ (X.done rfl ?_); cbv <;> (and_intros <;> first|exact hee|rfl|trivial))
end Go.Proofs.YthadehkggddgoaaGreatDoor
end
section
set_option linter.unusedVariables false
set_option linter.unusedSimpArgs false
namespace Go.Proofs.YthadehkggddgoaaGreatDoor
open Go Go.Num
def tx (n i x:Nat):List UInt8:=List.replicate (4 * (n - i)) 0 ++ be (4 * i) x
theorem tx_len {n i x:Nat} (h:i ≤ n):(tx n i x).length = 4 * n:=by simp [tx,be_len]; omega
theorem tx_step {n i x d:Nat} (h:i < n) (hx:x < W ^ i):((((tx n i x).set (4 * (n - 1 - i)) (UInt8.ofNat (d / 2 ^ 24 % 256))).set (4 * (n - 1 - i) + 1) (UInt8.ofNat (d / 2 ^ 16 % 256))).set (4 * (n - 1 - i) + 2) (UInt8.ofNat (d / 2 ^ 8 % 256))).set (4 * (n - 1 - i) + 3) (UInt8.ofNat (d % 256)) = tx n (i + 1) (x + d * W ^ i):=by
 have e1:tx n i x = List.replicate (4 * (n - 1 - i) + 4) 0 ++ be (4 * i) x:=by rw [tx]; congr 2; omega
 rw [e1,set4,tx,show n - (i + 1) = n - 1 - i by omega,show 4 * (i + 1) = 4 + 4 * i by omega,Nat.add_comm x]
 have hw:W ^ i = 256 ^ (4 * i):=by rw [W,← Nat.pow_mul]
 rw [hw,be_app 4 (4 * i) d x (by rw [← hw]; exact hx),be4]
theorem text_ok (L:List Nat) (hL:∀ d ∈ L,d < W) (lo n:Nat) (hlo:lo + n ≤ L.length) (hn:n ≤ 2 ^ 40) (r:ByteArray) (hr:r = enc (wv W ((L.drop lo).take n))) (es:List (List AE.AV)) (hes:es = wl L) :
  AE.ACall Tryz.prog 160 [.row 1000215 1 es] [.w 0 1 lo n] [.row 1000215 1 es] (.v (.string r)):=by
 refine AE.ACall.of_walk (fn:=Tryz.f160) (c:=bodyOf Tryz.f160) tabOK Tryz.func160 rfl rfl mixed fun A hA X=>?_
 have hz' : Int.ofNat n = (n:Int):=rfl
 obtain ⟨V,hV⟩:∃ V:Nat → Nat,∀ i,V i = wv W ((L.drop lo).take i):=⟨_,fun _=>rfl⟩
 have hVlt:∀ i,i ≤ n → V i < W ^ i:=fun i hi=>by
  rw [hV]
  have h1:=wv_lt (B:=W) (by decide) (l:=(L.drop lo).take i) (fun d hd=>hL d (List.mem_of_mem_drop (List.mem_of_mem_take hd)))
  rwa [List.length_take,List.length_drop,Nat.min_eq_left (by omega)] at h1
 obtain ⟨s,hs⟩:∃ s:ByteArray,s = ⟨(be (4 * n) (V n)).toArray⟩:=⟨_,rfl⟩
 have hbs:bv s = V n:=by
  rw [bv,hs]; simp only [List.toList_toArray]; rw [val_be]
  have:=hVlt n (Nat.le_refl _)
  rw [W,← Nat.pow_mul] at this
  exact Nat.mod_eq_of_lt this
 have h171:=trim_ok s r (by rw [hbs,hV]; exact hr)
 have h4n:A.bin .mul .i64 4 (Int.ofNat n) = ((4 * n:Nat):Int):=mulI hA rfl hz' (by omega)
 have hmake:AE.MakeR (A.bin .mul .i64 4 (Int.ofNat n)) (A.bin .mul .i64 4 (Int.ofNat n)) 1:=by rw [h4n]; constructor <;> omega
 obtain ⟨e0,he0⟩:∃ e0,e0 = bl (tx n 0 0):=⟨_,rfl⟩
 have hrep:A.lrep (A.bin .mul .i64 4 (Int.ofNat n)) [.v (.int .u8 0)] = e0:=by
  rw [h4n,he0,tx,Nat.mul_zero,be_zero,List.append_nil,Nat.sub_zero,← bl_rep]; subst hA; rfl
 (repeat' (first|(refine X.g ?_; cbv)|refine X.splitT ?_|refine X.splitF ?_|refine X.sp (fun hc=>?_) (fun hc=>?_)|refine X.need _ _ _ hmake ?_|refine X.needT ?_))
 refine X.carries (ι:={ p:Nat × Int × List (List AE.AV) // p.1 ≤ n ∧ p.2.1 = p.1 ∧ p.2.2 = bl (tx n p.1 (V p.1)) }) (fun p=>[(13,.v (.int .i64 p.1.2.1))]) (fun p=>[.row 1000215 1 es,.row 5 1 p.1.2.2]) (fun p=>n - p.1.1) ⟨(0,0,e0),Nat.zero_le _,rfl,by rw [he0,hV]; rfl⟩ ?_ fun i B hB=>?_
 ·(cbv <;> (and_intros <;> first|exact hrep|rfl|trivial))
 obtain ⟨⟨i,j,ei⟩,hi,hj,hei⟩:=i
 simp only at hi hj hei ⊢
 by_cases h:i < n
 ·have c1:A.cmp .lss j (Int.ofNat n) = true:=by rw [ltI hA hj hz']; simpa using h
  have hL2:lo + i < L.length:=by omega
  obtain ⟨d,hd⟩:∃ d,d = L[lo + i]:=⟨_,rfl⟩
  have hdW:d < W:=by rw [hd]; exact hL _ (List.getElem_mem _)
  obtain ⟨w,hw⟩:∃ w:Int,w = (d:Int):=⟨_,rfl⟩
  obtain ⟨li,hli⟩:∃ li,li = lo + i:=⟨_,rfl⟩
  have hcell:es[li]? = some [.v (.int .u32 w)]:=by rw [hes,hw,hli]; exact wl_get (by rw [hd]; exact List.getElem?_eq_getElem hL2)
  have hVs:V (i + 1) = V i + d * W ^ i:=by
   rw [hV,hV,List.take_add_one,List.getElem?_drop,List.getElem?_eq_getElem hL2,← hd]
   simp only [Option.toList]
   rw [wv_snoc,List.length_take,List.length_drop,Nat.min_eq_left (by omega)]
  obtain ⟨k,hk⟩:∃ k,k = 4 * (n - 1 - i):=⟨_,rfl⟩
  have hkz:A.bin .mul .i64 4 (A.bin .sub .i64 (A.bin .sub .i64 (Int.ofNat n) 1) j) = (k:Int):=by
   rw [hk]; exact mulI hA rfl (subI hA (subI hA hz' rfl (by omega) (by omega)) hj (by omega) (by omega)) (by omega)
  have hk1:A.bin .add .i64 (A.bin .mul .i64 4 (A.bin .sub .i64 (A.bin .sub .i64 (Int.ofNat n) 1) j)) 1 = ((k + 1:Nat):Int):=addI hA hkz rfl (by omega)
  have hk2:A.bin .add .i64 (A.bin .mul .i64 4 (A.bin .sub .i64 (A.bin .sub .i64 (Int.ofNat n) 1) j)) 2 = ((k + 2:Nat):Int):=addI hA hkz rfl (by omega)
  have hk3:A.bin .add .i64 (A.bin .mul .i64 4 (A.bin .sub .i64 (A.bin .sub .i64 (Int.ofNat n) 1) j)) 3 = ((k + 3:Nat):Int):=addI hA hkz rfl (by omega)
  obtain ⟨e', he'⟩:∃ e', e' = bl (tx n (i + 1) (V (i + 1))):=⟨_,rfl⟩
  obtain ⟨j', hj'⟩:∃ j' : Int,j' = ((i + 1:Nat):Int):=⟨_,rfl⟩
  have e1:A.bin .add .i64 j 1 = j' := by rw [hj,hj']; exact AE.addN hA (by omega)
  have hel:ei.length = 4 * n:=by rw [hei,bl_len,tx_len hi]
  have cv:∀ q:Nat,q ≤ 32 → A.conv .u8 (A.bin .shr .u32 w (q:Int)) = ((UInt8.ofNat (d / 2 ^ q % 256)).toNat:Int):=fun q hq=>by
   rw [cv8 hA (shrW hA hw rfl hq)]; simp
  have e24:A.conv .u8 (A.bin .shr .u32 w 24) = ((UInt8.ofNat (d / 2 ^ 24 % 256)).toNat:Int):=cv 24 (by decide)
  have e16:A.conv .u8 (A.bin .shr .u32 w 16) = ((UInt8.ofNat (d / 2 ^ 16 % 256)).toNat:Int):=cv 16 (by decide)
  have e8:A.conv .u8 (A.bin .shr .u32 w 8) = ((UInt8.ofNat (d / 2 ^ 8 % 256)).toNat:Int):=cv 8 (by decide)
  have e0:A.conv .u8 w = ((UInt8.ofNat (d % 256)).toNat:Int):=by rw [cv8 hA hw]; simp
  have hset:∀ (es:List (List AE.AV)) (i:Nat) (c:List AE.AV),A.lset es i c = es.set i c:=by subst hA; exact fun _ _ _=>rfl
  have hat:∀ (c1 c2 c3:List AE.AV),AE.AtR k ei ∧ AE.AtR (k + 1) (A.lset ei k c1) ∧ AE.AtR (k + 2) (A.lset (A.lset ei k c1) (k + 1) c2) ∧ AE.AtR (k + 3) (A.lset (A.lset (A.lset ei k c1) (k + 1) c2) (k + 2) c3):=fun c1 c2 c3=>by
   simp only [hset]
   exact ⟨⟨by omega⟩,⟨by rw [List.length_set]; omega⟩,⟨by rw [List.length_set,List.length_set]; omega⟩,⟨by rw [List.length_set,List.length_set,List.length_set]; omega⟩⟩
  have e2:A.lset (A.lset (A.lset (A.lset ei k [.v (.int .u8 (A.conv .u8 (A.bin .shr .u32 w 24)))]) (k + 1) [.v (.int .u8 (A.conv .u8 (A.bin .shr .u32 w 16)))]) (k + 2) [.v (.int .u8 (A.conv .u8 (A.bin .shr .u32 w 8)))]) (k + 3) [.v (.int .u8 (A.conv .u8 w))] = e' := by
   simp only [hset]
   rw [e24,e16,e8,e0,hei,bl_set,bl_set,bl_set,bl_set,he', hk,tx_step h (hVlt i hi),hVs]
  (repeat' (first|(refine X.g ?_; cbv)|refine X.splitT ?_|refine X.splitF ?_|refine X.sp (fun hc=>?_) (fun hc=>?_)|refine X.needT ?_))
  refine X.idxw _ _ _ _ _ _ _ _ i li hj h hli ?_
  (refine X.g ?_; cbv)
  refine X.ldq _ _ _ _ _ _ _ _ _ hcell ?_
  (repeat' (first|(refine X.g ?_; cbv)|refine X.splitT ?_|refine X.splitF ?_|refine X.sp (fun hc=>?_) (fun hc=>?_)|refine X.needT ?_))
  refine X.idxA k (hat [] [] []).1 hkz ?_
  (repeat' (first|(refine X.g ?_; cbv)|refine X.splitT ?_|refine X.splitF ?_|refine X.sp (fun hc=>?_) (fun hc=>?_)|refine X.needT ?_))
  refine X.need _ _ _ (hat [] [] []).1 ?_
  (repeat' (first|(refine X.g ?_; cbv)|refine X.splitT ?_|refine X.splitF ?_|refine X.sp (fun hc=>?_) (fun hc=>?_)|refine X.needT ?_))
  refine X.idxA (k + 1) (hat _ [] []).2.1 hk1 ?_
  (repeat' (first|(refine X.g ?_; cbv)|refine X.splitT ?_|refine X.splitF ?_|refine X.sp (fun hc=>?_) (fun hc=>?_)|refine X.needT ?_))
  refine X.need _ _ _ (hat _ [] []).2.1 ?_
  (repeat' (first|(refine X.g ?_; cbv)|refine X.splitT ?_|refine X.splitF ?_|refine X.sp (fun hc=>?_) (fun hc=>?_)|refine X.needT ?_))
  refine X.idxA (k + 2) (hat _ _ []).2.2.1 hk2 ?_
  (repeat' (first|(refine X.g ?_; cbv)|refine X.splitT ?_|refine X.splitF ?_|refine X.sp (fun hc=>?_) (fun hc=>?_)|refine X.needT ?_))
  refine X.need _ _ _ (hat _ _ []).2.2.1 ?_
  (repeat' (first|(refine X.g ?_; cbv)|refine X.splitT ?_|refine X.splitF ?_|refine X.sp (fun hc=>?_) (fun hc=>?_)|refine X.needT ?_))
  refine X.idxA (k + 3) (hat _ _ _).2.2.2 hk3 ?_
  (repeat' (first|(refine X.g ?_; cbv)|refine X.splitT ?_|refine X.splitF ?_|refine X.sp (fun hc=>?_) (fun hc=>?_)|refine X.needT ?_))
  refine X.need _ _ _ (hat _ _ _).2.2.2 ?_
  (repeat' (first|(refine X.g ?_; cbv)|refine X.splitT ?_|refine X.splitF ?_|refine X.sp (fun hc=>?_) (fun hc=>?_)|refine X.needT ?_))
  all_goals (refine hB ⟨(i + 1,j', e'),h,hj', he'⟩ _ (by show n - (i + 1) < n - i; omega) ?_; clear hB; cbv <;> (and_intros <;> first|exact e1|exact e2|rfl|trivial))
 ·have c1:A.cmp .lss j (Int.ofNat n) = false:=by rw [ltI hA hj hz']; simpa using h
  have hin:i = n:=by omega
  have hee:ei = AE.sbytes s:=by rw [hei,hin]; exact bl_sbytes (by rw [hs,tx,Nat.sub_self]; simp)
  clear hB
  (repeat' (first|(refine X.g ?_; cbv)|refine X.splitT ?_|refine X.splitF ?_|refine X.sp (fun hc=>?_) (fun hc=>?_)|refine X.needT ?_))
  refine X.str _ _ _ _ s hee ?_
  (repeat' (first|(refine X.g ?_; cbv)|refine X.splitT ?_|refine X.splitF ?_|refine X.sp (fun hc=>?_) (fun hc=>?_)|refine X.callsA [] h171 ?_|refine X.needT ?_))
  all_goals (refine X.ret _ (X.done rfl ?_); cbv <;> (and_intros <;> first|exact hes|rfl|trivial))
end Go.Proofs.YthadehkggddgoaaGreatDoor
end
section
set_option linter.unusedVariables false
set_option linter.unusedSimpArgs false
namespace Go.Proofs.YthadehkggddgoaaGreatDoor
open Go Go.Num
def cmpN (x y:Nat):Int:=if x < y then -1 else if y < x then 1 else 0
theorem enc_data (n:Nat):(enc n).data.toList = encL n:=rfl
theorem enc_len_lt {x y:Nat} (h:(enc x).size < (enc y).size):x < y:=by
 have:=len_of_val (a:=encL y) (b:=encL x) (encL_head y) (by rw [← enc_data,← enc_data,size_data,size_data]; exact h)
 rwa [val_encL,val_encL] at this
theorem cmp_ok (a b:ByteArray) (r:Int) (hr:r = cmpN (bv a) (bv b)):AE.ACall Tryz.prog 99 [] [.v (.string a),.v (.string b)] [] (.v (.int .i64 r)):=by
 refine AE.ACall.of_walk (fn:=Tryz.f99) (c:=bodyOf Tryz.f99) tabOK Tryz.func99 rfl rfl mixed fun A hA X=>?_
 obtain ⟨x,hx⟩:∃ x,x = bv a:=⟨_,rfl⟩
 obtain ⟨y,hy⟩:∃ y,y = bv b:=⟨_,rfl⟩
 rw [← hx,← hy] at hr
 obtain ⟨s,hs⟩:∃ s,s = enc x:=⟨_,rfl⟩
 obtain ⟨t,ht⟩:∃ t,t = enc y:=⟨_,rfl⟩
 have k1:=trim_ok a s (by rw [hs,hx])
 have k2:=trim_ok b t (by rw [ht,hy])
 obtain ⟨q,hq⟩:∃ q:Int,q = Lib.compareBytes s.data.toList t.data.toList:=⟨_,rfl⟩
 have k3:=compare_ok s t q hq
 have c1:A.cmp .lss (A.slen s) (A.slen t) = decide (s.size < t.size):=ltI hA (slen hA s) (slen hA t)
 have c2:A.cmp .gtr (A.slen s) (A.slen t) = decide (t.size < s.size):=gtI hA (slen hA s) (slen hA t)
 by_cases h1:s.size < t.size
 ·have c1' : A.cmp .lss (A.slen s) (A.slen t) = true:=by rw [c1]; simpa using h1
  have hv:r = -1:=by rw [hr,cmpN,if_pos (enc_len_lt (by rw [← hs,← ht]; exact h1))]
  (repeat' (first|(refine X.g ?_; cbv)|refine X.splitT ?_|refine X.splitF ?_|refine X.sp (fun hc=>?_) (fun hc=>?_)|refine X.callsA [] k1 ?_|refine X.callsA [] k2 ?_|refine X.needT ?_))
  all_goals (refine X.ret _ (X.done rfl ?_); cbv <;> (and_intros <;> first|exact hv.symm|rfl|trivial))
 ·have c1' : A.cmp .lss (A.slen s) (A.slen t) = false:=by rw [c1]; simpa using h1
  by_cases h2:t.size < s.size
  ·have c2' : A.cmp .gtr (A.slen s) (A.slen t) = true:=by rw [c2]; simpa using h2
   have h3:=enc_len_lt (x:=y) (y:=x) (by rw [← hs,← ht]; exact h2)
   have hv:r = 1:=by rw [hr,cmpN,if_neg (by omega),if_pos h3]
   (repeat' (first|(refine X.g ?_; cbv)|refine X.splitT ?_|refine X.splitF ?_|refine X.sp (fun hc=>?_) (fun hc=>?_)|refine X.callsA [] k1 ?_|refine X.callsA [] k2 ?_|refine X.needT ?_))
   all_goals (refine X.ret _ (X.done rfl ?_); cbv <;> (and_intros <;> first|exact hv.symm|rfl|trivial))
  ·have c2' : A.cmp .gtr (A.slen s) (A.slen t) = false:=by rw [c2]; simpa using h2
   have hv:q = r:=by
    rw [hq,hr,cmpN,compare_val (by rw [size_data,size_data]; omega)]
    have e1:val s.data.toList = x:=by rw [hs]; exact bv_enc x
    have e2:val t.data.toList = y:=by rw [ht]; exact bv_enc y
    rw [e1,e2]
   (repeat' (first|(refine X.g ?_; cbv)|refine X.splitT ?_|refine X.splitF ?_|refine X.sp (fun hc=>?_) (fun hc=>?_)|refine X.callsA [] k1 ?_|refine X.callsA [] k2 ?_|refine X.callsA [] k3 ?_|refine X.needT ?_))
   all_goals (refine X.ret _ (X.done rfl ?_); cbv <;> (and_intros <;> first|exact hv|rfl|trivial))
theorem natOf_ok (n:Int) (hn:n < 2 ^ 63) (r:ByteArray) (hr:r = enc n.toNat):AE.ACall Tryz.prog 162 [] [.v (.int .i64 n)] [] (.v (.string r)):=by
 refine AE.ACall.of_walk (fn:=Tryz.f162) (c:=bodyOf Tryz.f162) tabOK Tryz.func162 rfl rfl mixed fun A hA X=>?_
 by_cases h:n < 1
 ·have c1:A.cmp .lss n 1 = true:=by rw [AE.c_lss hA]; simpa using h
  have hv:(⟨⟨[]⟩⟩:ByteArray) = r:=by
   rw [hr,show n.toNat = 0 by omega,enc_zero]
  (repeat' (first|(refine X.g ?_; cbv)|refine X.splitT ?_|refine X.splitF ?_|refine X.sp (fun hc=>?_) (fun hc=>?_)|refine X.needT ?_))
  all_goals (refine X.ret _ (X.done rfl ?_); cbv <;> (and_intros <;> first|exact hv|rfl|trivial))
 ·have c1:A.cmp .lss n 1 = false:=by rw [AE.c_lss hA]; simpa using h
  have h2:A.conv .u64 n = (n.toNat:Int):=cv64 hA (by omega) (by omega)
  have k:=fromShort_ok n.toNat (by omega) (A.conv .u64 n) h2 r hr
  (repeat' (first|(refine X.g ?_; cbv)|refine X.splitT ?_|refine X.splitF ?_|refine X.sp (fun hc=>?_) (fun hc=>?_)|refine X.callsA [] k ?_|refine X.needT ?_))
  all_goals (refine X.ret _ (X.done rfl ?_); cbv <;> (and_intros <;> first|rfl|trivial))
end Go.Proofs.YthadehkggddgoaaGreatDoor
end
