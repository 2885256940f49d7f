/- Contract: nat.Div. -/
import Derived.Test.YthadehkggddgoaaGreatDoorZLong
set_option maxRecDepth 100000
set_option maxHeartbeats 0
set_option linter.unusedVariables false
set_option linter.unusedSimpArgs false
namespace Go.Proofs.YthadehkggddgoaaGreatDoor
open Go Go.Num
theorem wn_ge {y:Nat} (h:0 < y):1 ≤ wn y ∧ W ^ (wn y - 1) ≤ y:=by
 have h1:1 ≤ (enc y).size:=by
  apply Nat.le_of_not_lt; intro h2
  have:=(enc_size (n:=y) (k:=0)).1 (by omega)
  simp at this; omega
 have h2:1 ≤ wn y:=by unfold wn; omega
 refine ⟨h2,?_⟩
 apply Nat.le_of_not_lt; intro h3
 rw [W,← Nat.pow_mul] at h3
 have h4:=enc_size.2 h3
 unfold wn at h4; omega
theorem wn_mono2 {x y:Nat} (h:y ≤ x):wn y ≤ wn x:=by
 have h1:(enc y).size ≤ (enc x).size:=enc_size.2 (Nat.lt_of_le_of_lt h (enc_size.1 (Nat.le_refl _)))
 unfold wn; omega
theorem dg_take {B:Nat}:∀ {m n x:Nat},n ≤ m → (dg B m x).take n = dg B n x
 | _,0,_,_=>by simp [dg]
 | 0,n + 1,_,h=>by omega
 | m + 1,n + 1,x,h=>by rw [dg,dg,List.take_succ_cons,dg_take (by omega)]
theorem textW_ok (M n R:Nat) (hn:n ≤ M) (hR:R < W ^ n) (hn2:n ≤ 2 ^ 40) (r:ByteArray) (hr:r = enc R) (es:List (List AE.AV)) (hes:es = wl (dg W M R)) :
  AE.ACall Tryz.prog 160 [.row 1000215 1 es] [.w 0 1 0 n] [.row 1000215 1 es] (.v (.string r)) :=
 text_ok (dg W M R) (dg_all Wpos) 0 n (by rw [dg_len]; omega) hn2 r (by rw [hr,List.drop_zero,dg_take hn,wv_dg Wpos,Nat.mod_eq_of_lt hR]) es hes
theorem c_seql {A:AE.Ari} (hA:A = AE.std) (a b:ByteArray):A.scmp .eql a b = decide (a = b):=by
 subst hA
 show (a.toList == b.toList) = _
 by_cases h:a = b
 ·subst h; simp
 ·rw [decide_eq_false h,beq_eq_false_iff_ne]
  intro e
  exact h (ba_ext (by rw [← Lib.toList_data,← Lib.toList_data]; exact e))
theorem c_sneq {A:AE.Ari} (hA:A = AE.std) (a b:ByteArray):A.scmp .neq a b = !decide (a = b):=by
 have:=c_seql hA a b
 subst hA
 show (!(a.toList == b.toList)) = _
 rw [← this]; rfl
theorem one_step {B x y i d:Nat} (hB:0 < B) (hy:0 < y) (hyB:y < B) (hd:d = x / B ^ i % B) :
  let cur:=x / B ^ (i + 1) % y * B + d
  cur / y < B ∧ cur % y = x / B ^ i % y ∧ x / B ^ (i + 1) / y * B ^ (i + 1) + cur / y * B ^ i + x % B ^ i = x / B ^ i / y * B ^ i + x % B ^ i:=by
 intro cur
 have h2:x / B ^ i = x / B ^ (i + 1) * B + d:=by
  rw [hd,Nat.mul_comm]
  have:=Nat.div_add_mod (x / B ^ i) B
  rw [Nat.div_div_eq_div_mul,← Nat.pow_succ] at this
  exact this.symm
 have h3:=Nat.div_add_mod (x / B ^ (i + 1)) y
 have hdB:d < B:=by rw [hd]; exact Nat.mod_lt _ hB
 have h4:x / B ^ i = x / B ^ (i + 1) / y * B * y + cur:=by
  show _ = _ + (x / B ^ (i + 1) % y * B + d)
  rw [h2]
  conv=>lhs; rw [← h3]
  rw [Nat.add_mul,Nat.mul_comm y,Nat.mul_right_comm]; omega
 have hc:cur < y * B:=by
  have:=Nat.mul_le_mul_right B (show x / B ^ (i + 1) % y + 1 ≤ y from Nat.mod_lt _ hy)
  rw [Nat.add_mul,Nat.one_mul] at this
  show x / B ^ (i + 1) % y * B + d < y * B
  omega
 refine ⟨by rw [Nat.div_lt_iff_lt_mul hy,Nat.mul_comm]; exact hc,?_,?_⟩
 ·rw [h4,Nat.add_comm,Nat.add_mul_mod_self_right]
 ·rw [h4,Nat.add_comm _ cur,Nat.add_mul_div_right _ _ hy,Nat.add_mul,Nat.pow_succ,Nat.mul_assoc,Nat.mul_comm B,Nat.add_comm (cur / y * B ^ i)]
theorem div_ok (a b:ByteArray) (ha:a.size ≤ 2 ^ 38) (hb:b.size ≤ 2 ^ 38) (r1 r2:ByteArray) (e:Int) (h1:r1 = enc (bv a / bv b)) (h2:r2 = if bv b = 0 then ⟨⟨[]⟩⟩ else enc (bv a % bv b)) (he:e = if bv b = 0 then 12 else 0) :
  AE.ACall Tryz.prog 155 [] [.v (.string a),.v (.string b)] [] (.t [.v (.string r1),.v (.string r2),.v (.int .i64 e)]):=by
 refine AE.ACall.of_walk (fn:=Tryz.f155) (c:=bodyOf Tryz.f155) tabOK Tryz.func155 rfl rfl mixed fun A hA X=>?_
 obtain ⟨x,hx⟩:∃ x,x = bv a:=⟨_,rfl⟩
 obtain ⟨y,hy⟩:∃ y,y = bv b:=⟨_,rfl⟩
 rw [← hx,← hy] at h1
 rw [← hx,← hy] at h2
 rw [← hy] at he
 obtain ⟨s,hs⟩:∃ s,s = enc x:=⟨_,rfl⟩
 obtain ⟨t,ht⟩:∃ t,t = enc y:=⟨_,rfl⟩
 have k1:=trim_ok a s (by rw [hs,hx])
 have k2:=trim_ok b t (by rw [ht,hy])
 have vs:bv s = x:=by rw [hs,bv_enc]
 have vt:bv t = y:=by rw [ht,bv_enc]
 have zs:s.size ≤ 2 ^ 38:=by rw [hs,hx]; exact Nat.le_trans (enc_size_bv a) ha
 have zt:t.size ≤ 2 ^ 38:=by rw [ht,hy]; exact Nat.le_trans (enc_size_bv b) hb
 obtain ⟨em,hem⟩:∃ em:ByteArray,em = ⟨⟨[]⟩⟩:=⟨_,rfl⟩
 have hnil:A.scmp .eql t ⟨⟨[]⟩⟩ = decide (y = 0):=by
  rw [c_seql hA,← enc_zero,ht]
  by_cases h:y = 0
  ·rw [h]; simp
  ·rw [decide_eq_false h,decide_eq_false fun h2=>h (enc_inj h2)]
 by_cases hy0:y = 0
 ·have c1:A.scmp .eql t ⟨⟨[]⟩⟩ = true:=by rw [hnil,decide_eq_true hy0]
  rw [hy0,Nat.div_zero,enc_zero] at h1
  rw [if_pos hy0] at h2 he
  (repeat' (first|(refine X.g ?_; cbv)|refine X.splitT ?_|refine X.splitF ?_|refine X.sp (fun hc=>?_) (fun hc=>?_)|refine X.callsA [] k1 ?_|refine X.callsA [] k2 ?_|refine X.needT ?_))
  all_goals (refine X.ret _ (X.done rfl ?_); cbv <;> (and_intros <;> first|exact h1.symm|exact h2.symm|exact he.symm|rfl|trivial))
 have c1:A.scmp .eql t ⟨⟨[]⟩⟩ = false:=by rw [hnil,decide_eq_false hy0]
 rw [if_neg hy0] at h2 he
 have hyp:0 < y:=by omega
 by_cases hsm:s.size ≤ 8 ∧ t.size ≤ 8
 ·have c2:A.cmp .leq (A.slen s) 8 = true:=leT hA (slen hA s) (b:=8) rfl hsm.1
  have c3:A.cmp .leq (A.slen t) 8 = true:=leT hA (slen hA t) (b:=8) rfl hsm.2
  have hx8:x < 256 ^ 8:=enc_size.1 (by rw [← hs]; exact hsm.1)
  have hy8:y < 256 ^ 8:=enc_size.1 (by rw [← ht]; exact hsm.2)
  obtain ⟨zx,hzx⟩:∃ z:Int,z = (x:Int):=⟨_,rfl⟩
  obtain ⟨zy,hzy⟩:∃ z:Int,z = (y:Int):=⟨_,rfl⟩
  have k3:=short_ok s hsm.1 zx (by rw [hzx,vs])
  have k4:=short_ok t hsm.2 zy (by rw [hzy,vt])
  have hn0:¬ zy = 0:=by omega
  have hq1:x / y ≤ x:=Nat.div_le_self _ _
  have hq2:x % y < y:=Nat.mod_lt _ hyp
  have k5:=fromShort_ok (x / y) (by omega) (A.bin .quo .u64 zx zy) (quoU hA hzx hzy (by omega)) r1 h1
  have k6:=fromShort_ok (x % y) (by omega) (A.bin .rem .u64 zx zy) (remU hA hzx hzy) r2 h2
  (repeat' (first|(refine X.g ?_; cbv)|refine X.splitT ?_|refine X.splitF ?_|refine X.sp (fun hc=>?_) (fun hc=>?_)|refine X.callsA [] k1 ?_|refine X.callsA [] k2 ?_|refine X.callsA [] k3 ?_|refine X.callsA [] k4 ?_|refine X.callsA [] k5 ?_|refine X.callsA [] k6 ?_|refine X.need _ _ _ hn0 ?_|refine X.needT ?_))
  all_goals (refine X.ret _ (X.done rfl ?_); cbv <;> (and_intros <;> first|exact he.symm|rfl|trivial))
 obtain ⟨g,hg⟩:∃ g,g = cmpN x y:=⟨_,rfl⟩
 have kc:=cmp_ok s t g (by rw [hg,vs,vt])
 by_cases hlt:x < y
 ·have c4:A.cmp .lss g 0 = true:=by rw [AE.c_lss hA,hg,cmpN,if_pos hlt]; rfl
  rw [Nat.div_eq_of_lt hlt,enc_zero] at h1
  rw [Nat.mod_eq_of_lt hlt,← hs] at h2
  by_cases h8:s.size ≤ 8
  ·have c2:A.cmp .leq (A.slen s) 8 = true:=leT hA (slen hA s) (b:=8) rfl h8
   have c3:A.cmp .leq (A.slen t) 8 = false:=leF hA (slen hA t) (b:=8) rfl (by omega)
   (repeat' (first|(refine X.g ?_; cbv)|refine X.splitT ?_|refine X.splitF ?_|refine X.sp (fun hc=>?_) (fun hc=>?_)|refine X.callsA [] k1 ?_|refine X.callsA [] k2 ?_|refine X.callsA [] kc ?_|refine X.needT ?_))
   all_goals (refine X.ret _ (X.done rfl ?_); cbv <;> (and_intros <;> first|exact h1.symm|exact h2.symm|exact he.symm|rfl|trivial))
  ·have c2:A.cmp .leq (A.slen s) 8 = false:=leF hA (slen hA s) (b:=8) rfl (by omega)
   (repeat' (first|(refine X.g ?_; cbv)|refine X.splitT ?_|refine X.splitF ?_|refine X.sp (fun hc=>?_) (fun hc=>?_)|refine X.callsA [] k1 ?_|refine X.callsA [] k2 ?_|refine X.callsA [] kc ?_|refine X.needT ?_))
   all_goals (refine X.ret _ (X.done rfl ?_); cbv <;> (and_intros <;> first|exact h1.symm|exact h2.symm|exact he.symm|rfl|trivial))
 have c4:A.cmp .lss g 0 = false:=by
  rw [AE.c_lss hA,hg,cmpN,if_neg hlt]; split <;> rfl
 obtain ⟨m,hm⟩:∃ m,m = wn x:=⟨_,rfl⟩
 obtain ⟨n,hn⟩:∃ n,n = wn y:=⟨_,rfl⟩
 obtain ⟨ex,hex⟩:∃ ex,ex = wl (dg W m x):=⟨_,rfl⟩
 obtain ⟨ey,hey⟩:∃ ey,ey = wl (dg W n y):=⟨_,rfl⟩
 have hmb:m ≤ 2 ^ 38:=by have:=wn_le x; rw [← hs] at this; omega
 have hnb:n ≤ 2 ^ 38:=by have:=wn_le y; rw [← ht] at this; omega
 have hnm:n ≤ m:=by rw [hn,hm]; exact wn_mono2 (by omega)
 have k6:=words_ok s (by omega) m (by rw [vs]; exact hm) ex (by rw [hex,vs])
 have k7:=words_ok t (by omega) n (by rw [vt]; exact hn) ey (by rw [hey,vt])
 have hxm:x < W ^ m:=by rw [hm]; exact wn_lt x
 have hyn:y < W ^ n:=by rw [hn]; exact wn_lt y
 obtain ⟨hn1,hny⟩:=wn_ge hyp
 rw [← hn] at hn1 hny
 have hW:W = 4294967296:=W_eq
 have hqx:x / y ≤ x:=Nat.div_le_self _ _
 have hry:x % y < y:=Nat.mod_lt _ hyp
 have hbig:∀ p:Prop,(A.cmp .leq (A.slen s) 8 = true → A.cmp .leq (A.slen t) 8 = false → p) → (A.cmp .leq (A.slen s) 8 = false → p) → p:=fun p h3 h4=>by
  by_cases h8:s.size ≤ 8
  ·exact h3 (leT hA (slen hA s) (b:=8) rfl h8) (leF hA (slen hA t) (b:=8) rfl (by omega))
  ·exact h4 (leF hA (slen hA s) (b:=8) rfl (by omega))
 by_cases h1n:n = 1
 ·have c5:A.cmp .eql (Int.ofNat n) 1 = true:=eqT hA rfl (b:=1) rfl h1n
  have hyW:y < W:=by rw [h1n,Nat.pow_one] at hyn; exact hyn
  obtain ⟨zy,hzy⟩:∃ z:Int,z = (y:Int):=⟨_,rfl⟩
  have hcy:ey[0]? = some [.v (.int .u32 zy)]:=by
   rw [hey,hzy]; refine wl_get ?_
   rw [dg_get (by omega),Nat.pow_zero,Nat.div_one,Nat.mod_eq_of_lt hyW]
  have cy:A.conv .u64 zy = (y:Int):=cv64 hA hzy (by omega)
  have hdiv:¬ A.conv .u64 zy = 0:=by rw [cy]; omega
  obtain ⟨z0,hz0⟩:∃ z:Int,z = (m:Int) - 1:=⟨_,rfl⟩
  have hini:A.bin .sub .i64 (Int.ofNat m) 1 = z0:=by
   rw [hz0]; exact (subI hA (x:=Int.ofNat m) (a:=m) rfl (y:=1) (b:=1) rfl (by omega) (by omega)).trans (by omega)
  apply hbig
  ·intro c2 c3
   as_aux_lemma =>
   (repeat' (first|(refine X.g ?_; cbv)|refine X.splitT ?_|refine X.splitF ?_|refine X.sp (fun hc=>?_) (fun hc=>?_)|refine X.needT ?_|refine X.callsA [] k1 ?_|refine X.callsA [] k2 ?_|refine X.callsA [] kc ?_|refine X.callsA [] k6 ?_|refine X.callsA [] k7 ?_))
   refine X.carries (ι:={ p:Nat × Int × Int × List (List AE.AV) // p.1 ≤ m ∧ p.2.1 = (p.1:Int) - 1 ∧ p.2.2.1 = ((x / W ^ p.1 % y:Nat):Int) ∧ p.2.2.2 = wl (dg W m (x / W ^ p.1 / y * W ^ p.1 + x % W ^ p.1)) }) (fun p=>[(10,.v (.int .i64 p.1.2.1)),(9,.v (.int .u64 p.1.2.2.1))]) (fun p=>[.row 1000215 1 p.1.2.2.2,.row 1000215 1 ey]) (fun p=>p.1.1) ⟨(m,z0,0,ex),Nat.le_refl _,hz0,by rw [Nat.div_eq_of_lt hxm,Nat.zero_mod]; rfl,by rw [hex,Nat.div_eq_of_lt hxm,Nat.zero_div,Nat.zero_mul,Nat.zero_add,Nat.mod_eq_of_lt hxm]⟩ ?_ fun i B hB=>?_
   ·(cbv <;> (and_intros <;> first|exact hini|rfl|trivial))
   obtain ⟨⟨k,j,c,ei⟩,hk,hj,hc,hei⟩:=i
   simp only at hk hj hc hei
   cases k with
   | zero =>
    have c6:A.cmp .geq j 0 = false:=by rw [AE.c_geq hA,hj]; rfl
    have hee:ei = wl (dg W m (x / y)):=by rw [hei]; simp [Nat.mod_one]
    have hcc:c = ((x % y:Nat):Int):=by rw [hc]; simp
    have k9:=textD_ok m (x / y) (by omega) (by omega) r1 h1 ei hee
    have k10:=fromShort_ok (x % y) (by omega) c hcc r2 h2
    clear hB
    (repeat' (first|(refine X.g ?_; cbv)|refine X.splitT ?_|refine X.splitF ?_|refine X.sp (fun hc=>?_) (fun hc=>?_)|refine X.needT ?_|refine X.callsA [0] k9 ?_|refine X.callsA [] k10 ?_))
    all_goals (refine X.ret _ (X.done rfl ?_); cbv <;> (and_intros <;> first|exact he.symm|rfl|trivial))
   | succ i =>
    have hji:j = (i:Int):=by rw [hj]; omega
    have c6:A.cmp .geq j 0 = true:=geT hA hji (b:=0) rfl (by omega)
    obtain ⟨d,hd⟩:∃ d,d = x / W ^ i % W:=⟨_,rfl⟩
    have hdW:d < W:=by rw [hd]; exact Nat.mod_lt _ Wpos
    obtain ⟨w,hw⟩:∃ w:Int,w = (d:Int):=⟨_,rfl⟩
    obtain ⟨o1,o2,o3⟩:=one_step Wpos hyp hyW hd
    obtain ⟨rr,hrr⟩:∃ z,z = x / W ^ (i + 1) % y:=⟨_,rfl⟩
    rw [← hrr] at o1 o2 o3 hc
    obtain ⟨cur,hcur⟩:∃ z,z = rr * W + d:=⟨_,rfl⟩
    rw [← hcur] at o1 o2 o3
    have hrrW:rr < W:=by rw [hrr]; exact Nat.lt_trans (Nat.mod_lt _ hyp) hyW
    have hcur64:cur < 2 ^ 64:=by
     have h3:rr * W = rr * 4294967296:=by rw [hW]
     rw [hcur,h3]; omega
    have hx1:x / W ^ (i + 1) / y * W ^ (i + 1) + x % W ^ (i + 1) = x / W ^ (i + 1) / y * W ^ (i + 1) + d * W ^ i + x % W ^ i:=by rw [mod_succ,← hd]; omega
    have hlo:x % W ^ i < W ^ i:=Nat.mod_lt _ (Nat.pow_pos Wpos)
    have hset:=dg_set (B:=W) (m:=m) (i:=i) (c:=d) (d:=cur / y) (lo:=x % W ^ i) (hi:=x / W ^ (i + 1) / y) Wpos hdW o1 hlo (by omega)
    have hcell:ei[i]? = some [.v (.int .u32 w)]:=by
     rw [hei,hx1,hw]; refine wl_get ?_
     rw [dg_get (by omega)]
     congr 1
     have e1:x / W ^ (i + 1) / y * W ^ (i + 1) + d * W ^ i + x % W ^ i = x % W ^ i + (d + x / W ^ (i + 1) / y * W) * W ^ i:=by
      rw [Nat.add_mul,Nat.pow_succ,Nat.mul_comm (W ^ i) W,Nat.mul_assoc]; omega
     rw [e1,Nat.add_mul_div_right _ _ (Nat.pow_pos Wpos),Nat.div_eq_of_lt hlo,Nat.zero_add,Nat.add_mul_mod_self_right,Nat.mod_eq_of_lt hdW]
    have hat:AE.AtR i ei:=⟨by rw [hei,wl_len,dg_len]; omega⟩
    have m1:A.bin .or .u64 (A.bin .shl .u64 c 32) (A.conv .u64 w) = (cur:Int):=by
     have h3:A.bin .shl .u64 c 32 = ((rr * 2 ^ 32:Nat):Int):=shlU hA hc (y:=32) (b:=32) rfl (by decide) (by omega)
     have h4:rr * W = rr * 4294967296:=by rw [hW]
     rw [h3,cv64 hA hw (by omega),hcur,h4]; subst hA
     exact (or_u64' (k:=32) (by omega) (by omega)).trans (by rw [Nat.add_comm])
    have m2:A.bin .quo .u64 (A.bin .or .u64 (A.bin .shl .u64 c 32) (A.conv .u64 w)) (A.conv .u64 zy) = ((cur / y:Nat):Int):=quoU hA m1 cy hcur64
    obtain ⟨c', hc'⟩:∃ c' : Int,c' = ((x / W ^ i % y:Nat):Int):=⟨_,rfl⟩
    have m3:A.bin .rem .u64 (A.bin .or .u64 (A.bin .shl .u64 c 32) (A.conv .u64 w)) (A.conv .u64 zy) = c' := (remU hA m1 cy).trans (by rw [hc', o2])
    obtain ⟨e', he'⟩:∃ e', e' = wl (dg W m (x / W ^ i / y * W ^ i + x % W ^ i)):=⟨_,rfl⟩
    have m4:A.lset ei i [.v (.int .u32 (A.conv .u32 (A.bin .quo .u64 (A.bin .or .u64 (A.bin .shl .u64 c 32) (A.conv .u64 w)) (A.conv .u64 zy))))] = e' := by
     rw [cv32 hA m2,show cur / y % 2 ^ 32 = cur / y from Nat.mod_eq_of_lt (by omega),lsetE hA,hei,hx1,he', ← o3,← hset]
     exact wl_set _ _ _
    obtain ⟨j', hj'⟩:∃ j' : Int,j' = (i:Int) - 1:=⟨_,rfl⟩
    have f1:A.bin .sub .i64 j 1 = j' := (subIz hA hji (by omega)).trans hj'.symm
    (repeat' (first|(refine X.g ?_; cbv)|refine X.splitT ?_|refine X.splitF ?_|refine X.sp (fun hc=>?_) (fun hc=>?_)|refine X.needT ?_|refine X.drawX _ _ _ (by kernel_rfl) ?_|refine X.fork _ _ ?_ ?_|refine X.need _ _ _ hdiv ?_|refine X.need _ _ _ hat ?_|refine X.idxw _ _ _ _ _ _ _ _ i i hji (show i < m by omega) (Nat.zero_add i).symm ?_|refine X.idxw _ _ _ _ _ _ _ _ 0 0 rfl (show 0 < n by omega) rfl ?_|refine X.ldq _ _ _ _ _ _ _ _ _ hcell ?_|refine X.ldq _ _ _ _ _ _ _ _ _ hcy ?_))
    all_goals (refine hB ⟨(i,j', c', e'),by show i ≤ m; omega,hj', hc', he'⟩ _ (by show i < i + 1; omega) ?_; clear hB; cbv <;> (and_intros <;> first|exact f1|exact m3|exact m4|rfl|trivial))
  ·intro c2
   as_aux_lemma =>
   (repeat' (first|(refine X.g ?_; cbv)|refine X.splitT ?_|refine X.splitF ?_|refine X.sp (fun hc=>?_) (fun hc=>?_)|refine X.needT ?_|refine X.callsA [] k1 ?_|refine X.callsA [] k2 ?_|refine X.callsA [] kc ?_|refine X.callsA [] k6 ?_|refine X.callsA [] k7 ?_))
   refine X.carries (ι:={ p:Nat × Int × Int × List (List AE.AV) // p.1 ≤ m ∧ p.2.1 = (p.1:Int) - 1 ∧ p.2.2.1 = ((x / W ^ p.1 % y:Nat):Int) ∧ p.2.2.2 = wl (dg W m (x / W ^ p.1 / y * W ^ p.1 + x % W ^ p.1)) }) (fun p=>[(10,.v (.int .i64 p.1.2.1)),(9,.v (.int .u64 p.1.2.2.1))]) (fun p=>[.row 1000215 1 p.1.2.2.2,.row 1000215 1 ey]) (fun p=>p.1.1) ⟨(m,z0,0,ex),Nat.le_refl _,hz0,by rw [Nat.div_eq_of_lt hxm,Nat.zero_mod]; rfl,by rw [hex,Nat.div_eq_of_lt hxm,Nat.zero_div,Nat.zero_mul,Nat.zero_add,Nat.mod_eq_of_lt hxm]⟩ ?_ fun i B hB=>?_
   ·(cbv <;> (and_intros <;> first|exact hini|rfl|trivial))
   obtain ⟨⟨k,j,c,ei⟩,hk,hj,hc,hei⟩:=i
   simp only at hk hj hc hei
   cases k with
   | zero =>
    have c6:A.cmp .geq j 0 = false:=by rw [AE.c_geq hA,hj]; rfl
    have hee:ei = wl (dg W m (x / y)):=by rw [hei]; simp [Nat.mod_one]
    have hcc:c = ((x % y:Nat):Int):=by rw [hc]; simp
    have k9:=textD_ok m (x / y) (by omega) (by omega) r1 h1 ei hee
    have k10:=fromShort_ok (x % y) (by omega) c hcc r2 h2
    clear hB
    (repeat' (first|(refine X.g ?_; cbv)|refine X.splitT ?_|refine X.splitF ?_|refine X.sp (fun hc=>?_) (fun hc=>?_)|refine X.needT ?_|refine X.callsA [0] k9 ?_|refine X.callsA [] k10 ?_))
    all_goals (refine X.ret _ (X.done rfl ?_); cbv <;> (and_intros <;> first|exact he.symm|rfl|trivial))
   | succ i =>
    have hji:j = (i:Int):=by rw [hj]; omega
    have c6:A.cmp .geq j 0 = true:=geT hA hji (b:=0) rfl (by omega)
    obtain ⟨d,hd⟩:∃ d,d = x / W ^ i % W:=⟨_,rfl⟩
    have hdW:d < W:=by rw [hd]; exact Nat.mod_lt _ Wpos
    obtain ⟨w,hw⟩:∃ w:Int,w = (d:Int):=⟨_,rfl⟩
    obtain ⟨o1,o2,o3⟩:=one_step Wpos hyp hyW hd
    obtain ⟨rr,hrr⟩:∃ z,z = x / W ^ (i + 1) % y:=⟨_,rfl⟩
    rw [← hrr] at o1 o2 o3 hc
    obtain ⟨cur,hcur⟩:∃ z,z = rr * W + d:=⟨_,rfl⟩
    rw [← hcur] at o1 o2 o3
    have hrrW:rr < W:=by rw [hrr]; exact Nat.lt_trans (Nat.mod_lt _ hyp) hyW
    have hcur64:cur < 2 ^ 64:=by
     have h3:rr * W = rr * 4294967296:=by rw [hW]
     rw [hcur,h3]; omega
    have hx1:x / W ^ (i + 1) / y * W ^ (i + 1) + x % W ^ (i + 1) = x / W ^ (i + 1) / y * W ^ (i + 1) + d * W ^ i + x % W ^ i:=by rw [mod_succ,← hd]; omega
    have hlo:x % W ^ i < W ^ i:=Nat.mod_lt _ (Nat.pow_pos Wpos)
    have hset:=dg_set (B:=W) (m:=m) (i:=i) (c:=d) (d:=cur / y) (lo:=x % W ^ i) (hi:=x / W ^ (i + 1) / y) Wpos hdW o1 hlo (by omega)
    have hcell:ei[i]? = some [.v (.int .u32 w)]:=by
     rw [hei,hx1,hw]; refine wl_get ?_
     rw [dg_get (by omega)]
     congr 1
     have e1:x / W ^ (i + 1) / y * W ^ (i + 1) + d * W ^ i + x % W ^ i = x % W ^ i + (d + x / W ^ (i + 1) / y * W) * W ^ i:=by
      rw [Nat.add_mul,Nat.pow_succ,Nat.mul_comm (W ^ i) W,Nat.mul_assoc]; omega
     rw [e1,Nat.add_mul_div_right _ _ (Nat.pow_pos Wpos),Nat.div_eq_of_lt hlo,Nat.zero_add,Nat.add_mul_mod_self_right,Nat.mod_eq_of_lt hdW]
    have hat:AE.AtR i ei:=⟨by rw [hei,wl_len,dg_len]; omega⟩
    have m1:A.bin .or .u64 (A.bin .shl .u64 c 32) (A.conv .u64 w) = (cur:Int):=by
     have h3:A.bin .shl .u64 c 32 = ((rr * 2 ^ 32:Nat):Int):=shlU hA hc (y:=32) (b:=32) rfl (by decide) (by omega)
     have h4:rr * W = rr * 4294967296:=by rw [hW]
     rw [h3,cv64 hA hw (by omega),hcur,h4]; subst hA
     exact (or_u64' (k:=32) (by omega) (by omega)).trans (by rw [Nat.add_comm])
    have m2:A.bin .quo .u64 (A.bin .or .u64 (A.bin .shl .u64 c 32) (A.conv .u64 w)) (A.conv .u64 zy) = ((cur / y:Nat):Int):=quoU hA m1 cy hcur64
    obtain ⟨c', hc'⟩:∃ c' : Int,c' = ((x / W ^ i % y:Nat):Int):=⟨_,rfl⟩
    have m3:A.bin .rem .u64 (A.bin .or .u64 (A.bin .shl .u64 c 32) (A.conv .u64 w)) (A.conv .u64 zy) = c' := (remU hA m1 cy).trans (by rw [hc', o2])
    obtain ⟨e', he'⟩:∃ e', e' = wl (dg W m (x / W ^ i / y * W ^ i + x % W ^ i)):=⟨_,rfl⟩
    have m4:A.lset ei i [.v (.int .u32 (A.conv .u32 (A.bin .quo .u64 (A.bin .or .u64 (A.bin .shl .u64 c 32) (A.conv .u64 w)) (A.conv .u64 zy))))] = e' := by
     rw [cv32 hA m2,show cur / y % 2 ^ 32 = cur / y from Nat.mod_eq_of_lt (by omega),lsetE hA,hei,hx1,he', ← o3,← hset]
     exact wl_set _ _ _
    obtain ⟨j', hj'⟩:∃ j' : Int,j' = (i:Int) - 1:=⟨_,rfl⟩
    have f1:A.bin .sub .i64 j 1 = j' := (subIz hA hji (by omega)).trans hj'.symm
    (repeat' (first|(refine X.g ?_; cbv)|refine X.splitT ?_|refine X.splitF ?_|refine X.sp (fun hc=>?_) (fun hc=>?_)|refine X.needT ?_|refine X.drawX _ _ _ (by kernel_rfl) ?_|refine X.fork _ _ ?_ ?_|refine X.need _ _ _ hdiv ?_|refine X.need _ _ _ hat ?_|refine X.idxw _ _ _ _ _ _ _ _ i i hji (show i < m by omega) (Nat.zero_add i).symm ?_|refine X.idxw _ _ _ _ _ _ _ _ 0 0 rfl (show 0 < n by omega) rfl ?_|refine X.ldq _ _ _ _ _ _ _ _ _ hcell ?_|refine X.ldq _ _ _ _ _ _ _ _ _ hcy ?_))
    all_goals (refine hB ⟨(i,j', c', e'),by show i ≤ m; omega,hj', hc', he'⟩ _ (by show i < i + 1; omega) ?_; clear hB; cbv <;> (and_intros <;> first|exact f1|exact m3|exact m4|rfl|trivial))
 ·have c5:A.cmp .eql (Int.ofNat n) 1 = false:=eqF hA rfl (b:=1) rfl h1n
  obtain ⟨f,hf⟩:∃ f,n = f + 2:=⟨n - 2,by omega⟩
  obtain ⟨cnt,hcnt⟩:∃ c,c = m + 1 - n:=⟨_,rfl⟩
  obtain ⟨m1,hm1⟩:∃ c,c = m + 1:=⟨_,rfl⟩
  obtain ⟨n1,hn1'⟩:∃ c,c = n + 1:=⟨_,rfl⟩
  obtain ⟨er,her⟩:∃ ex,ex = wl (dg W m1 (x % y)):=⟨_,rfl⟩
  obtain ⟨eq,heq⟩:∃ ex,ex = wl (dg W cnt (x / y)):=⟨_,rfl⟩
  obtain ⟨ed,hed⟩:∃ ex,ex = wl (dg W n1 (y * 2 ^ (32 - Lib.bitLen (y / W ^ (f + 1))))):=⟨_,rfl⟩
  have hfy:W ^ (f + 1) ≤ y:=by rw [hf] at hny; exact hny
  have k8:=long_ok x y m n f cnt m1 n1 _ hf hyn hfy hxm hnm (by omega) hcnt hm1 hn1' rfl ex ey er eq ed hex hey her heq hed
  have hqc:x / y < W ^ cnt:=by
   rw [Nat.div_lt_iff_lt_mul hyp]
   refine Nat.lt_of_lt_of_le hxm ?_
   have:=Nat.mul_le_mul_left (W ^ cnt) hny
   rw [← Nat.pow_add,show cnt + (n - 1) = m by omega] at this
   exact this
  have k9:=textD_ok cnt (x / y) hqc (by omega) r1 h1 eq heq
  have k10:=textW_ok m1 n (x % y) (by omega) (by omega) (by omega) r2 h2 er her
  apply hbig
  ·intro c2 c3
   (repeat' (first|(refine X.g ?_; cbv)|refine X.splitT ?_|refine X.splitF ?_|refine X.sp (fun hc=>?_) (fun hc=>?_)|refine X.needT ?_|refine X.callsA [] k1 ?_|refine X.callsA [] k2 ?_|refine X.callsA [] kc ?_|refine X.callsA [] k6 ?_|refine X.callsA [] k7 ?_|refine X.callsA [0,1] k8 ?_|refine X.callsA [4] k9 ?_|refine X.callsA [2] k10 ?_))
   all_goals (refine X.ret _ (X.done rfl ?_); cbv <;> (and_intros <;> first|exact he.symm|rfl|trivial))
  ·intro c2
   (repeat' (first|(refine X.g ?_; cbv)|refine X.splitT ?_|refine X.splitF ?_|refine X.sp (fun hc=>?_) (fun hc=>?_)|refine X.needT ?_|refine X.callsA [] k1 ?_|refine X.callsA [] k2 ?_|refine X.callsA [] kc ?_|refine X.callsA [] k6 ?_|refine X.callsA [] k7 ?_|refine X.callsA [0,1] k8 ?_|refine X.callsA [4] k9 ?_|refine X.callsA [2] k10 ?_))
   all_goals (refine X.ret _ (X.done rfl ?_); cbv <;> (and_intros <;> first|exact he.symm|rfl|trivial))
end Go.Proofs.YthadehkggddgoaaGreatDoor
