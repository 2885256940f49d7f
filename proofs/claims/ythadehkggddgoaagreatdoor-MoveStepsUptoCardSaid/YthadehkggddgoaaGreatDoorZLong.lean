/- Contract: nat.long. -/
import Derived.Test.YthadehkggddgoaaGreatDoorZAway
import Derived.Test.YthadehkggddgoaaGreatDoorZLongL
set_option maxRecDepth 100000
set_option maxHeartbeats 0
set_option linter.unusedVariables false
set_option linter.unusedSimpArgs false
namespace Go.Proofs.YthadehkggddgoaaGreatDoor
open Go Go.Num
theorem subIz {A:AE.Ari} (hA:A = AE.std) {i:Nat} {j:Int} (hj:j = (i:Int)) (h:i < 2 ^ 62):A.bin .sub .i64 j 1 = (i:Int) - 1:=by
 subst hA; subst hj; rw [AE.std_sub] <;> omega
theorem subUn {A:AE.Ari} (hA:A = AE.std) {a b:Nat} {x y:Int} (hx:x = (a:Int)) (hy:y = (b:Int)) (h:b ≤ a) (ha:a < 2 ^ 64):A.bin .sub .u64 x y = ((a - b:Nat):Int):=by
 rw [subU hA hx hy]; omega
theorem long_ok (U V m n e cnt m1 n1 s:Nat) (hne:n = e + 2) (hV:V < W ^ n) (hV0:W ^ (e + 1) ≤ V) (hU:U < W ^ m) (hnm:n ≤ m) (hm:m ≤ 2 ^ 40) (hcnt:cnt = m + 1 - n) (hm1:m1 = m + 1) (hn1:n1 = n + 1)
  (hs:s = 32 - Lib.bitLen (V / W ^ (e + 1)))
  (eu ev er eq ed:List (List AE.AV)) (heu:eu = wl (dg W m U)) (hev:ev = wl (dg W n V)) (her:er = wl (dg W m1 (U % V))) (heq:eq = wl (dg W cnt (U / V))) (hed:ed = wl (dg W n1 (V * 2 ^ s))) :
  AE.ACall Tryz.prog 204 [.row 1000215 1 eu,.row 1000215 1 ev] [.w 0 1 0 m,.w 1 1 0 n] [.row 1000215 1 eu,.row 1000215 1 ev,.row 1000215 1 er,.row 1000215 1 ed,.row 1000215 1 eq] (.t [.w 4 1 0 cnt,.w 2 1 0 n]):=by
 refine AE.ACall.of_walk (fn:=Tryz.f204) (c:=bodyOf Tryz.f204) tabOK Tryz.func204 rfl rfl mixed fun A hA X=>?_
 have hW:W = 4294967296:=W_eq
 have hW2:W * W = 18446744073709551616:=by rw [hW]
 obtain ⟨vt,hvt⟩:∃ v,v = V / W ^ (e + 1):=⟨_,rfl⟩
 rw [← hvt] at hs
 have hP1:0 < W ^ (e + 1):=Nat.pow_pos Wpos
 have hvt0:0 < vt:=by rw [hvt]; exact Nat.div_pos hV0 hP1
 have hvtW:vt < W:=by rw [hvt,Nat.div_lt_iff_lt_mul hP1,Nat.mul_comm,← Nat.pow_succ]; rw [hne] at hV; exact hV
 obtain ⟨n1', n2', n3', n4'⟩:=norm32 hvt0 (by omega) hs
 obtain ⟨N1,N2⟩:=norm_row (b:=2 ^ 31) (V:=V) (e:=e) (s:=s) Wpos hvt n2' (by rw [hW]; exact n3')
 obtain ⟨zvt,hzvt⟩:∃ z:Int,z = (vt:Int):=⟨_,rfl⟩
 obtain ⟨zs,hzs⟩:∃ z:Int,z = (s:Int):=⟨_,rfl⟩
 have klz:=lz32_ok vt (by omega) zvt zs hzvt (by rw [hzs,n4'])
 obtain ⟨e1,he1⟩:∃ i,i = e + 1:=⟨_,rfl⟩
 have hcv:ev[e1]? = some [.v (.int .u32 zvt)]:=by
  rw [hev,he1,hzvt]; refine wl_get ?_
  rw [dg_get (by omega),← hvt,Nat.mod_eq_of_lt hvtW]
 have hz1:A.bin .sub .i64 (Int.ofNat n) 1 = (e1:Int):=by rw [he1]; have:=subI hA (x:=Int.ofNat n) (a:=n) rfl (y:=1) (b:=1) rfl (by omega) (by omega); rw [this]; congr 1; omega
 obtain ⟨er0,her0⟩:∃ x,x = wl (dg W m1 (U * 2 ^ s)):=⟨_,rfl⟩
 have kl1:=left_ok U m s m1 hU (by omega) hm hm1 zs hzs eu er0 heu her0
 have kl2:=left_ok V n s n1 hV (by omega) (by omega) hn1 zs hzs ev ed hev hed
 have hcutn:AE.CutsAt none (some (Int.ofNat n)) 0 n n1:=by constructor <;> simp <;> omega
 have hqz:A.bin .sub .i64 (Int.ofNat m1) (Int.ofNat n) = (cnt:Int):=by rw [hcnt,← hm1]; exact subI hA rfl rfl (by omega) (by omega)
 have hmake:AE.MakeR (A.bin .sub .i64 (Int.ofNat m1) (Int.ofNat n)) (A.bin .sub .i64 (Int.ofNat m1) (Int.ofNat n)) 4:=by rw [hqz]; constructor <;> omega
 obtain ⟨eq0,heq0⟩:∃ x,x = wl (dg W cnt 0):=⟨_,rfl⟩
 have hrep:A.lrep (A.bin .sub .i64 (Int.ofNat m1) (Int.ofNat n)) [.v (.int .u32 0)] = eq0:=by
  rw [hqz,heq0,dg_zero,← wl_rep]; subst hA; rfl
 (repeat' (first|(refine X.g ?_; cbv)|refine X.splitT ?_|refine X.splitF ?_|refine X.sp (fun hc=>?_) (fun hc=>?_)|refine X.needT ?_|refine X.idxw _ _ _ _ _ _ _ _ e1 e1 hz1 (show e1 < n by omega) (Nat.zero_add e1).symm ?_|refine X.ldq _ _ _ _ _ _ _ _ _ hcv ?_|refine X.callsA [] klz ?_|refine X.drawX _ _ _ (by kernel_rfl) ?_|refine X.callsA [0] kl1 ?_|refine X.callsA [1] kl2 ?_|refine X.cutw _ _ _ _ _ _ _ _ _ 0 n 0 hcutn rfl ?_|refine X.need _ _ _ hmake ?_))
 have hcz:1 ≤ cnt:=by omega
 have hlen:cnt = (A.lrep (A.bin .sub .i64 (Int.ofNat m1) (Int.ofNat n)) [.v (.int .u32 0)]).length:=by rw [hrep,heq0,wl_len,dg_len]
 obtain ⟨D,hD⟩:∃ D,D = V * 2 ^ s:=⟨_,rfl⟩
 rw [← hD] at hed N1 N2
 obtain ⟨X0,hX0⟩:∃ D,D = U * 2 ^ s:=⟨_,rfl⟩
 rw [← hX0] at her0
 have hbegin:X0 < D * W ^ cnt:=by
  rw [hX0,hcnt]
  exact lg_begin (b:=2 ^ 31) (by decide) (by omega) hnm hU (by rw [hW]) (by rw [show n - 1 = e + 1 by omega]; exact N1) (Nat.pow_le_pow_right (by decide) n1')
 have hD0:0 < D:=by have:0 < 2 ^ 31 * W ^ (e + 1):=Nat.mul_pos (by decide) hP1; omega
 obtain ⟨z0,hz0⟩:∃ z:Int,z = (cnt:Int) - 1:=⟨_,rfl⟩
 have hini:A.bin .sub .i64 (A.bin .sub .i64 (Int.ofNat m1) (Int.ofNat n)) 1 = z0:=by
  rw [hz0]; exact (subI hA hqz (y:=1) (b:=1) rfl (by omega) (by omega)).trans (by omega)
 have hini2:A.bin .sub .i64 (Int.ofNat cnt) 1 = z0:=by
  rw [hz0]; exact (subI hA (x:=Int.ofNat cnt) (a:=cnt) rfl (y:=1) (b:=1) rfl (by omega) (by omega)).trans (by omega)
 have hini3:A.bin .sub .i64 (A.llen (A.lrep (A.bin .sub .i64 (Int.ofNat m1) (Int.ofNat n)) [.v (.int .u32 0)])) 1 = z0:=by
  rw [llen hA,← hlen]; exact hini2
 refine X.loopG _ _ _ (X.fix 4 _ _ _ _ _ rfl (by decide) (X.asW 4 4 1 cnt _ _ _ rfl hlen ?_))
 (refine X.g ?_; cbv)
 refine X.carries (ι:={ p:Nat × Int × List (List AE.AV) × List (List AE.AV) // p.1 ≤ cnt ∧ p.2.1 = (p.1:Int) - 1 ∧ ∃ R Q:Nat,X0 = Q * D + R ∧ R < D * W ^ p.1 ∧ Q % W ^ p.1 = 0 ∧ p.2.2.1 = wl (dg W m1 R) ∧ p.2.2.2 = wl (dg W cnt Q) }) (fun p=>[(10,.v (.int .i64 p.1.2.1))]) (fun p=>[.row 1000215 1 eu,.row 1000215 1 ev,.row 1000215 1 p.1.2.2.1,.row 1000215 1 ed,.row 1000215 1 p.1.2.2.2]) (fun p=>p.1.1) ⟨(cnt,z0,er0,eq0),Nat.le_refl _,hz0,X0,0,by simp,hbegin,Nat.zero_mod _,her0,heq0⟩ ?_ fun i B hB=>?_
 ·(cbv <;> (and_intros <;> first|exact hini|exact hini2|exact hini3|exact hrep|rfl|trivial))
 obtain ⟨⟨k,j,eR,eQ⟩,hk,hj,R,Q,hX,hR,hQ,heR,heQ⟩:=i
 simp only at hk hj hX hR hQ heR heQ ⊢
 cases k with
 | zero =>
  as_aux_lemma =>
  have c1:A.cmp .geq j 0 = false:=by rw [AE.c_geq hA,hj]; rfl
  clear hB hini hini2 hini3 hrep hlen hmake hbegin
  rw [Nat.pow_zero,Nat.mul_one] at hR
  have h2s:0 < 2 ^ s:=Nat.two_pow_pos s
  have hQe:Q = U / V:=by
   have h1:X0 / D = Q:=by
    rw [hX,Nat.mul_comm,Nat.mul_add_div hD0,Nat.div_eq_of_lt hR,Nat.add_zero]
   rw [← h1,hX0,hD,Nat.mul_div_mul_right _ _ h2s]
  have hRe:R = U % V * 2 ^ s:=by
   have h1:X0 % D = R:=by
    rw [hX,Nat.mul_comm,Nat.mul_add_mod,Nat.mod_eq_of_lt hR]
   rw [← h1,hX0,hD,Nat.mul_mod_mul_right]
  have hRn:R < W ^ n:=by rw [hne]; omega
  have hRs:R / 2 ^ s = U % V:=by rw [hRe,Nat.mul_div_cancel _ h2s]
  have heq' : eQ = eq:=by rw [heQ,heq,hQe]
  have hcut:AE.CutsAt none (some (Int.ofNat n)) 0 n m1:=by
   constructor
   ·exact .inl ⟨rfl,rfl⟩
   ·exact .inr (by rw [Nat.zero_add]; rfl)
   ·omega
  have hzs0:0 ≤ zs:=by rw [hzs]; exact Int.natCast_nonneg _
  have h32s:A.bin .sub .i64 32 zs = ((32 - s:Nat):Int):=subI hA (x:=32) (a:=32) rfl hzs (by omega) (by decide)
  have h32n:0 ≤ A.bin .sub .i64 32 zs:=by rw [h32s]; exact Int.natCast_nonneg _
  have hE:W = 2 ^ (32 - s) * 2 ^ s:=by rw [← Nat.pow_add,Nat.sub_add_cancel (by omega),hW]
  (repeat' (first|(refine X.g ?_; cbv)|refine X.splitT ?_|refine X.splitF ?_|refine X.sp (fun hc=>?_) (fun hc=>?_)|refine X.needT ?_|refine X.cutw _ _ _ _ _ _ _ _ _ 0 n 0 hcut rfl ?_))
  refine X.carries (ι:={ p:Nat × Int × List (List AE.AV) // p.1 ≤ n ∧ p.2.1 = p.1 ∧ p.2.2 = wl (dg W m1 (R / W ^ p.1 * W ^ p.1 + R / 2 ^ s % W ^ p.1)) }) (fun p=>[(146,.v (.int .i64 p.1.2.1))]) (fun p=>[.row 1000215 1 eu,.row 1000215 1 ev,.row 1000215 1 p.1.2.2,.row 1000215 1 ed,.row 1000215 1 eQ]) (fun p=>n - p.1.1) ⟨(0,0,eR),Nat.zero_le _,rfl,by rw [heR]; simp [Nat.mod_one]⟩ ?_ fun i B hB=>?_
  ·(cbv <;> (and_intros <;> first|rfl|trivial))
  obtain ⟨⟨i,y,ei⟩,hi,hy,hei⟩:=i
  simp only at hi hy hei
  by_cases h:i < n
  ·have c2:A.cmp .lss y (Int.ofNat n) = true:=ltT hA hy rfl h
   obtain ⟨Xi,hXi⟩:∃ x,x = R / W ^ i * W ^ i + R / 2 ^ s % W ^ i:=⟨_,rfl⟩
   rw [← hXi] at hei
   obtain ⟨r1,r2,r3,r4⟩:=right_step (m:=m1) hE (Nat.two_pow_pos _) hXi (show i < m1 by omega)
   obtain ⟨r,hr⟩:∃ x,x = R / W ^ i % W:=⟨_,rfl⟩
   obtain ⟨t,ht⟩:∃ x,x = R / W ^ (i + 1) % W:=⟨_,rfl⟩
   rw [← hr] at r1 r2
   rw [← hr,← ht] at r3 r4
   have hrW:r < W:=by rw [hr]; exact Nat.mod_lt _ Wpos
   have htW:t < W:=by rw [ht]; exact Nat.mod_lt _ Wpos
   obtain ⟨w,hw⟩:∃ w:Int,w = (r:Int):=⟨_,rfl⟩
   obtain ⟨x,hx⟩:∃ w:Int,w = (t:Int):=⟨_,rfl⟩
   have hel:ei.length = m1:=by rw [hei,wl_len,dg_len]
   have hcr:ei[i]? = some [.v (.int .u32 w)]:=by rw [hei,hw,← r1]; exact wl_get (dg_get (by omega))
   have g1:A.bin .shr .u32 w zs = ((r / 2 ^ s:Nat):Int):=shrW hA hw hzs (by omega)
   have hat:AE.AtR i ei:=⟨by omega⟩
   obtain ⟨y', hy'⟩:∃ j' : Int,j' = ((i + 1:Nat):Int):=⟨_,rfl⟩
   have f1:A.bin .add .i64 y 1 = y' := by rw [hy,hy']; exact AE.addN hA (by omega)
   obtain ⟨k,hk⟩:∃ k,k = i + 1:=⟨_,rfl⟩
   have hkz:A.bin .add .i64 y 1 = (k:Int):=f1.trans (by rw [hy', hk])
   obtain ⟨e', he'⟩:∃ x,x = wl (dg W m1 (R / W ^ (i + 1) * W ^ (i + 1) + R / 2 ^ s % W ^ (i + 1))):=⟨_,rfl⟩
   by_cases hl:i + 1 < n
   ·as_aux_lemma =>
    have c3:A.cmp .lss (A.bin .add .i64 y 1) (Int.ofNat n) = true:=ltT hA hkz rfl (by omega)
    obtain ⟨ea,hea⟩:∃ x,x = A.lset ei i [.v (.int .u32 (A.bin .shr .u32 w zs))]:=⟨_,rfl⟩
    have hal:ea = wl ((dg W m1 Xi).set i (r / 2 ^ s)):=by rw [hea,g1,lsetE hA,hei]; exact wl_set _ _ _
    have hca:(A.lset ei i [.v (.int .u32 (A.bin .shr .u32 w zs))])[i]? = some [.v (.int .u32 (A.bin .shr .u32 w zs))]:=by
     rw [lsetE hA,List.getElem?_set_self (by omega)]
    have hct:(A.lset ei i [.v (.int .u32 (A.bin .shr .u32 w zs))])[k]? = some [.v (.int .u32 x)]:=by
     rw [lsetE hA,List.getElem?_set_ne (by omega),hei,hx]
     refine wl_get ?_
     rw [dg_get (by omega),hXi,ht,hk]
     congr 1
     have e1:R / W ^ i = R / W ^ (i + 1) * W + r:=by rw [hr]; exact two_digits.symm
     have hlow:r * W ^ i + R / 2 ^ s % W ^ i < W ^ (i + 1):=by
      have h1:=Nat.mod_lt (R / 2 ^ s) (show 0 < W ^ i from Nat.pow_pos Wpos)
      have h2:=Nat.mul_le_mul_right (W ^ i) (show r + 1 ≤ W from hrW)
      rw [Nat.add_mul,Nat.one_mul] at h2
      rw [Nat.pow_succ,Nat.mul_comm (W ^ i)]; omega
     rw [e1,Nat.add_mul,Nat.mul_assoc,Nat.mul_comm W,← Nat.pow_succ,Nat.add_assoc,Nat.add_comm,Nat.add_mul_div_right _ _ (Nat.pow_pos Wpos),Nat.div_eq_of_lt hlow,Nat.zero_add]
    have hat2:AE.AtR i (A.lset ei i [.v (.int .u32 (A.bin .shr .u32 w zs))]):=⟨by rw [lsetE hA,List.length_set]; omega⟩
    have hp32:2 ^ (32 - s) ≤ 2 ^ 32:=Nat.pow_le_pow_right (by decide) (by omega)
    have ht64:t * 2 ^ (32 - s) < 2 ^ 64:=by
     have:=Nat.mul_le_mul_left t hp32
     omega
    have g2:A.bin .shl .u64 (A.conv .u64 x) (A.bin .sub .i64 32 zs) = ((t * 2 ^ (32 - s):Nat):Int):=shlU hA (cv64 hA hx (by omega)) h32s (by omega) ht64
    have g3:A.conv .u32 (A.bin .shl .u64 (A.conv .u64 x) (A.bin .sub .i64 32 zs)) = ((t % 2 ^ s * 2 ^ (32 - s):Nat):Int):=by
     rw [cv32 hA g2]; congr 1
     have e1:2 ^ 32 = 2 ^ s * 2 ^ (32 - s):=by rw [← Nat.pow_add,show s + (32 - s) = 32 by omega]
     rw [e1,Nat.mul_mod_mul_right]
    have g4:A.bin .or .u32 (A.bin .shr .u32 w zs) (A.conv .u32 (A.bin .shl .u64 (A.conv .u64 x) (A.bin .sub .i64 32 zs))) = ((r / 2 ^ s + t % 2 ^ s * 2 ^ (32 - s):Nat):Int):=by
     rw [g1,g3]; subst hA
     exact or_u32 (by omega) r2
    have f2:A.lset (A.lset ei i [.v (.int .u32 (A.bin .shr .u32 w zs))]) i [.v (.int .u32 (A.bin .or .u32 (A.bin .shr .u32 w zs) (A.conv .u32 (A.bin .shl .u64 (A.conv .u64 x) (A.bin .sub .i64 32 zs)))))] = e' := by
     rw [g4,lsetE hA,lsetE hA,List.set_set,hei,he', ← r4]
     exact wl_set _ _ _
    (repeat' (first|(refine X.g ?_; cbv)|refine X.splitT ?_|refine X.splitF ?_|refine X.sp (fun hc=>?_) (fun hc=>?_)|refine X.needT ?_|refine X.drawX _ _ _ (by kernel_rfl) ?_|refine X.need _ _ _ hzs0 ?_|refine X.need _ _ _ h32n ?_|refine X.need _ _ _ hat ?_|refine X.need _ _ _ hat2 ?_|refine X.idxw _ _ _ _ _ _ _ _ i i hy h (Nat.zero_add i).symm ?_|refine X.idxw _ _ _ _ _ _ _ _ k k hkz (show k < m1 by omega) (Nat.zero_add k).symm ?_|refine X.ldq _ _ _ _ _ _ _ _ _ hcr ?_|refine X.ldq _ _ _ _ _ _ _ _ _ hca ?_|refine X.ldq _ _ _ _ _ _ _ _ _ hct ?_))
    all_goals (refine hB ⟨(i + 1,y', e'),h,hy', he'⟩ _ (by show n - (i + 1) < n - i; omega) ?_; clear hB; cbv <;> (and_intros <;> first|exact f1|exact f2|rfl|trivial))
   ·have c3:A.cmp .lss (A.bin .add .i64 y 1) (Int.ofNat n) = false:=ltF hA hkz rfl (by omega)
    have hin:i + 1 = n:=by omega
    have ht0:t = 0:=by rw [ht,hin,Nat.div_eq_of_lt hRn,Nat.zero_mod]
    have f2:A.lset ei i [.v (.int .u32 (A.bin .shr .u32 w zs))] = e' := by
     rw [ht0,Nat.zero_mod,Nat.zero_mul,Nat.add_zero] at r4
     rw [g1,lsetE hA,hei,he', ← r4]
     exact wl_set _ _ _
    (repeat' (first|(refine X.g ?_; cbv)|refine X.splitT ?_|refine X.splitF ?_|refine X.sp (fun hc=>?_) (fun hc=>?_)|refine X.needT ?_|refine X.need _ _ _ hzs0 ?_|refine X.need _ _ _ hat ?_|refine X.idxw _ _ _ _ _ _ _ _ i i hy h (Nat.zero_add i).symm ?_|refine X.ldq _ _ _ _ _ _ _ _ _ hcr ?_))
    all_goals (refine hB ⟨(i + 1,y', e'),h,hy', he'⟩ _ (by show n - (i + 1) < n - i; omega) ?_; clear hB; cbv <;> (and_intros <;> first|exact f1|exact f2|rfl|trivial))
  ·have c2:A.cmp .lss y (Int.ofNat n) = false:=ltF hA hy rfl h
   have hin:i = n:=by omega
   have hee:ei = er:=by
    rw [hei,her,hin,Nat.div_eq_of_lt hRn,Nat.zero_mul,Nat.zero_add,hRs,Nat.mod_eq_of_lt]
    exact Nat.lt_of_le_of_lt (Nat.le_of_lt (Nat.mod_lt _ (by omega))) hV
   clear hB
   (repeat' (first|(refine X.g ?_; cbv)|refine X.splitT ?_|refine X.splitF ?_|refine X.sp (fun hc=>?_) (fun hc=>?_)|refine X.needT ?_))
   all_goals (refine X.ret _ (X.done rfl ?_); cbv <;> (and_intros <;> first|exact hee|exact heq' | rfl|trivial))
 | succ i =>
  as_aux_lemma =>
  have hji:j = (i:Int):=by rw [hj]; omega
  have c1:A.cmp .geq j 0 = true:=geT hA hji (b:=0) rfl (by omega)
  obtain ⟨q,hq⟩:∃ q,q = R / (D * W ^ i):=⟨_,rfl⟩
  obtain ⟨v1,hv1⟩:∃ v,v = D / W ^ (e + 1):=⟨_,rfl⟩
  obtain ⟨v2,hv2⟩:∃ v,v = D / W ^ e % W:=⟨_,rfl⟩
  obtain ⟨top,htop⟩:∃ v,v = R / W ^ (i + e + 1):=⟨_,rfl⟩
  obtain ⟨u2,hu2⟩:∃ v,v = R / W ^ (i + e) % W:=⟨_,rfl⟩
  obtain ⟨u0,hu0⟩:∃ v,v = R / W ^ (i + n) % W:=⟨_,rfl⟩
  obtain ⟨u1,hu1⟩:∃ v,v = R / W ^ (i + e + 1) % W:=⟨_,rfl⟩
  have hBb:W = 2 * 2 ^ 31:=by rw [hW]
  have hb1:1 < W:=by omega
  obtain ⟨a1,a2,a3,a4⟩:=lg_v1 hBb hb1 N1 N2 hv1
  obtain ⟨b1,b2,b3⟩:=lg_top hBb hb1 N1 N2 hR hv1 htop
  obtain ⟨d1,d2⟩:=lg_first hBb hb1 N1 N2 hR hq hv1 htop
  obtain ⟨q1,q2,q3⟩:=lg_q hD0 Wpos hq hR
  have hRW:R < W ^ (i + n + 1):=by
   have h1:=Nat.mul_lt_mul_of_pos_right N2 (show 0 < W ^ (i + 1) from Nat.pow_pos Wpos)
   rw [← Nat.pow_add,show e + 2 + (i + 1) = i + n + 1 by omega] at h1
   omega
  have hu0W:u0 < W:=by rw [hu0]; exact Nat.mod_lt _ Wpos
  have hu1W:u1 < W:=by rw [hu1]; exact Nat.mod_lt _ Wpos
  have hu2W:u2 < W:=by rw [hu2]; exact Nat.mod_lt _ Wpos
  have hv2W:v2 < W:=by rw [hv2]; exact Nat.mod_lt _ Wpos
  have htd:top = u1 + u0 * 2 ^ 32:=by
   have h1:u0 = R / W ^ (i + e + 1 + 1):=by
    rw [hu0,show i + e + 1 + 1 = i + n by omega]
    exact Nat.mod_eq_of_lt (by rw [Nat.div_lt_iff_lt_mul (Nat.pow_pos Wpos),Nat.mul_comm,← Nat.pow_succ]; exact hRW)
   have h2:=two_digits (B:=W) (x:=R) (p:=i + e + 1)
   rw [htop,← h2,← h1,← hu1,hW]; omega
  have him:i + n + 1 ≤ m1:=by omega
  obtain ⟨w0,hw0⟩:∃ w:Int,w = (u0:Int):=⟨_,rfl⟩
  obtain ⟨w1,hw1⟩:∃ w:Int,w = (u1:Int):=⟨_,rfl⟩
  obtain ⟨w2,hw2⟩:∃ w:Int,w = (u2:Int):=⟨_,rfl⟩
  obtain ⟨y1,hy1⟩:∃ w:Int,w = (v1:Int):=⟨_,rfl⟩
  obtain ⟨y2,hy2⟩:∃ w:Int,w = (v2:Int):=⟨_,rfl⟩
  obtain ⟨p0,hp0⟩:∃ p,p = i + n:=⟨_,rfl⟩
  obtain ⟨p1,hp1⟩:∃ p,p = i + e + 1:=⟨_,rfl⟩
  obtain ⟨p2,hp2⟩:∃ p,p = i + e:=⟨_,rfl⟩
  have hcu0:eR[p0]? = some [.v (.int .u32 w0)]:=by rw [heR,hw0,hu0,← hp0]; exact wl_get (dg_get (by omega))
  have hcu1:eR[p1]? = some [.v (.int .u32 w1)]:=by rw [heR,hw1,hu1,← hp1]; exact wl_get (dg_get (by omega))
  have hcu2:eR[p2]? = some [.v (.int .u32 w2)]:=by rw [heR,hw2,hu2,← hp2]; exact wl_get (dg_get (by omega))
  have hcv1:ed[e1]? = some [.v (.int .u32 y1)]:=by
   rw [hed,hy1,he1]; refine wl_get ?_
   rw [dg_get (by omega),← hv1,Nat.mod_eq_of_lt a2]
  have hcv2:ed[e]? = some [.v (.int .u32 y2)]:=by rw [hed,hy2,hv2]; exact wl_get (dg_get (by omega))
  have zp0:A.bin .add .i64 j (Int.ofNat n) = (p0:Int):=by rw [hp0]; exact addI hA hji rfl (by omega)
  have zp1:A.bin .sub .i64 (A.bin .add .i64 j (Int.ofNat n)) 1 = (p1:Int):=(subI hA zp0 (y:=1) (b:=1) rfl (by omega) (by omega)).trans (by omega)
  have zp2:A.bin .sub .i64 (A.bin .add .i64 j (Int.ofNat n)) 2 = (p2:Int):=(subI hA zp0 (y:=2) (b:=2) rfl (by omega) (by omega)).trans (by omega)
  have ze2:A.bin .sub .i64 (Int.ofNat n) 2 = (e:Int):=(subI hA (x:=Int.ofNat n) (a:=n) rfl (y:=2) (b:=2) rfl (by omega) (by omega)).trans (by omega)
  obtain ⟨zt,hzt⟩:∃ w:Int,w = (top:Int):=⟨_,rfl⟩
  have hv10:0 < v1:=Nat.lt_of_lt_of_le (by decide) a1
  have cy1:A.conv .u64 y1 = (v1:Int):=cv64 hA hy1 (by omega)
  have hdiv:¬ A.conv .u64 y1 = 0:=by rw [cy1]; omega
  have htz:A.bin .or .u64 (A.bin .shl .u64 (A.conv .u64 w0) 32) (A.conv .u64 w1) = (top:Int):=by
   have h1:A.bin .shl .u64 (A.conv .u64 w0) 32 = ((u0 * 2 ^ 32:Nat):Int):=shlU hA (cv64 hA hw0 (by omega)) (y:=32) (b:=32) rfl (by decide) (by omega)
   rw [h1,cv64 hA hw1 (by omega),htd]; subst hA
   exact or_u64' (by omega) (by omega)
  obtain ⟨dd0,hdd0⟩:∃ z,z = top / v1:=⟨_,rfl⟩
  obtain ⟨rr0,hrr0⟩:∃ z,z = top % v1:=⟨_,rfl⟩
  have hdr0:top = dd0 * v1 + rr0:=by rw [hdd0,hrr0,Nat.mul_comm]; exact (Nat.div_add_mod top v1).symm
  have hrr0W:rr0 < W:=by rw [hrr0]; exact Nat.lt_trans (Nat.mod_lt _ hv10) a2
  rw [← hdd0] at d1 d2
  obtain ⟨zd0,hzd0⟩:∃ z:Int,z = (dd0:Int):=⟨_,rfl⟩
  obtain ⟨zr0,hzr0⟩:∃ z:Int,z = (rr0:Int):=⟨_,rfl⟩
  have htop64:top < 2 ^ 64:=by omega
  have hquo:A.bin .quo .u64 (A.bin .or .u64 (A.bin .shl .u64 (A.conv .u64 w0) 32) (A.conv .u64 w1)) (A.conv .u64 y1) = zd0:=(quoU hA htz cy1 htop64).trans (by rw [hzd0,hdd0])
  have hrem:A.bin .rem .u64 (A.bin .or .u64 (A.bin .shl .u64 (A.conv .u64 w0) 32) (A.conv .u64 w1)) (A.conv .u64 y1) = zr0:=(remU hA htz cy1).trans (by rw [hzr0,hrr0])
  (repeat' (first|(refine X.g ?_; cbv)|refine X.splitT ?_|refine X.splitF ?_|refine X.sp (fun hc=>?_) (fun hc=>?_)|refine X.needT ?_|refine X.drawX _ _ _ (by kernel_rfl) ?_|refine X.idxw _ _ _ _ _ _ _ _ p0 p0 zp0 (show p0 < m1 by omega) (Nat.zero_add p0).symm ?_|refine X.idxw _ _ _ _ _ _ _ _ p1 p1 zp1 (show p1 < m1 by omega) (Nat.zero_add p1).symm ?_|refine X.idxw _ _ _ _ _ _ _ _ e1 e1 hz1 (show e1 < n by omega) (Nat.zero_add e1).symm ?_|refine X.ldq _ _ _ _ _ _ _ _ _ hcu0 ?_|refine X.ldq _ _ _ _ _ _ _ _ _ hcu1 ?_|refine X.ldq _ _ _ _ _ _ _ _ _ hcv1 ?_|refine X.need _ _ _ hdiv ?_))
  refine X.joins (ι:={ p:Nat × Int // p.2 = p.1 ∧ p.1 < W ∧ q ≤ p.1 ∧ p.1 ≤ q + 1 }) (fun p=>[(12,.v (.int .u64 p.1.2))]) (fun p=>[.row 1000215 1 eu,.row 1000215 1 ev,.row 1000215 1 eR,.row 1000215 1 ed,.row 1000215 1 eQ]) ?_ fun C hC=>?_
  ·as_aux_lemma =>
   intro ⟨⟨d,zd⟩,hzd,hdW,hqd,hdq⟩
   simp only at hzd hdW hqd hdq
   obtain ⟨l1,l2⟩:=lg_left (U1:=0) hD0 Wpos (W ^ (i + n + 1)) hq hR (by
    have h1:=Nat.mul_le_mul_right (W ^ (i + 1)) (Nat.le_of_lt N2)
    rw [← Nat.pow_add,show e + 2 + (i + 1) = i + n + 1 by omega] at h1
    exact h1) hqd hdq
   obtain ⟨t1,t2,t3,t4⟩:=lg_quot (cnt:=cnt) Wpos hD0 hq hR hQ hX (by omega)
   obtain ⟨R', hR'⟩:∃ r,r = R % (D * W ^ i):=⟨_,rfl⟩
   obtain ⟨Q', hQ'⟩:∃ r,r = Q + q * W ^ i:=⟨_,rfl⟩
   rw [← hR'] at l1 l2 t3 t4
   rw [← hQ'] at t1 t2 t3
   obtain ⟨j', hj'⟩:∃ j' : Int,j' = (i:Int) - 1:=⟨_,rfl⟩
   have f1:A.bin .sub .i64 j 1 = j' := (subIz hA hji (by omega)).trans hj'.symm
   obtain ⟨eR', heR'⟩:∃ x,x = wl (dg W m1 R'):=⟨_,rfl⟩
   obtain ⟨eQ', heQ'⟩:∃ x,x = wl (dg W cnt Q'):=⟨_,rfl⟩
   have zq0:A.bin .add .i64 (A.bin .add .i64 j (Int.ofNat n)) 1 = ((i + n1:Nat):Int):=(addI hA zp0 (y:=1) (b:=1) rfl (by omega)).trans (by rw [hp0,hn1]; rfl)
   have hcut:AE.CutsAt (some j) (some (A.bin .add .i64 (A.bin .add .i64 j (Int.ofNat n)) 1)) i n1 m1:=by
    constructor
    ·exact .inr (by rw [hji])
    ·exact .inr (by rw [zq0])
    ·omega
   have hat:AE.AtR i eQ:=⟨by rw [heQ,wl_len,dg_len]; omega⟩
   have hst:∀ z:Int,z = (q:Int) → A.lset eQ i [.v (.int .u32 (A.conv .u32 z))] = eQ' := fun z hz=>by
    rw [cv32 hA hz,lsetE hA,heQ,heQ', show q % 2 ^ 32 = q from Nat.mod_eq_of_lt (by omega),← t1]
    exact wl_set _ _ _
   by_cases hb:R < d * D * W ^ i
   ·as_aux_lemma =>
    obtain ⟨g1,g2,g3⟩:=l2 hb
    obtain ⟨R1,hR1⟩:∃ r,r = R + (if true then W ^ (i + n + 1) else 0) - d * D * W ^ i:=⟨_,rfl⟩
    have hR1' : R1 = R + W ^ (i + n + 1) - d * D * W ^ i:=by rw [hR1]; rfl
    rw [← hR1'] at g2 g3
    obtain ⟨eR1,heR1⟩:∃ x,x = wl (dg W m1 R1):=⟨_,rfl⟩
    have kt:=takeAway_ok R D d i n n1 m1 n1 (by omega) hn1 hRW (by rw [hne]; exact N2) hdW him (by omega) zd hzd true (by rw [decide_eq_true hb]) R1 hR1 eR ed eR1 heR hed heR1
    have kp:=putBack_ok R1 D i n n1 m1 n1 (by omega) hn1 g3 (by rw [hne]; exact N2) him (by omega) R' g2.symm eR1 ed eR' heR1 hed heR'
    have hdq2:A.bin .sub .u64 zd 1 = (q:Int):=(subUn hA hzd (y:=1) (b:=1) rfl (by omega) (by omega)).trans (by rw [g1]; rfl)
    have f2:=hst _ hdq2
    (repeat' (first|(refine X.g ?_; cbv)|refine X.splitT ?_|refine X.splitF ?_|refine X.sp (fun hc=>?_) (fun hc=>?_)|refine X.needT ?_|refine X.cutw _ _ _ _ _ _ _ _ _ i n1 i hcut (Nat.zero_add i).symm ?_|refine X.callsA [2,3] kt ?_|refine X.callsA [2,3] kp ?_|refine X.need _ _ _ hat ?_|refine X.idxw _ _ _ _ _ _ _ _ i i hji (show i < cnt by omega) (Nat.zero_add i).symm ?_))
    all_goals (refine hB ⟨(i,j', eR', eQ'),by show i ≤ cnt; omega,hj', R', Q', t3,t4,t2,heR', heQ'⟩ _ (by show i < i + 1; omega) ?_; clear hB; cbv <;> (and_intros <;> first|exact f1|exact f2|rfl|trivial))
   ·as_aux_lemma =>
    obtain ⟨g1,g2⟩:=l1 hb
    have hR1:R' = R + (if false then W ^ (i + n + 1) else 0) - d * D * W ^ i:=by rw [← g2]; rfl
    have kt:=takeAway_ok R D d i n n1 m1 n1 (by omega) hn1 hRW (by rw [hne]; exact N2) hdW him (by omega) zd hzd false (by rw [decide_eq_false hb]) R' hR1 eR ed eR' heR hed heR'
    have f2:=hst zd (by rw [hzd,g1])
    (repeat' (first|(refine X.g ?_; cbv)|refine X.splitT ?_|refine X.splitF ?_|refine X.sp (fun hc=>?_) (fun hc=>?_)|refine X.needT ?_|refine X.cutw _ _ _ _ _ _ _ _ _ i n1 i hcut (Nat.zero_add i).symm ?_|refine X.callsA [2,3] kt ?_|refine X.need _ _ _ hat ?_|refine X.idxw _ _ _ _ _ _ _ _ i i hji (show i < cnt by omega) (Nat.zero_add i).symm ?_))
    all_goals (refine hB ⟨(i,j', eR', eQ'),by show i ≤ cnt; omega,hj', R', Q', t3,t4,t2,heR', heQ'⟩ _ (by show i < i + 1; omega) ?_; clear hB; cbv <;> (and_intros <;> first|exact f1|exact f2|rfl|trivial))
  ·as_aux_lemma =>
   clear hB
   refine X.carries (ι:={ p:Nat × Nat × Int × Int // p.2.2.1 = p.1 ∧ p.2.2.2 = p.2.1 ∧ top = p.1 * v1 + p.2.1 ∧ q ≤ p.1 ∧ p.1 ≤ W + 1 ∧ p.2.1 < W }) (fun p=>[(12,.v (.int .u64 p.1.2.2.1)),(13,.v (.int .u64 p.1.2.2.2))]) (fun p=>[.row 1000215 1 eu,.row 1000215 1 ev,.row 1000215 1 eR,.row 1000215 1 ed,.row 1000215 1 eQ]) (fun p=>p.1.1) ⟨(dd0,rr0,zd0,zr0),hzd0,hzr0,hdr0,d1,d2,hrr0W⟩ ?_ fun k B hB=>?_
   ·clear hC
    (cbv <;> (and_intros <;> first|exact hquo|exact hrem|rfl|trivial))
   obtain ⟨⟨d,r,zd,zr⟩,hzd,hzr,htd2,hqd,hdW,hrW⟩:=k
   simp only at hzd hzr htd2 hqd hdW hrW
   have hd64:d < 2 ^ 64:=by omega
   have s1:A.bin .shr .u64 zd 32 = ((d / 2 ^ 32:Nat):Int):=shrU hA hzd (y:=32) (b:=32) rfl (by decide)
   have hdv:d * v2 < 2 ^ 64:=by
    have h1:d * v2 ≤ (W + 1) * (W - 1):=Nat.mul_le_mul hdW (by omega)
    have h2:(W + 1) * (W - 1) < 2 ^ 64:=by rw [hW]; decide
    omega
   have s2:A.bin .mul .u64 zd (A.conv .u64 y2) = ((d * v2:Nat):Int):=mulU hA hzd (cv64 hA hy2 (by omega)) hdv
   have s3:A.bin .or .u64 (A.bin .shl .u64 zr 32) (A.conv .u64 w2) = ((u2 + r * 2 ^ 32:Nat):Int):=by
    have h1:A.bin .shl .u64 zr 32 = ((r * 2 ^ 32:Nat):Int):=shlU hA hzr (y:=32) (b:=32) rfl (by decide) (by omega)
    rw [h1,cv64 hA hw2 (by omega)]; subst hA
    exact or_u64' (by omega) (by omega)
   have hrWe:r * W = r * 4294967296:=by rw [hW]
   by_cases ht:W ≤ d ∨ r * 4294967296 + u2 < d * v2
   ·obtain ⟨d', hd'⟩:∃ d', d' = d - 1:=⟨_,rfl⟩
    obtain ⟨r', hr'⟩:∃ r', r' = r + v1:=⟨_,rfl⟩
    obtain ⟨zd', hzd'⟩:∃ z:Int,z = (d' : Int):=⟨_,rfl⟩
    obtain ⟨zr', hzr'⟩:∃ z:Int,z = (r' : Int):=⟨_,rfl⟩
    have hqd' : q + 1 ≤ d:=lg_down hBb hb1 N1 N2 hR hq hv1 hv2 htop hu2 htd2 hqd (by rw [hrWe]; exact ht)
    have htd3:top = d' * v1 + r' := by
     have:d = d' + 1:=by omega
     rw [htd2,this,hr', Nat.add_mul,Nat.one_mul]; omega
    have f1:A.bin .sub .u64 zd 1 = zd' := (subUn hA hzd (y:=1) (b:=1) rfl (by omega) hd64).trans (by rw [hzd', hd'])
    have f2:A.bin .add .u64 zr (A.conv .u64 y1) = zr' := (addU hA hzr cy1 (by omega)).trans (by rw [hzr', hr'])
    have s4:A.bin .shr .u64 (A.bin .add .u64 zr (A.conv .u64 y1)) 32 = ((r' / 2 ^ 32:Nat):Int):=shrU hA (f2.trans hzr') (y:=32) (b:=32) rfl (by decide)
    by_cases hr2:W ≤ r'
    ·as_aux_lemma =>
     clear hB
     have c4:A.cmp .gtr (A.bin .shr .u64 (A.bin .add .u64 zr (A.conv .u64 y1)) 32) 0 = true:=gtT hA s4 (b:=0) rfl (by omega)
     have g1:d' < W:=lg_rest b1 htd3 hr2
     have g2:d' ≤ q + 1:=lg_up hBb hb1 N1 N2 hR hq hv1 hv2 htop hu2 htd3 g1 (.inl hr2)
     by_cases hdw:W ≤ d
     ·have c2:A.cmp .gtr (A.bin .shr .u64 zd 32) 0 = true:=gtT hA s1 (b:=0) rfl (by omega)
      (repeat' (first|(refine X.g ?_; cbv)|refine X.splitT ?_|refine X.splitF ?_|refine X.sp (fun hc=>?_) (fun hc=>?_)|refine X.needT ?_|refine X.drawX _ _ _ (by kernel_rfl) ?_|refine X.idxw _ _ _ _ _ _ _ _ p2 p2 zp2 (show p2 < m1 by omega) (Nat.zero_add p2).symm ?_|refine X.idxw _ _ _ _ _ _ _ _ e1 e1 hz1 (show e1 < n by omega) (Nat.zero_add e1).symm ?_|refine X.idxw _ _ _ _ _ _ _ _ e e ze2 (show e < n by omega) (Nat.zero_add e).symm ?_|refine X.ldq _ _ _ _ _ _ _ _ _ hcu2 ?_|refine X.ldq _ _ _ _ _ _ _ _ _ hcv1 ?_|refine X.ldq _ _ _ _ _ _ _ _ _ hcv2 ?_))
      all_goals (refine hC ⟨(d', zd'),hzd', g1,by show q ≤ d'; omega,g2⟩ _ ?_; clear hC; cbv <;> (and_intros <;> first|exact f1|exact f2|rfl|trivial))
     ·have c2:A.cmp .gtr (A.bin .shr .u64 zd 32) 0 = false:=gtF hA s1 (b:=0) rfl (by omega)
      have c3:A.cmp .gtr (A.bin .mul .u64 zd (A.conv .u64 y2)) (A.bin .or .u64 (A.bin .shl .u64 zr 32) (A.conv .u64 w2)) = true:=gtT hA s2 s3 (by rcases ht with ht|ht <;> omega)
      (repeat' (first|(refine X.g ?_; cbv)|refine X.splitT ?_|refine X.splitF ?_|refine X.sp (fun hc=>?_) (fun hc=>?_)|refine X.needT ?_|refine X.drawX _ _ _ (by kernel_rfl) ?_|refine X.idxw _ _ _ _ _ _ _ _ p2 p2 zp2 (show p2 < m1 by omega) (Nat.zero_add p2).symm ?_|refine X.idxw _ _ _ _ _ _ _ _ e1 e1 hz1 (show e1 < n by omega) (Nat.zero_add e1).symm ?_|refine X.idxw _ _ _ _ _ _ _ _ e e ze2 (show e < n by omega) (Nat.zero_add e).symm ?_|refine X.ldq _ _ _ _ _ _ _ _ _ hcu2 ?_|refine X.ldq _ _ _ _ _ _ _ _ _ hcv1 ?_|refine X.ldq _ _ _ _ _ _ _ _ _ hcv2 ?_))
      all_goals (refine hC ⟨(d', zd'),hzd', g1,by show q ≤ d'; omega,g2⟩ _ ?_; clear hC; cbv <;> (and_intros <;> first|exact f1|exact f2|rfl|trivial))
    ·as_aux_lemma =>
     clear hC
     have c4:A.cmp .gtr (A.bin .shr .u64 (A.bin .add .u64 zr (A.conv .u64 y1)) 32) 0 = false:=gtF hA s4 (b:=0) rfl (by omega)
     by_cases hdw:W ≤ d
     ·have c2:A.cmp .gtr (A.bin .shr .u64 zd 32) 0 = true:=gtT hA s1 (b:=0) rfl (by omega)
      (repeat' (first|(refine X.g ?_; cbv)|refine X.splitT ?_|refine X.splitF ?_|refine X.sp (fun hc=>?_) (fun hc=>?_)|refine X.needT ?_|refine X.drawX _ _ _ (by kernel_rfl) ?_|refine X.idxw _ _ _ _ _ _ _ _ p2 p2 zp2 (show p2 < m1 by omega) (Nat.zero_add p2).symm ?_|refine X.idxw _ _ _ _ _ _ _ _ e1 e1 hz1 (show e1 < n by omega) (Nat.zero_add e1).symm ?_|refine X.idxw _ _ _ _ _ _ _ _ e e ze2 (show e < n by omega) (Nat.zero_add e).symm ?_|refine X.ldq _ _ _ _ _ _ _ _ _ hcu2 ?_|refine X.ldq _ _ _ _ _ _ _ _ _ hcv1 ?_|refine X.ldq _ _ _ _ _ _ _ _ _ hcv2 ?_))
      all_goals (refine hB ⟨(d', r', zd', zr'),hzd', hzr', htd3,by show q ≤ d'; omega,by show d' ≤ W + 1; omega,by show r' < W; omega⟩ _ (by show d' < d; omega) ?_; clear hB; cbv <;> (and_intros <;> first|exact f1|exact f2|rfl|trivial))
     ·have c2:A.cmp .gtr (A.bin .shr .u64 zd 32) 0 = false:=gtF hA s1 (b:=0) rfl (by omega)
      have c3:A.cmp .gtr (A.bin .mul .u64 zd (A.conv .u64 y2)) (A.bin .or .u64 (A.bin .shl .u64 zr 32) (A.conv .u64 w2)) = true:=gtT hA s2 s3 (by rcases ht with ht|ht <;> omega)
      (repeat' (first|(refine X.g ?_; cbv)|refine X.splitT ?_|refine X.splitF ?_|refine X.sp (fun hc=>?_) (fun hc=>?_)|refine X.needT ?_|refine X.drawX _ _ _ (by kernel_rfl) ?_|refine X.idxw _ _ _ _ _ _ _ _ p2 p2 zp2 (show p2 < m1 by omega) (Nat.zero_add p2).symm ?_|refine X.idxw _ _ _ _ _ _ _ _ e1 e1 hz1 (show e1 < n by omega) (Nat.zero_add e1).symm ?_|refine X.idxw _ _ _ _ _ _ _ _ e e ze2 (show e < n by omega) (Nat.zero_add e).symm ?_|refine X.ldq _ _ _ _ _ _ _ _ _ hcu2 ?_|refine X.ldq _ _ _ _ _ _ _ _ _ hcv1 ?_|refine X.ldq _ _ _ _ _ _ _ _ _ hcv2 ?_))
      all_goals (refine hB ⟨(d', r', zd', zr'),hzd', hzr', htd3,by show q ≤ d'; omega,by show d' ≤ W + 1; omega,by show r' < W; omega⟩ _ (by show d' < d; omega) ?_; clear hB; cbv <;> (and_intros <;> first|exact f1|exact f2|rfl|trivial))
   ·as_aux_lemma =>
    clear hB
    have c2:A.cmp .gtr (A.bin .shr .u64 zd 32) 0 = false:=gtF hA s1 (b:=0) rfl (by omega)
    have c3:A.cmp .gtr (A.bin .mul .u64 zd (A.conv .u64 y2)) (A.bin .or .u64 (A.bin .shl .u64 zr 32) (A.conv .u64 w2)) = false:=gtF hA s2 s3 (by omega)
    have g2:d ≤ q + 1:=lg_up hBb hb1 N1 N2 hR hq hv1 hv2 htop hu2 htd2 (by omega) (.inr (by rw [hrWe]; omega))
    (repeat' (first|(refine X.g ?_; cbv)|refine X.splitT ?_|refine X.splitF ?_|refine X.sp (fun hc=>?_) (fun hc=>?_)|refine X.needT ?_|refine X.drawX _ _ _ (by kernel_rfl) ?_|refine X.idxw _ _ _ _ _ _ _ _ p2 p2 zp2 (show p2 < m1 by omega) (Nat.zero_add p2).symm ?_|refine X.idxw _ _ _ _ _ _ _ _ e1 e1 hz1 (show e1 < n by omega) (Nat.zero_add e1).symm ?_|refine X.idxw _ _ _ _ _ _ _ _ e e ze2 (show e < n by omega) (Nat.zero_add e).symm ?_|refine X.ldq _ _ _ _ _ _ _ _ _ hcu2 ?_|refine X.ldq _ _ _ _ _ _ _ _ _ hcv1 ?_|refine X.ldq _ _ _ _ _ _ _ _ _ hcv2 ?_))
    all_goals (refine hC ⟨(d,zd),hzd,by show d < W; omega,hqd,g2⟩ _ ?_; clear hC; cbv <;> (and_intros <;> first|rfl|trivial))
end Go.Proofs.YthadehkggddgoaaGreatDoor
