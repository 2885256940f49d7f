/- Contract: nat.Mul. The steps of long division: plain laws. -/
import Derived.Test.YthadehkggddgoaaGreatDoorZAdd
import Derived.Test.YthadehkggddgoaaGreatDoorZBits
import Derived.Test.YthadehkggddgoaaGreatDoorZData
import Derived.Lib.ItoaNum
section
set_option maxRecDepth 100000
set_option maxHeartbeats 0
set_option linter.unusedVariables false
set_option linter.unusedSimpArgs false
namespace Go.Proofs.YthadehkggddgoaaGreatDoor
open Go Go.Num
theorem natMul_ok (a b:ByteArray) (ha:a.size ≤ 2 ^ 38) (hb:b.size ≤ 2 ^ 38) (r:ByteArray) (hr:r = enc (bv a * bv b)):AE.ACall Tryz.prog 73 [] [.v (.string a),.v (.string b)] [] (.v (.string r)):=by
 refine AE.ACall.of_walk (fn:=Tryz.f73) (c:=bodyOf Tryz.f73) tabOK Tryz.func73 rfl rfl mixed fun A hA X=>?_
 obtain ⟨x,hx⟩:∃ x,x = bv a:=⟨_,rfl⟩
 obtain ⟨y,hy⟩:∃ y,y = bv b:=⟨_,rfl⟩
 rw [← hx,← hy] at hr
 obtain ⟨s,hs⟩:∃ s,s = enc x:=⟨_,rfl⟩
 obtain ⟨t,ht⟩:∃ t,t = enc y:=⟨_,rfl⟩
 have k1:=trim_ok a s (by rw [hs,hx])
 have k2:=trim_ok b t (by rw [ht,hy])
 have vs:bv s = x:=by rw [hs,bv_enc]
 have vt:bv t = y:=by rw [ht,bv_enc]
 have zs:s.size ≤ 2 ^ 38:=by rw [hs,hx]; exact Nat.le_trans (enc_size_bv a) ha
 have zt:t.size ≤ 2 ^ 38:=by rw [ht,hy]; exact Nat.le_trans (enc_size_bv b) hb
 have hadd:A.bin .add .i64 (A.slen s) (A.slen t) = ((s.size + t.size:Nat):Int):=addI hA (slen hA s) (slen hA t) (by omega)
 by_cases hsm:s.size + t.size ≤ 8
 ·have c1:A.cmp .leq (A.bin .add .i64 (A.slen s) (A.slen t)) 8 = true:=leT hA hadd (b:=8) rfl hsm
  have hx8:x < 256 ^ s.size:=enc_size.1 (by rw [← hs]; exact Nat.le_refl _)
  have hy8:y < 256 ^ t.size:=enc_size.1 (by rw [← ht]; exact Nat.le_refl _)
  have hxy:x * y < 2 ^ 64:=by
   have h1:x * y < 256 ^ s.size * 256 ^ t.size:=by
    rcases Nat.eq_zero_or_pos y with h0|h0
    ·rw [h0,Nat.mul_zero]; exact Nat.mul_pos (Nat.pow_pos (by decide)) (Nat.pow_pos (by decide))
    ·exact Nat.lt_of_lt_of_le (Nat.mul_lt_mul_of_pos_right hx8 h0) (Nat.mul_le_mul_left _ (Nat.le_of_lt hy8))
   rw [← Nat.pow_add] at h1
   exact Nat.lt_of_lt_of_le h1 (Nat.pow_le_pow_right (by decide) hsm)
  obtain ⟨zx,hzx⟩:∃ z:Int,z = (x:Int):=⟨_,rfl⟩
  obtain ⟨zy,hzy⟩:∃ z:Int,z = (y:Int):=⟨_,rfl⟩
  have k3:=short_ok s (by omega) zx (by rw [hzx,vs])
  have k4:=short_ok t (by omega) zy (by rw [hzy,vt])
  have k5:=fromShort_ok (x * y) (by omega) (A.bin .mul .u64 zx zy) (mulU hA hzx hzy (by omega)) r hr
  (repeat' (first|(refine X.g ?_; cbv)|refine X.splitT ?_|refine X.splitF ?_|refine X.sp (fun hc=>?_) (fun hc=>?_)|refine X.callsA [] k1 ?_|refine X.callsA [] k2 ?_|refine X.callsA [] k3 ?_|refine X.callsA [] k4 ?_|refine X.callsA [] k5 ?_|refine X.needT ?_))
  all_goals (refine X.ret _ (X.done rfl ?_); cbv <;> (and_intros <;> first|rfl|trivial))
 have c1:A.cmp .leq (A.bin .add .i64 (A.slen s) (A.slen t)) 8 = false:=leF hA hadd (b:=8) rfl hsm
 obtain ⟨m,hm⟩:∃ m,m = wn x:=⟨_,rfl⟩
 obtain ⟨n,hn⟩:∃ n,n = wn y:=⟨_,rfl⟩
 obtain ⟨ex,hex⟩:∃ ex,ex = wl (dg W m x):=⟨_,rfl⟩
 obtain ⟨ey,hey⟩:∃ ey,ey = wl (dg W n y):=⟨_,rfl⟩
 have hmb:m ≤ 2 ^ 38:=by have:=wn_le x; rw [← hs] at this; omega
 have hnb:n ≤ 2 ^ 38:=by have:=wn_le y; rw [← ht] at this; omega
 have k6:=words_ok s (by omega) m (by rw [vs]; exact hm) ex (by rw [hex,vs])
 have k7:=words_ok t (by omega) n (by rw [vt]; exact hn) ey (by rw [hey,vt])
 have hxm:x < W ^ m:=by rw [hm]; exact wn_lt x
 have hyn:y < W ^ n:=by rw [hn]; exact wn_lt y
 have hW:W = 4294967296:=W_eq
 have hW2:W * W = 18446744073709551616:=by rw [hW]
 obtain ⟨q,hq⟩:∃ q,q = m + n:=⟨_,rfl⟩
 have hqz:A.bin .add .i64 (Int.ofNat m) (Int.ofNat n) = (q:Int):=by rw [hq]; exact addI hA rfl rfl (by omega)
 have hmake:AE.MakeR (A.bin .add .i64 (Int.ofNat m) (Int.ofNat n)) (A.bin .add .i64 (Int.ofNat m) (Int.ofNat n)) 4:=by rw [hqz]; constructor <;> omega
 obtain ⟨e0,he0⟩:∃ e0,e0 = wl (dg W q 0):=⟨_,rfl⟩
 have hrep:A.lrep (A.bin .add .i64 (Int.ofNat m) (Int.ofNat n)) [.v (.int .u32 0)] = e0:=by
  rw [hqz,he0,dg_zero,← wl_rep]; subst hA; rfl
 (repeat' (first|(refine X.g ?_; cbv)|refine X.splitT ?_|refine X.splitF ?_|refine X.sp (fun hc=>?_) (fun hc=>?_)|refine X.callsA [] k1 ?_|refine X.callsA [] k2 ?_|refine X.needT ?_))
 refine X.calls [] k6 (by cbv) ?_ (by cbv) ?_
 ·cbv
 (repeat' (first|(refine X.g ?_; cbv)|refine X.splitT ?_|refine X.splitF ?_|refine X.sp (fun hc=>?_) (fun hc=>?_)|refine X.needT ?_))
 refine X.calls [] k7 (by cbv) ?_ (by cbv) ?_
 ·cbv
 (repeat' (first|(refine X.g ?_; cbv)|refine X.splitT ?_|refine X.splitF ?_|refine X.sp (fun hc=>?_) (fun hc=>?_)|refine X.need _ _ _ hmake ?_|refine X.needT ?_))
 refine X.loopG _ _ _ (X.fix 2 _ _ _ _ _ rfl (by decide) ?_)
 (refine X.g ?_; cbv)
 refine X.carries (ι:={ p:Nat × Int × List (List AE.AV) // p.1 ≤ m ∧ p.2.1 = p.1 ∧ p.2.2 = wl (dg W q (x % W ^ p.1 * y)) }) (fun p=>[(41,.v (.int .i64 p.1.2.1))]) (fun p=>[.row 1000215 1 ex,.row 1000215 1 ey,.row 1000215 1 p.1.2.2]) (fun p=>m - p.1.1) ⟨(0,0,e0),Nat.zero_le _,rfl,by rw [he0]; simp [Nat.mod_one]⟩ ?_ fun i B hB=>?_
 ·(cbv <;> (and_intros <;> first|exact hrep|rfl|trivial))
 obtain ⟨⟨i,j,ei⟩,hi,hj,hei⟩:=i
 simp only at hi hj hei ⊢
 by_cases h:i < m
 ·have c2:A.cmp .lss j (Int.ofNat m) = true:=ltT hA hj rfl h
  obtain ⟨dx,hdx⟩:∃ d,d = x / W ^ i % W:=⟨_,rfl⟩
  have hdxW:dx < W:=by rw [hdx]; exact Nat.mod_lt _ Wpos
  obtain ⟨wx,hwx⟩:∃ w:Int,w = (dx:Int):=⟨_,rfl⟩
  have hcx:ex[i]? = some [.v (.int .u32 wx)]:=by rw [hex,hwx,hdx]; exact wl_get (dg_get h)
  obtain ⟨P0,hP0⟩:∃ P,P = x % W ^ i * y:=⟨_,rfl⟩
  rw [← hP0] at hei
  have hP0b:P0 < W ^ (i + n):=by
   rw [hP0,Nat.pow_add]
   have h1:=Nat.mod_lt x (show 0 < W ^ i from Nat.pow_pos Wpos)
   rcases Nat.eq_zero_or_pos y with h0|h0
   ·rw [h0,Nat.mul_zero]; exact Nat.mul_pos (Nat.pow_pos Wpos) (Nat.pow_pos Wpos)
   ·exact Nat.lt_of_lt_of_le (Nat.mul_lt_mul_of_pos_right h1 h0) (Nat.mul_le_mul_left _ (Nat.le_of_lt hyn))
  obtain ⟨j', hj'⟩:∃ j' : Int,j' = ((i + 1:Nat):Int):=⟨_,rfl⟩
  have e1:A.bin .add .i64 j 1 = j' := by rw [hj,hj']; exact AE.addN hA (by omega)
  (repeat' (first|(refine X.g ?_; cbv)|refine X.splitT ?_|refine X.splitF ?_|refine X.sp (fun hc=>?_) (fun hc=>?_)|refine X.needT ?_|refine X.idxw _ _ _ _ _ _ _ _ i i hj h (Nat.zero_add i).symm ?_|refine X.ldq _ _ _ _ _ _ _ _ _ hcx ?_))
  refine X.carries (ι:={ p:Nat × Int × Int × List (List AE.AV) // p.1 ≤ n ∧ p.2.1 = p.1 ∧ ∃ R c:Nat,p.2.2.1 = (c:Int) ∧ c < W ∧ R < W ^ (i + n) ∧ R + c * W ^ (i + p.1) = P0 + dx * (y % W ^ p.1) * W ^ i ∧ p.2.2.2 = wl (dg W q R) }) (fun p=>[(48,.v (.int .i64 p.1.2.1)),(10,.v (.int .u64 p.1.2.2.1))]) (fun p=>[.row 1000215 1 ex,.row 1000215 1 ey,.row 1000215 1 p.1.2.2.2]) (fun p=>n - p.1.1) ⟨(0,0,0,ei),Nat.zero_le _,rfl,P0,0,rfl,Wpos,hP0b,by simp [Nat.mod_one],hei⟩ ?_ fun k C hC=>?_
  ·clear hB
   (cbv <;> (and_intros <;> first|rfl|trivial))
  obtain ⟨⟨k,l,c,ek⟩,hk,hl,R,cn,hc,hcW,hRb,hR,hek⟩:=k
  simp only at hk hl hc hRb hR hek ⊢
  by_cases hkn:k < n
  ·clear hB
   have c3:A.cmp .lss l (Int.ofNat n) = true:=ltT hA hl rfl hkn
   obtain ⟨dy,hdy⟩:∃ d,d = y / W ^ k % W:=⟨_,rfl⟩
   have hdyW:dy < W:=by rw [hdy]; exact Nat.mod_lt _ Wpos
   obtain ⟨wy,hwy⟩:∃ w:Int,w = (dy:Int):=⟨_,rfl⟩
   have hcy:ey[k]? = some [.v (.int .u32 wy)]:=by rw [hey,hwy,hdy]; exact wl_get (dg_get hkn)
   obtain ⟨p,hp⟩:∃ p,p = i + k:=⟨_,rfl⟩
   have hpz:A.bin .add .i64 j l = (p:Int):=by rw [hp]; exact addI hA hj hl (by omega)
   have hpq:p < q:=by omega
   obtain ⟨d0,hd0⟩:∃ d,d = R / W ^ p % W:=⟨_,rfl⟩
   have hd0W:d0 < W:=by rw [hd0]; exact Nat.mod_lt _ Wpos
   obtain ⟨w0,hw0⟩:∃ w:Int,w = (d0:Int):=⟨_,rfl⟩
   have hcp:ek[p]? = some [.v (.int .u32 w0)]:=by rw [hek,hw0,hd0]; exact wl_get (dg_get hpq)
   have hat:AE.AtR p ek:=⟨by rw [hek,wl_len,dg_len]; exact hpq⟩
   have hb:=mul_bound Wpos hcW hdxW hdyW hd0W
   rw [hW2] at hb
   have m1:A.bin .mul .u64 (A.conv .u64 wx) (A.conv .u64 wy) = ((dx * dy:Nat):Int):=mulU hA (cv64 hA hwx (by omega)) (cv64 hA hwy (by omega)) (by omega)
   have m2:A.bin .add .u64 (A.bin .mul .u64 (A.conv .u64 wx) (A.conv .u64 wy)) (A.conv .u64 w0) = ((dx * dy + d0:Nat):Int):=addU hA m1 (cv64 hA hw0 (by omega)) (by omega)
   obtain ⟨T,hT⟩:∃ T,T = cn + dx * dy + d0:=⟨_,rfl⟩
   have m3:A.bin .add .u64 c (A.bin .add .u64 (A.bin .mul .u64 (A.conv .u64 wx) (A.conv .u64 wy)) (A.conv .u64 w0)) = (T:Int):=by
    rw [show T = cn + (dx * dy + d0) by omega]; exact addU hA hc m2 (by omega)
   have hTl:T < W * W:=by rw [hW2,hT]; exact hb
   obtain ⟨c', hc'⟩:∃ c' : Int,c' = ((T / W:Nat):Int):=⟨_,rfl⟩
   obtain ⟨e', he'⟩:∃ e', e' = wl (dg W q (upd W p R (T % W))):=⟨_,rfl⟩
   obtain ⟨l', hl'⟩:∃ l' : Int,l' = ((k + 1:Nat):Int):=⟨_,rfl⟩
   have f1:A.bin .add .i64 l 1 = l' := by rw [hl,hl']; exact AE.addN hA (by omega)
   have f2:A.lset ek p [.v (.int .u32 (A.conv .u32 (A.bin .add .u64 c (A.bin .add .u64 (A.bin .mul .u64 (A.conv .u64 wx) (A.conv .u64 wy)) (A.conv .u64 w0)))))] = e' := by
    rw [cv32 hA m3,lsetE hA,hek,he', ← dg_upd Wpos (Nat.mod_lt _ Wpos) hpq]
    exact wl_set _ _ _
   have f3:A.bin .shr .u64 (A.bin .add .u64 c (A.bin .add .u64 (A.bin .mul .u64 (A.conv .u64 wx) (A.conv .u64 wy)) (A.conv .u64 w0))) 32 = c' := (shrU hA m3 (y:=32) (b:=32) rfl (by decide)).trans (by rw [hc']; rfl)
   have hinv:∃ R' c2:Nat,c' = (c2:Int) ∧ c2 < W ∧ R' < W ^ (i + n) ∧ R' + c2 * W ^ (i + (k + 1)) = P0 + dx * (y % W ^ (k + 1)) * W ^ i ∧ e' = wl (dg W q R'):=by
    refine ⟨upd W p R (T % W),T / W,hc', by rw [Nat.div_lt_iff_lt_mul Wpos]; exact hTl,upd_lt Wpos (by omega) hRb (Nat.mod_lt _ Wpos),?_,he'⟩
    have ms:=mul_step (w:=dx) (v:=dy) Wpos p (show R + cn * W ^ p = P0 + dx * (y % W ^ k) * W ^ i by rw [hp]; exact hR)
    rw [← hd0,← hT] at ms
    rw [show i + (k + 1) = p + 1 by omega,ms,mod_succ,← hdy,hp,Nat.mul_add,Nat.add_mul,Nat.pow_add,Nat.mul_comm (W ^ i) (W ^ k),← Nat.mul_assoc,← Nat.mul_assoc,Nat.add_assoc]
   (repeat' (first|(refine X.g ?_; cbv)|refine X.splitT ?_|refine X.splitF ?_|refine X.sp (fun hc=>?_) (fun hc=>?_)|refine X.needT ?_|refine X.need _ _ _ hat ?_|refine X.idxw _ _ _ _ _ _ _ _ k k hl hkn (Nat.zero_add k).symm ?_|refine X.ldq _ _ _ _ _ _ _ _ _ hcy ?_|refine X.ldq _ _ _ _ _ _ _ _ _ hcp ?_|refine X.idxA p hat hpz ?_))
   all_goals (refine hC ⟨(k + 1,l', c', e'),hkn,hl', hinv⟩ _ (by show n - (k + 1) < n - k; omega) ?_; clear hC; cbv <;> (and_intros <;> first|exact f1|exact f2|exact f3|rfl|trivial))
  ·clear hC
   have c3:A.cmp .lss l (Int.ofNat n) = false:=ltF hA hl rfl hkn
   have hkk:k = n:=by omega
   rw [hkk,Nat.mod_eq_of_lt hyn] at hR
   obtain ⟨p,hp⟩:∃ p,p = i + n:=⟨_,rfl⟩
   have hpz:A.bin .add .i64 j (Int.ofNat n) = (p:Int):=by rw [hp]; exact addI hA hj rfl (by omega)
   have hat:AE.AtR p ek:=⟨by rw [hek,wl_len,dg_len]; omega⟩
   obtain ⟨e', he'⟩:∃ e', e' = wl (dg W q (x % W ^ (i + 1) * y)):=⟨_,rfl⟩
   have e2:A.lset ek p [.v (.int .u32 (A.conv .u32 c))] = e' := by
    have h4:=dg_put Wpos hcW (o:=R) (i:=p) (m:=q) (by rw [hp]; exact hRb) (by omega)
    have hfin:x % W ^ (i + 1) * y = R + cn * W ^ p:=by
     rw [hp,hR,mod_succ,← hdx,Nat.add_mul,hP0]
     rw [Nat.mul_assoc dx,Nat.mul_assoc dx,Nat.mul_comm y]
    rw [cv32 hA hc,show cn % 2 ^ 32 = cn from Nat.mod_eq_of_lt (by omega),lsetE hA,hek,he', hfin,← h4]
    exact wl_set _ _ _
   (repeat' (first|(refine X.g ?_; cbv)|refine X.splitT ?_|refine X.splitF ?_|refine X.sp (fun hc=>?_) (fun hc=>?_)|refine X.needT ?_|refine X.need _ _ _ hat ?_|refine X.idxA p hat hpz ?_))
   all_goals (refine hB ⟨(i + 1,j', e'),h,hj', he'⟩ _ (by show m - (i + 1) < m - i; omega) ?_; clear hB; cbv <;> (and_intros <;> first|exact e1|exact e2|rfl|trivial))
 ·have c2:A.cmp .lss j (Int.ofNat m) = false:=ltF hA hj rfl h
  have him:i = m:=by omega
  rw [him,Nat.mod_eq_of_lt hxm] at hei
  have hlen2:q = ei.length:=by rw [hei,wl_len,dg_len]
  have hprod:x * y < W ^ q:=by
   rw [hq,Nat.pow_add]
   rcases Nat.eq_zero_or_pos y with h0|h0
   ·rw [h0,Nat.mul_zero]; exact Nat.mul_pos (Nat.pow_pos Wpos) (Nat.pow_pos Wpos)
   ·exact Nat.lt_of_lt_of_le (Nat.mul_lt_mul_of_pos_right hxm h0) (Nat.mul_le_mul_left _ (Nat.le_of_lt hyn))
  have k8:=textD_ok q (x * y) hprod (by omega) r hr ei hei
  clear hB
  (repeat' (first|(refine X.g ?_; cbv)|refine X.splitT ?_|refine X.splitF ?_|refine X.sp (fun hc=>?_) (fun hc=>?_)|refine X.needT ?_))
  refine X.callW _ _ _ _ _ 2 1 q _ rfl hlen2 ?_
  cbv
  refine X.calls [2] k8 (by cbv) ?_ (by cbv) ?_
  ·cbv
  (repeat' (first|(refine X.g ?_; cbv)|refine X.splitT ?_|refine X.splitF ?_|refine X.sp (fun hc=>?_) (fun hc=>?_)|refine X.needT ?_))
  all_goals (refine X.ret _ (X.done rfl ?_); cbv <;> (and_intros <;> first|rfl|trivial))
end Go.Proofs.YthadehkggddgoaaGreatDoor
end
section
set_option linter.unusedVariables false
set_option linter.unusedSectionVars false
namespace Go.Num
theorem two_digits {B x p:Nat}:x / B ^ (p + 1) * B + x / B ^ p % B = x / B ^ p:=by
 have h:=Nat.div_add_mod (x / B ^ p) B
 rw [Nat.div_div_eq_div_mul,← Nat.pow_succ] at h
 rw [Nat.mul_comm]; exact h
theorem lg_q {B V R j q:Nat} (hV:0 < V) (hB:0 < B) (hq:q = R / (V * B ^ j)) (hR:R < V * B ^ (j + 1)):q < B ∧ q * (V * B ^ j) ≤ R ∧ R < (q + 1) * (V * B ^ j):=by
 have hP:0 < V * B ^ j:=Nat.mul_pos hV (Nat.pow_pos hB)
 have h1:=Nat.div_add_mod R (V * B ^ j)
 have h2:=Nat.mod_lt R hP
 rw [← hq] at h1
 refine ⟨?_,?_,?_⟩
 ·rw [hq,Nat.div_lt_iff_lt_mul hP,Nat.mul_comm,Nat.mul_assoc,← Nat.pow_succ]; exact hR
 ·rw [Nat.mul_comm]; omega
 ·rw [Nat.add_mul,Nat.one_mul,Nat.mul_comm]; omega
section
variable {B b V R j e q v1 v2 top u2:Nat} (hBb:B = 2 * b) (hb:1 < B) (hVlo:b * B ^ (e + 1) ≤ V) (hVhi:V < B ^ (e + 2)) (hR:R < V * B ^ (j + 1)) (hq:q = R / (V * B ^ j))
 (hv1:v1 = V / B ^ (e + 1)) (hv2:v2 = V / B ^ e % B) (htop:top = R / B ^ (j + e + 1)) (hu2:u2 = R / B ^ (j + e) % B)
include hBb hb hVlo hVhi hv1 in
theorem lg_v1:b ≤ v1 ∧ v1 < B ∧ v1 * B ^ (e + 1) ≤ V ∧ V < (v1 + 1) * B ^ (e + 1):=by
 have hP:0 < B ^ (e + 1):=Nat.pow_pos (by omega)
 have h1:=Nat.div_add_mod V (B ^ (e + 1))
 have h2:=Nat.mod_lt V hP
 rw [← hv1] at h1
 refine ⟨?_,?_,?_,?_⟩
 ·rw [hv1,Nat.le_div_iff_mul_le hP]; exact hVlo
 ·rw [hv1,Nat.div_lt_iff_lt_mul hP,Nat.mul_comm,← Nat.pow_succ]; exact hVhi
 ·rw [hv1]; exact Nat.div_mul_le_self _ _
 ·rw [Nat.add_mul,Nat.one_mul,Nat.mul_comm]; omega
include hBb hb hVlo hVhi hR hv1 htop in
theorem lg_top:top < (v1 + 1) * B ∧ top * B ^ (j + e + 1) ≤ R ∧ R < (top + 1) * B ^ (j + e + 1):=by
 have hP:0 < B ^ (j + e + 1):=Nat.pow_pos (by omega)
 obtain ⟨a1,a2,a3,a4⟩:=lg_v1 hBb hb hVlo hVhi hv1
 have h1:=Nat.div_add_mod R (B ^ (j + e + 1))
 have h2:=Nat.mod_lt R hP
 rw [← htop] at h1
 refine ⟨?_,?_,?_⟩
 ·rw [htop,Nat.div_lt_iff_lt_mul hP]
  refine Nat.lt_trans hR ?_
  have h3:=Nat.mul_lt_mul_of_pos_right a4 (show 0 < B ^ (j + 1) from Nat.pow_pos (by omega))
  have h4:(v1 + 1) * B ^ (e + 1) * B ^ (j + 1) = (v1 + 1) * B * B ^ (j + e + 1):=by
   rw [Nat.mul_assoc,Nat.mul_assoc,← Nat.pow_add]
   congr 1
   rw [Nat.mul_comm B,← Nat.pow_succ]
   congr 1; omega
  rw [← h4]; exact h3
 ·rw [htop]; exact Nat.div_mul_le_self _ _
 ·rw [Nat.add_mul,Nat.one_mul,Nat.mul_comm]; omega
include hBb hb hVlo hVhi hR hv1 htop hq in
theorem lg_first:q ≤ top / v1 ∧ top / v1 ≤ B + 1:=by
 obtain ⟨a1,a2,a3,a4⟩:=lg_v1 hBb hb hVlo hVhi hv1
 obtain ⟨b1,b2,b3⟩:=lg_top hBb hb hVlo hVhi hR hv1 htop
 have hV0:0 < V:=by
  have:0 < b * B ^ (e + 1):=Nat.mul_pos (by omega) (Nat.pow_pos (by omega))
  omega
 obtain ⟨c1,c2,c3⟩:=lg_q hV0 (by omega) hq hR
 have hv0:0 < v1:=by omega
 refine ⟨trial_first (B:=B) (V:=V * B ^ j) (R:=R) (P:=B ^ (j + e + 1)) ?_ b3 hv0 c2,?_⟩
 ·have h4:v1 * B ^ (j + e + 1) = v1 * B ^ (e + 1) * B ^ j:=by
   rw [Nat.mul_assoc,← Nat.pow_add]; congr 2; omega
  rw [h4]; exact Nat.mul_le_mul_right _ a3
 ·have h5:top < (B + 2) * v1:=by
   have:(B + 2) * v1 = v1 * B + 2 * v1:=by rw [Nat.add_mul,Nat.mul_comm]
   rw [Nat.add_mul] at b1
   omega
  have:=(Nat.div_lt_iff_lt_mul hv0).2 h5
  omega
theorem lg_rest {d rest:Nat} (hb1:top < (v1 + 1) * B) (hd:top = d * v1 + rest) (hr:B ≤ rest):d < B:=by
 apply Nat.lt_of_not_le
 intro h
 have:=Nat.mul_le_mul_right v1 h
 rw [Nat.add_mul,Nat.mul_comm v1] at hb1
 omega
include hBb hb hVlo hVhi hR hv1 hv2 htop hu2 hq in
theorem lg_down {d rest:Nat} (hd:top = d * v1 + rest) (hqd:q ≤ d) (ht:B ≤ d ∨ rest * B + u2 < d * v2):q + 1 ≤ d:=by
 have hV0:0 < V:=by
  have:0 < b * B ^ (e + 1):=Nat.mul_pos (by omega) (Nat.pow_pos (by omega))
  omega
 obtain ⟨c1,c2,c3⟩:=lg_q hV0 (by omega) hq hR
 rcases ht with ht|ht
 ·omega
 ·have h1:=(trial_test (B:=B) (d:=d) (v1:=v1) (v2:=v2) (top:=top) (u2:=u2) (rest:=rest) hd).1 ht
  have hT:top * B + u2 = R / B ^ (j + e):=by rw [htop,hu2,two_digits]
  have hW2:v1 * B + v2 = V / B ^ e:=by rw [hv1,hv2,two_digits]
  rw [hT,hW2] at h1
  have hP:0 < B ^ e:=Nat.pow_pos (by omega)
  have hP2:0 < B ^ (j + e):=Nat.pow_pos (by omega)
  refine trial_down (V:=V * B ^ j) (R:=R) (W:=V / B ^ e) (T:=R / B ^ (j + e)) (P:=B ^ (j + e)) (q:=q) (d:=d) ?_ ?_ c2 h1
  ·rw [Nat.add_comm j e,Nat.pow_add,← Nat.mul_assoc]; exact Nat.mul_le_mul_right _ (Nat.div_mul_le_self _ _)
  ·have h2:=Nat.div_add_mod R (B ^ (j + e))
   have h3:=Nat.mod_lt R hP2
   rw [Nat.add_mul,Nat.one_mul,Nat.mul_comm]; omega
include hBb hb hVlo hVhi hR hv1 hv2 htop hu2 hq in
theorem lg_up {d rest:Nat} (hd:top = d * v1 + rest) (hdB:d < B) (ht:B ≤ rest ∨ ¬ rest * B + u2 < d * v2):d ≤ q + 1:=by
 have hV0:0 < V:=by
  have:0 < b * B ^ (e + 1):=Nat.mul_pos (by omega) (Nat.pow_pos (by omega))
  omega
 obtain ⟨c1,c2,c3⟩:=lg_q hV0 (by omega) hq hR
 have hv2B:v2 < B:=by rw [hv2]; exact Nat.mod_lt _ (by omega)
 have h1:d * (v1 * B + v2) ≤ top * B + u2:=by
  rcases ht with ht|ht
  ·exact trial_stop hd ht (Nat.le_of_lt hdB) hv2B
  ·have:=mt (trial_test (B:=B) (d:=d) (v1:=v1) (v2:=v2) (top:=top) (u2:=u2) (rest:=rest) hd).2 ht
   omega
 have hT:top * B + u2 = R / B ^ (j + e):=by rw [htop,hu2,two_digits]
 have hW2:v1 * B + v2 = V / B ^ e:=by rw [hv1,hv2,two_digits]
 rw [hT,hW2] at h1
 have hP:0 < B ^ e:=Nat.pow_pos (by omega)
 have h2:=Nat.div_add_mod V (B ^ e)
 have h3:=Nat.mod_lt V hP
 have hBV:B * B ^ (j + e) ≤ V * B ^ j:=by
  rw [Nat.add_comm j e,Nat.pow_add,← Nat.mul_assoc,Nat.mul_comm B,← Nat.pow_succ]
  refine Nat.mul_le_mul_right _ (Nat.le_trans ?_ hVlo)
  exact Nat.le_mul_of_pos_left _ (by omega)
 refine trial_up (B:=B) (V:=V * B ^ j) (R:=R) (W:=V / B ^ e) (T:=R / B ^ (j + e)) (P:=B ^ (j + e)) (q:=q) (d:=d) ?_ hBV (Nat.div_mul_le_self _ _) h1 (Nat.le_of_lt hdB) c3 (Nat.mul_pos hV0 (Nat.pow_pos (by omega)))
 rw [Nat.add_comm j e,Nat.pow_add,← Nat.mul_assoc]
 refine Nat.mul_lt_mul_of_pos_right ?_ (Nat.pow_pos (by omega))
 rw [Nat.add_mul,Nat.one_mul,Nat.mul_comm]; omega
end
theorem norm32 {d s:Nat} (h0:0 < d) (hd:d < 2 ^ 32) (hs:s = 32 - Lib.bitLen d):s ≤ 31 ∧ 2 ^ 31 ≤ d * 2 ^ s ∧ (d + 1) * 2 ^ s ≤ 2 ^ 32 ∧ (32 - (Lib.bitLen d:Int)) = (s:Int):=by
 obtain ⟨hb1,h2,h1⟩:1 ≤ Lib.bitLen d ∧ 2 ^ (Lib.bitLen d - 1) ≤ d ∧ d < 2 ^ Lib.bitLen d:=Lib.bitLenAux_bounds 64 d (by omega) (by omega)
 have hb2:Lib.bitLen d ≤ 32:=by
  apply Nat.le_of_not_lt; intro h
  have:2 ^ 32 ≤ 2 ^ (Lib.bitLen d - 1):=Nat.pow_le_pow_right (by decide) (by omega)
  omega
 have e1:Lib.bitLen d - 1 + s = 31:=by omega
 have e2:Lib.bitLen d + s = 32:=by omega
 refine ⟨by omega,?_,?_,by omega⟩
 ·have:=Nat.mul_le_mul_right (2 ^ s) h2
  rwa [← Nat.pow_add,e1] at this
 ·have:=Nat.mul_le_mul_right (2 ^ s) (show d + 1 ≤ 2 ^ Lib.bitLen d from h1)
  rwa [← Nat.pow_add,e2] at this
theorem norm_row {B V e vt s b:Nat} (hB:0 < B) (hvt:vt = V / B ^ (e + 1)) (h1:b ≤ vt * 2 ^ s) (h2:(vt + 1) * 2 ^ s ≤ B):b * B ^ (e + 1) ≤ V * 2 ^ s ∧ V * 2 ^ s < B ^ (e + 2):=by
 have hP:0 < B ^ (e + 1):=Nat.pow_pos hB
 have h3:vt * B ^ (e + 1) ≤ V:=by rw [hvt]; exact Nat.div_mul_le_self _ _
 have h4:V < (vt + 1) * B ^ (e + 1):=by
  have a:=Nat.div_add_mod V (B ^ (e + 1))
  have b:=Nat.mod_lt V hP
  rw [← hvt] at a
  rw [Nat.add_mul,Nat.one_mul,Nat.mul_comm]; omega
 constructor
 ·refine Nat.le_trans (Nat.mul_le_mul_right _ h1) ?_
  rw [Nat.mul_right_comm]; exact Nat.mul_le_mul_right _ h3
 ·have h5:=Nat.mul_lt_mul_of_pos_right h4 (Nat.two_pow_pos s)
  have h6:=Nat.mul_le_mul_right (B ^ (e + 1)) h2
  rw [Nat.mul_right_comm] at h6
  rw [show e + 2 = e + 1 + 1 from rfl,Nat.pow_succ,Nat.mul_comm _ B]
  omega
theorem lg_begin {B V U m n s b:Nat} (hb:0 < b) (hn:0 < n) (hnm:n ≤ m) (hU:U < B ^ m) (hB:B = 2 * b) (hVlo:b * B ^ (n - 1) ≤ V) (hs:2 ^ s ≤ b):U * 2 ^ s < V * B ^ (m + 1 - n):=by
 have hP:0 < B ^ (m + 1 - n):=Nat.pow_pos (by omega)
 have h1:=Nat.mul_le_mul_right (B ^ (m + 1 - n)) hVlo
 rw [Nat.mul_assoc,← Nat.pow_add,show n - 1 + (m + 1 - n) = m by omega] at h1
 have h2:=Nat.mul_lt_mul_of_pos_right hU (Nat.two_pow_pos s)
 have h3:=Nat.mul_le_mul_left (B ^ m) hs
 rw [Nat.mul_comm b] at h1
 omega
theorem lg_left {B V R j q d:Nat} {U1:Nat} (hV:0 < V) (hB:0 < B) (N:Nat) (hq:q = R / (V * B ^ j)) (hR:R < V * B ^ (j + 1)) (hVN:V * B ^ (j + 1) ≤ N) (hqd:q ≤ d) (hdq:d ≤ q + 1) :
  (¬ R < d * V * B ^ j → d = q ∧ R - d * V * B ^ j = R % (V * B ^ j)) ∧ (R < d * V * B ^ j → d = q + 1 ∧ (R + N - d * V * B ^ j + V * B ^ j) % N = R % (V * B ^ j) ∧ R + N - d * V * B ^ j < N):=by
 obtain ⟨c1,c2,c3⟩:=lg_q hV hB hq hR
 have hm:R % (V * B ^ j) = R - q * (V * B ^ j):=by
  have:=Nat.div_add_mod R (V * B ^ j)
  rw [← hq,Nat.mul_comm] at this; omega
 have hP:0 < V * B ^ j:=Nat.mul_pos hV (Nat.pow_pos hB)
 rw [Nat.mul_assoc,hm]
 constructor
 ·intro h
  have:d = q:=by
   rcases Nat.lt_or_ge q d with h1|h1
   ·have:d = q + 1:=by omega
    rw [this] at h; exact absurd c3 h
   ·omega
  rw [this]; exact ⟨rfl,rfl⟩
 ·intro h
  have hd:d = q + 1:=by
   rcases Nat.lt_or_ge q d with h1|h1
   ·omega
   ·have:d = q:=by omega
    rw [this] at h; omega
  rw [hd] at h ⊢
  have h5:V * B ^ (j + 1) = B * (V * B ^ j):=by rw [Nat.pow_succ,← Nat.mul_assoc,Nat.mul_comm]
  have h6:(q + 1) * (V * B ^ j) = q * (V * B ^ j) + V * B ^ j:=by rw [Nat.add_mul,Nat.one_mul]
  have h7:(q + 1) * (V * B ^ j) ≤ B * (V * B ^ j):=Nat.mul_le_mul_right _ c1
  refine ⟨rfl,?_,by omega⟩
  have h8:R + N - (q + 1) * (V * B ^ j) + V * B ^ j = (R - q * (V * B ^ j)) + N:=by omega
  rw [h8,Nat.add_mod_right,Nat.mod_eq_of_lt]
  omega
theorem lg_quot {B V R j q Q X cnt:Nat} (hB:0 < B) (hV:0 < V) (hq:q = R / (V * B ^ j)) (hR:R < V * B ^ (j + 1)) (hQ:Q % B ^ (j + 1) = 0) (hX:X = Q * V + R) (hj:j < cnt) :
  (dg B cnt Q).set j q = dg B cnt (Q + q * B ^ j) ∧ (Q + q * B ^ j) % B ^ j = 0 ∧ X = (Q + q * B ^ j) * V + R % (V * B ^ j) ∧ R % (V * B ^ j) < V * B ^ j:=by
 obtain ⟨c1,c2,c3⟩:=lg_q hV hB hq hR
 have hd:Q / B ^ j % B = 0:=by
  have h1:Q % B ^ (j + 1) / B ^ j = Q / B ^ j % B:=by rw [Nat.pow_succ,Nat.mod_mul_right_div_self]
  rw [← h1,hQ,Nat.zero_div]
 refine ⟨?_,?_,?_,Nat.mod_lt _ (Nat.mul_pos hV (Nat.pow_pos hB))⟩
 ·rw [dg_upd hB c1 hj]
  have:=upd_eq B j Q q
  rw [hd,Nat.zero_mul,Nat.add_zero] at this
  rw [this]
 ·have h1:Q % B ^ j = 0:=by
   have:Q % B ^ (j + 1) % B ^ j = Q % B ^ j:=Nat.mod_mod_of_dvd _ ⟨B,by rw [Nat.pow_succ]⟩
   rw [← this,hQ,Nat.zero_mod]
  rw [Nat.add_mul_mod_self_right,h1]
 ·have:=Nat.div_add_mod R (V * B ^ j)
  rw [← hq] at this
  rw [hX,Nat.add_mul,Nat.mul_assoc q,Nat.mul_comm (B ^ j) V,Nat.mul_comm q,Nat.add_assoc,this]
theorem right_step {B i s R m X E:Nat} (hE:B = E * 2 ^ s) (hE0:0 < E) (hX:X = R / B ^ i * B ^ i + R / 2 ^ s % B ^ i) (hi:i < m) :
  let r:=R / B ^ i % B
  let r2:=R / B ^ (i + 1) % B
  X / B ^ i % B = r ∧ r / 2 ^ s < E ∧ r / 2 ^ s + r2 % 2 ^ s * E < B ∧ (dg B m X).set i (r / 2 ^ s + r2 % 2 ^ s * E) = dg B m (R / B ^ (i + 1) * B ^ (i + 1) + R / 2 ^ s % B ^ (i + 1)):=by
 intro r r2
 have h2:0 < 2 ^ s:=Nat.two_pow_pos s
 have hB:0 < B:=by rw [hE]; exact Nat.mul_pos hE0 h2
 have hP:0 < B ^ i:=Nat.pow_pos hB
 have hlt:=Nat.mod_lt (R / 2 ^ s) hP
 have e1:X / B ^ i = R / B ^ i:=by rw [hX,Nat.add_comm,Nat.add_mul_div_right _ _ hP,Nat.div_eq_of_lt hlt,Nat.zero_add]
 have hr:r < B:=Nat.mod_lt _ hB
 have a1:r / 2 ^ s < E:=by rw [Nat.div_lt_iff_lt_mul h2,← hE]; exact hr
 have a2:r / 2 ^ s + r2 % 2 ^ s * E < B:=by
  have h3:(r2 % 2 ^ s + 1) * E ≤ 2 ^ s * E:=Nat.mul_le_mul_right _ (Nat.mod_lt _ h2)
  rw [Nat.add_mul,Nat.one_mul,Nat.mul_comm (2 ^ s) E,← hE] at h3
  omega
 refine ⟨by rw [e1],a1,a2,?_⟩
 have hdig:R / 2 ^ s / B ^ i % B = r / 2 ^ s + r2 % 2 ^ s * E:=by
  have f1:R / 2 ^ s / B ^ i = R / B ^ i / 2 ^ s:=by rw [Nat.div_div_eq_div_mul,Nat.div_div_eq_div_mul,Nat.mul_comm]
  have f2:R / B ^ i = R / B ^ (i + 1) * B + r:=two_digits.symm
  have f3:(R / B ^ (i + 1) * B + r) / 2 ^ s = R / B ^ (i + 1) * E + r / 2 ^ s:=by
   rw [hE,← Nat.mul_assoc,Nat.add_comm,Nat.add_mul_div_right _ _ h2,Nat.add_comm]
  rw [f1,f2,f3]
  have f4:=Nat.div_add_mod (R / B ^ (i + 1)) (2 ^ s)
  have f5:R / B ^ (i + 1) % 2 ^ s = r2 % 2 ^ s:=by
   show _ = R / B ^ (i + 1) % B % 2 ^ s
   exact (Nat.mod_mod_of_dvd _ ⟨E,by rw [hE,Nat.mul_comm]⟩).symm
  rw [f5] at f4
  have f6:R / B ^ (i + 1) * E + r / 2 ^ s = (r / 2 ^ s + r2 % 2 ^ s * E) + R / B ^ (i + 1) / 2 ^ s * B:=by
   conv=>lhs; rw [← f4]
   rw [Nat.add_mul,hE,Nat.mul_comm (2 ^ s),Nat.mul_assoc,Nat.mul_comm (2 ^ s) E]; omega
  rw [f6,Nat.add_mul_mod_self_right,Nat.mod_eq_of_lt a2]
 rw [mod_succ (R / 2 ^ s),hdig]
 have f2:R / B ^ i = R / B ^ (i + 1) * B + r:=two_digits.symm
 have hXe:X = R / B ^ (i + 1) * B ^ (i + 1) + r * B ^ i + R / 2 ^ s % B ^ i:=by
  rw [hX,f2,Nat.add_mul,Nat.mul_assoc,Nat.mul_comm B,← Nat.pow_succ]
 rw [hXe,dg_set hB hr a2 hlt hi]
 congr 1
 omega
end Go.Num
end
