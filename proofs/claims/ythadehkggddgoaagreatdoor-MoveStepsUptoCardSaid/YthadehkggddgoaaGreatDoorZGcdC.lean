/- Contracts: nat.right, nat.below, nat.minus. Contracts: nat.below, nat.minus. -/
import Derived.Test.YthadehkggddgoaaGreatDoorZGcdA
import Derived.Test.YthadehkggddgoaaGreatDoorZLongL
set_option maxRecDepth 100000
set_option maxHeartbeats 0
section
set_option linter.unusedVariables false
set_option linter.unusedSimpArgs false
namespace Go.Proofs.YthadehkggddgoaaGreatDoor
open Go Go.Num
def put (L:List Nat) (lo:Nat) (ds:List Nat):List Nat:=L.take lo ++ (ds ++ L.drop (lo + ds.length))
theorem put_len {L:List Nat} {lo:Nat} {ds:List Nat} (h:lo + ds.length ≤ L.length):(put L lo ds).length = L.length:=by
 simp [put]; omega
theorem put_self {L:List Nat} {lo n x:Nat} (h:Win L lo n x):put L lo (dg W8 n x) = L:=by
 have h1:=h.len
 rw [put,← h.dig,List.length_take,List.length_drop,Nat.min_eq_left (by omega),← List.drop_drop,List.take_append_drop,List.take_append_drop]
theorem put_get {L:List Nat} {lo i:Nat} {ds:List Nat} (h:lo + ds.length ≤ L.length) (hi:i < ds.length):(put L lo ds)[lo + i]? = ds[i]?:=by
 have e:(L.take lo).length = lo:=by rw [List.length_take]; omega
 rw [put,List.getElem?_append_right (by omega),e,Nat.add_sub_cancel_left,List.getElem?_append_left hi]
theorem put_set {L:List Nat} {lo i d:Nat} {ds:List Nat} (h:lo + ds.length ≤ L.length) (hi:i < ds.length):(put L lo ds).set (lo + i) d = put L lo (ds.set i d):=by
 have e:(L.take lo).length = lo:=by rw [List.length_take]; omega
 rw [put,List.set_append_right _ _ (by omega),e,Nat.add_sub_cancel_left,List.set_append_left _ _ hi,put,List.length_set]
theorem put_win {L:List Nat} {lo n y:Nat} (h:lo + n ≤ L.length) (hy:y < W8 ^ n):Win (put L lo (dg W8 n y)) lo n y:=by
 have e:(L.take lo).length = lo:=by rw [List.length_take]; omega
 refine ⟨by rw [put_len (by rw [dg_len]; exact h)]; exact h,?_,hy⟩
 rw [put,List.drop_append_of_le_length (by omega),show List.drop lo (L.take lo) = [] from List.drop_eq_nil_of_le (by omega),List.nil_append,List.take_append_of_le_length (by rw [dg_len]; exact Nat.le_refl _),List.take_of_length_le (by rw [dg_len]; exact Nat.le_refl _)]
theorem dg_drop {B:Nat}:∀ {c n x:Nat},c ≤ n → (dg B n x).drop c = dg B (n - c) (x / B ^ c)
 | 0,n,x,_=>by simp
 | c + 1,0,x,h=>by omega
 | c + 1,n + 1,x,h=>by
  rw [dg,List.drop_succ_cons,dg_drop (by omega),Nat.div_div_eq_div_mul,Nat.pow_succ,Nat.mul_comm B,Nat.add_sub_add_right]
theorem Win.drop {L:List Nat} {lo n x c:Nat} (h:Win L lo n x) (hc:c ≤ n):Win L (lo + c) (n - c) (x / W8 ^ c):=by
 have h1:=h.len
 refine ⟨by omega,?_,?_⟩
 ·rw [← dg_drop hc,← h.dig,List.drop_take,List.drop_drop]
 ·rw [Nat.div_lt_iff_lt_mul (Nat.pow_pos W8pos),← Nat.pow_add,Nat.sub_add_cancel hc]; exact h.lt
theorem shl_wrap {b k:Nat} (hk:k ≤ 64):AE.std.bin .shl .u64 (b:Int) (k:Int) = ((b * 2 ^ k % 2 ^ 64:Nat):Int):=by
 show IntKind.wrap .u64 ((b:Int) * 2 ^ min ((k:Int)).toNat 64) = _
 rw [show ((k:Int)).toNat = k from rfl,Nat.min_eq_left hk,AE.wrap_u64]
 have:(b:Int) * 2 ^ k = ((b * 2 ^ k:Nat):Int):=by rw [Int.natCast_mul,Int.natCast_pow]; rfl
 rw [this]; omega
theorem W8e:W8 = 2 ^ 64:=rfl
theorem right_ok (L:List Nat) (lo n x k m y l2:Nat) (hw:Win L lo n x) (hn:n ≤ 2 ^ 40) (hk:k / 64 ≤ n) (hk2:k ≤ 2 ^ 60) (zk:Int) (hzk:zk = (k:Int)) (hy:y = x / 2 ^ k) (hm:m = ln y) (hl2:l2 = lo + k / 64)
  (es er:List (List AE.AV)) (hes:es = ql L) (her:er = ql (put L l2 (dg W8 (n - k / 64) y))) :
  AE.ACall Tryz.prog 222 [.row 1000072 1 es] [.w 0 1 lo n,.v (.int .i64 zk)] [.row 1000072 1 er] (.w 0 1 l2 m):=by
 refine AE.ACall.of_walk (fn:=Tryz.f222) (c:=bodyOf Tryz.f222) tabOK Tryz.func222 rfl rfl mixed fun A hA X=>?_
 have hW8:W8 = 18446744073709551616:=W8_eq
 obtain ⟨c,hc⟩:∃ c,c = k / 64:=⟨_,rfl⟩
 obtain ⟨s,hs⟩:∃ s,s = k % 64:=⟨_,rfl⟩
 obtain ⟨w,hwn⟩:∃ w,w = n - c:=⟨_,rfl⟩
 rw [← hc] at hk hl2 her
 rw [← hwn] at her
 obtain ⟨Y,hY⟩:∃ Y,Y = x / W8 ^ c:=⟨_,rfl⟩
 have hyY:y = Y / 2 ^ s:=by
  rw [hy,hY,Nat.div_div_eq_div_mul,W8e,← Nat.pow_mul,← Nat.pow_add]
  congr 2; omega
 have hwin:Win L l2 w Y:=by rw [hl2,hwn,hY]; exact hw.drop hk
 have hlen:=hwin.len
 have zc:A.bin .quo .i64 zk 64 = (c:Int):=by rw [hc]; exact quoI hA hzk (y:=64) (b:=64) rfl (by omega)
 obtain ⟨zs,hzs⟩:∃ z:Int,z = (s:Int):=⟨_,rfl⟩
 have hzs2:A.bin .rem .i64 zk 64 = zs:=(remI hA hzk (y:=64) (b:=64) rfl).trans (by rw [hzs,hs])
 have hzs3:A.bin .rem .i64 zk 64 = (s:Int):=hzs2.trans hzs
 have hcut:AE.CutsAt (some (A.bin .quo .i64 zk 64)) none c w n:=by
  constructor
  ·exact .inr (by rw [zc])
  ·exact .inl ⟨rfl,by omega⟩
  ·omega
 have hyw:y < W8 ^ w:=by rw [hyY]; exact Nat.lt_of_le_of_lt (Nat.div_le_self _ _) hwin.lt
 obtain ⟨LR,hLR⟩:∃ LR,LR = put L l2 (dg W8 w y):=⟨_,rfl⟩
 have kc:=cut_ok LR l2 w y m (by rw [hLR]; exact put_win hlen hyw) (by omega) hm er (by rw [her,hLR])
 by_cases hs0:s = 0
 ·have c1:A.cmp .gtr (A.bin .rem .i64 zk 64) 0 = false:=gtF hA hzs3 (b:=0) rfl (by omega)
  have hyY2:y = Y:=by rw [hyY,hs0,Nat.pow_zero,Nat.div_one]
  have hee:es = er:=by rw [hes,her,hyY2,put_self hwin]
  subst hee
  (repeat' (first|(refine X.g ?_; cbv)|refine X.splitT ?_|refine X.splitF ?_|refine X.sp (fun hc=>?_) (fun hc=>?_)|refine X.needT ?_|refine X.cutw _ _ _ _ _ _ _ _ _ c w l2 hcut hl2 ?_|refine X.callsA [0] kc ?_))
  all_goals (refine X.ret _ (X.done rfl ?_); cbv <;> (and_intros <;> first|rfl|rfl|trivial))
 have c1:A.cmp .gtr (A.bin .rem .i64 zk 64) 0 = true:=gtT hA hzs3 (b:=0) rfl (by omega)
 have hE:W8 = 2 ^ (64 - s) * 2 ^ s:=by rw [← Nat.pow_add,Nat.sub_add_cancel (by omega)]; rfl
 have hzs0:0 ≤ A.bin .rem .i64 zk 64:=by rw [hzs3]; exact Int.natCast_nonneg _
 have h64s:A.bin .sub .i64 64 (A.bin .rem .i64 zk 64) = ((64 - s:Nat):Int):=subI hA (x:=64) (a:=64) rfl hzs3 (by omega) (by decide)
 have h64n:0 ≤ A.bin .sub .i64 64 (A.bin .rem .i64 zk 64):=by rw [h64s]; exact Int.natCast_nonneg _
 (repeat' (first|(refine X.g ?_; cbv)|refine X.splitT ?_|refine X.splitF ?_|refine X.sp (fun hc=>?_) (fun hc=>?_)|refine X.needT ?_|refine X.cutw _ _ _ _ _ _ _ _ _ c w l2 hcut hl2 ?_))
 refine X.carries (ι:={ p:Nat × Int × List (List AE.AV) // p.1 ≤ w ∧ p.2.1 = p.1 ∧ p.2.2 = ql (put L l2 (dg W8 w (Y / W8 ^ p.1 * W8 ^ p.1 + Y / 2 ^ s % W8 ^ p.1))) }) (fun p=>[(16,.v (.int .i64 p.1.2.1))]) (fun p=>[.row 1000072 1 p.1.2.2]) (fun p=>w - p.1.1) ⟨(0,0,es),Nat.zero_le _,rfl,by
  rw [hes]
  have:Y / W8 ^ 0 * W8 ^ 0 + Y / 2 ^ s % W8 ^ 0 = Y:=by simp [Nat.mod_one]
  show ql L = ql (put L l2 (dg W8 w (Y / W8 ^ 0 * W8 ^ 0 + Y / 2 ^ s % W8 ^ 0)))
  rw [this,put_self hwin]⟩ ?_ fun i B hB=>?_
 ·(cbv <;> (and_intros <;> first|rfl|trivial))
 obtain ⟨⟨i,j,ei⟩,hi,hj,hei⟩:=i
 simp only at hi hj hei
 by_cases h:i < w
 ·have c2:A.cmp .lss j (Int.ofNat w) = true:=ltT hA hj rfl h
  obtain ⟨Xi,hXi⟩:∃ x,x = Y / W8 ^ i * W8 ^ i + Y / 2 ^ s % W8 ^ i:=⟨_,rfl⟩
  rw [← hXi] at hei
  obtain ⟨r1,r2,r3,r4⟩:=right_step (m:=w) hE (Nat.two_pow_pos _) hXi h
  obtain ⟨r,hr⟩:∃ x,x = Y / W8 ^ i % W8:=⟨_,rfl⟩
  obtain ⟨t,ht⟩:∃ x,x = Y / W8 ^ (i + 1) % W8:=⟨_,rfl⟩
  rw [← hr] at r1 r2
  rw [← hr,← ht] at r3 r4
  have hrW:r < W8:=by rw [hr]; exact Nat.mod_lt _ W8pos
  have htW:t < W8:=by rw [ht]; exact Nat.mod_lt _ W8pos
  obtain ⟨v,hv⟩:∃ w:Int,w = (r:Int):=⟨_,rfl⟩
  obtain ⟨u,hu⟩:∃ w:Int,w = (t:Int):=⟨_,rfl⟩
  obtain ⟨p,hp⟩:∃ p,p = l2 + i:=⟨_,rfl⟩
  have hpl:l2 + (dg W8 w Xi).length ≤ L.length:=by rw [dg_len]; exact hlen
  have hel:ei.length = L.length:=by rw [hei,ql_len,put_len hpl]
  have hcr:ei[p]? = some [.v (.int .u64 v)]:=by
   rw [hei,hv,hp]; refine ql_get ?_
   rw [put_get hpl (by rw [dg_len]; exact h),dg_get h,r1]
  have g1:A.bin .shr .u64 v (A.bin .rem .i64 zk 64) = ((r / 2 ^ s:Nat):Int):=shrU hA hv hzs3 (by omega)
  have hat:AE.AtR p ei:=⟨by omega⟩
  obtain ⟨y', hy'⟩:∃ j' : Int,j' = ((i + 1:Nat):Int):=⟨_,rfl⟩
  have f1:A.bin .add .i64 j 1 = y' := by rw [hj,hy']; exact AE.addN hA (by omega)
  obtain ⟨k2,hk2e⟩:∃ k,k = i + 1:=⟨_,rfl⟩
  obtain ⟨p2,hp2⟩:∃ p,p = l2 + k2:=⟨_,rfl⟩
  have hkz:A.bin .add .i64 j 1 = (k2:Int):=f1.trans (by rw [hy', hk2e])
  obtain ⟨e', he'⟩:∃ x,x = ql (put L l2 (dg W8 w (Y / W8 ^ (i + 1) * W8 ^ (i + 1) + Y / 2 ^ s % W8 ^ (i + 1)))):=⟨_,rfl⟩
  by_cases hl:i + 1 < w
  ·have c3:A.cmp .lss (A.bin .add .i64 j 1) (Int.ofNat w) = true:=ltT hA hkz rfl (by omega)
   have hca:(A.lset ei p [.v (.int .u64 (A.bin .shr .u64 v (A.bin .rem .i64 zk 64)))])[p]? = some [.v (.int .u64 (A.bin .shr .u64 v (A.bin .rem .i64 zk 64)))]:=by
    rw [lsetE hA,List.getElem?_set_self (by omega)]
   have hct:(A.lset ei p [.v (.int .u64 (A.bin .shr .u64 v (A.bin .rem .i64 zk 64)))])[p2]? = some [.v (.int .u64 u)]:=by
    rw [lsetE hA,List.getElem?_set_ne (by omega),hei,hu,hp2]
    refine ql_get ?_
    rw [put_get hpl (by rw [dg_len]; omega),dg_get (by omega),hXi,ht,hk2e]
    congr 1
    have e1:Y / W8 ^ i = Y / W8 ^ (i + 1) * W8 + r:=by rw [hr]; exact two_digits.symm
    have hlow:r * W8 ^ i + Y / 2 ^ s % W8 ^ i < W8 ^ (i + 1):=by
     have h1:=Nat.mod_lt (Y / 2 ^ s) (show 0 < W8 ^ i from Nat.pow_pos W8pos)
     have h2:=Nat.mul_le_mul_right (W8 ^ i) (show r + 1 ≤ W8 from hrW)
     rw [Nat.add_mul,Nat.one_mul] at h2
     rw [Nat.pow_succ,Nat.mul_comm (W8 ^ i)]; omega
    rw [e1,Nat.add_mul,Nat.mul_assoc,Nat.mul_comm W8,← Nat.pow_succ,Nat.add_assoc,Nat.add_comm,Nat.add_mul_div_right _ _ (Nat.pow_pos W8pos),Nat.div_eq_of_lt hlow,Nat.zero_add]
   have hat2:AE.AtR p (A.lset ei p [.v (.int .u64 (A.bin .shr .u64 v (A.bin .rem .i64 zk 64)))]):=⟨by rw [lsetE hA,List.length_set]; omega⟩
   have g2:A.bin .shl .u64 u (A.bin .sub .i64 64 (A.bin .rem .i64 zk 64)) = ((t % 2 ^ s * 2 ^ (64 - s):Nat):Int):=by
    have e1:2 ^ 64 = 2 ^ s * 2 ^ (64 - s):=by rw [← Nat.pow_add,show s + (64 - s) = 64 by omega]
    rw [hu,h64s]; subst hA
    rw [shl_wrap (by omega),e1,Nat.mul_mod_mul_right]
   have g4:A.bin .or .u64 (A.bin .shr .u64 v (A.bin .rem .i64 zk 64)) (A.bin .shl .u64 u (A.bin .sub .i64 64 (A.bin .rem .i64 zk 64))) = ((r / 2 ^ s + t % 2 ^ s * 2 ^ (64 - s):Nat):Int):=by
    rw [g1,g2]; subst hA
    exact or_u64 (by omega) r2
   have f2:A.lset (A.lset ei p [.v (.int .u64 (A.bin .shr .u64 v (A.bin .rem .i64 zk 64)))]) p [.v (.int .u64 (A.bin .or .u64 (A.bin .shr .u64 v (A.bin .rem .i64 zk 64)) (A.bin .shl .u64 u (A.bin .sub .i64 64 (A.bin .rem .i64 zk 64)))))] = e' := by
    rw [g4,lsetE hA,lsetE hA,List.set_set,hei,he', ← r4,hp,← put_set hpl (by rw [dg_len]; exact h)]
    exact ql_set _ _ _
   (repeat' (first|(refine X.g ?_; cbv)|refine X.splitT ?_|refine X.splitF ?_|refine X.sp (fun hc=>?_) (fun hc=>?_)|refine X.needT ?_|refine X.drawX _ _ _ (by kernel_rfl) ?_|refine X.need _ _ _ hzs0 ?_|refine X.need _ _ _ h64n ?_|refine X.need _ _ _ hat ?_|refine X.need _ _ _ hat2 ?_|refine X.idxw _ _ _ _ _ _ _ _ i p hj h hp ?_|refine X.idxw _ _ _ _ _ _ _ _ k2 p2 hkz (show k2 < w by omega) hp2 ?_|refine X.ldq _ _ _ _ _ _ _ _ _ hcr ?_|refine X.ldq _ _ _ _ _ _ _ _ _ hca ?_|refine X.ldq _ _ _ _ _ _ _ _ _ hct ?_))
   all_goals (refine hB ⟨(i + 1,y', e'),h,hy', he'⟩ _ (by show w - (i + 1) < w - i; omega) ?_; clear hB; cbv <;> (and_intros <;> first|exact f1|exact f2|rfl|trivial))
  ·have c3:A.cmp .lss (A.bin .add .i64 j 1) (Int.ofNat w) = false:=ltF hA hkz rfl (by omega)
   have hin:i + 1 = w:=by omega
   have ht0:t = 0:=by rw [ht,hin,Nat.div_eq_of_lt hwin.lt,Nat.zero_mod]
   have f2:A.lset ei p [.v (.int .u64 (A.bin .shr .u64 v (A.bin .rem .i64 zk 64)))] = e' := by
    rw [ht0,Nat.zero_mod,Nat.zero_mul,Nat.add_zero] at r4
    rw [g1,lsetE hA,hei,he', ← r4,hp,← put_set hpl (by rw [dg_len]; exact h)]
    exact ql_set _ _ _
   (repeat' (first|(refine X.g ?_; cbv)|refine X.splitT ?_|refine X.splitF ?_|refine X.sp (fun hc=>?_) (fun hc=>?_)|refine X.needT ?_|refine X.need _ _ _ hzs0 ?_|refine X.need _ _ _ hat ?_|refine X.idxw _ _ _ _ _ _ _ _ i p hj h hp ?_|refine X.ldq _ _ _ _ _ _ _ _ _ hcr ?_))
   all_goals (refine hB ⟨(i + 1,y', e'),h,hy', he'⟩ _ (by show w - (i + 1) < w - i; omega) ?_; clear hB; cbv <;> (and_intros <;> first|exact f1|exact f2|rfl|trivial))
 ·have c2:A.cmp .lss j (Int.ofNat w) = false:=ltF hA hj rfl h
  have hin:i = w:=by omega
  have hee:ei = er:=by
   rw [hei,her,hin,Nat.div_eq_of_lt hwin.lt,Nat.zero_mul,Nat.zero_add,← hyY,Nat.mod_eq_of_lt hyw]
  subst hee
  clear hB
  (repeat' (first|(refine X.g ?_; cbv)|refine X.splitT ?_|refine X.splitF ?_|refine X.sp (fun hc=>?_) (fun hc=>?_)|refine X.needT ?_|refine X.callsA [0] kc ?_))
  all_goals (refine X.ret _ (X.done rfl ?_); cbv <;> (and_intros <;> first|rfl|rfl|trivial))
end Go.Proofs.YthadehkggddgoaaGreatDoor
end
section
set_option linter.unusedVariables false
set_option linter.unusedSimpArgs false
namespace Go.Proofs.YthadehkggddgoaaGreatDoor
open Go Go.Num
theorem ln_mono {x y:Nat} (h:x ≤ y):ln x ≤ ln y:=ln_le.2 (Nat.lt_of_le_of_lt h (ln_le.1 (Nat.le_refl _)))
theorem below_ok (L0 L1:List Nat) (lo n x lo' m y:Nat) (hw:Win L0 lo n x) (hw' : Win L1 lo' m y) (hn:n = ln x) (hm:m = ln y) (hn2:n ≤ 2 ^ 40) (hm2:m ≤ 2 ^ 40) (b:Bool) (hb:b = decide (x < y)) (e0 e1:List (List AE.AV)) (he0:e0 = ql L0) (he1:e1 = ql L1) :
  AE.ACall Tryz.prog 223 [.row 1000072 1 e0,.row 1000072 1 e1] [.w 0 1 lo n,.w 1 1 lo' m] [.row 1000072 1 e0,.row 1000072 1 e1] (.b b):=by
 refine AE.ACall.of_walk (fn:=Tryz.f223) (c:=bodyOf Tryz.f223) tabOK Tryz.func223 rfl rfl mixed fun A hA X=>?_
 have hW8:W8 = 18446744073709551616:=W8_eq
 by_cases hnm:n ≠ m
 ·have c1:A.cmp .neq (Int.ofNat n) (Int.ofNat m) = true:=neT hA rfl rfl hnm
  have hr:A.cmp .lss (Int.ofNat n) (Int.ofNat m) = b:=by
   rw [ltI hA (x:=Int.ofNat n) (y:=Int.ofNat m) rfl rfl,hb]
   congr 1
   refine propext ⟨fun h=>?_,fun h=>?_⟩
   ·apply Nat.lt_of_not_le; intro h2
    have:=ln_mono h2; omega
   ·have:=ln_mono (Nat.le_of_lt h); omega
  (repeat' (first|(refine X.g ?_; cbv)|refine X.splitT ?_|refine X.splitF ?_|refine X.sp (fun hc=>?_) (fun hc=>?_)|refine X.needT ?_))
  all_goals (refine X.ret _ (X.done rfl ?_); cbv <;> (and_intros <;> first|exact hr|rfl|trivial))
 ·have hmn:m = n:=by omega
  rw [hmn] at hw' hm hm2 ⊢
  have c1:A.cmp .neq (Int.ofNat n) (Int.ofNat n) = false:=neF hA (x:=Int.ofNat n) (y:=Int.ofNat n) rfl rfl rfl
  obtain ⟨z0,hz0⟩:∃ z:Int,z = (n:Int) - 1:=⟨_,rfl⟩
  have hini:A.bin .sub .i64 (Int.ofNat n) 1 = z0:=by
   rw [hz0]; subst hA; rw [AE.std_sub] <;> simp <;> omega
  (repeat' (first|(refine X.g ?_; cbv)|refine X.splitT ?_|refine X.splitF ?_|refine X.sp (fun hc=>?_) (fun hc=>?_)|refine X.needT ?_))
  refine X.carries (ι:={ p:Nat × Int // p.1 ≤ n ∧ p.2 = (p.1:Int) - 1 ∧ x / W8 ^ p.1 = y / W8 ^ p.1 }) (fun p=>[(5,.v (.int .i64 p.1.2))]) (fun _=>[.row 1000072 1 e0,.row 1000072 1 e1]) (fun p=>p.1.1) ⟨(n,z0),Nat.le_refl _,hz0,by rw [Nat.div_eq_of_lt hw.lt,Nat.div_eq_of_lt hw'.lt]⟩ ?_ fun i B hB=>?_
  ·(cbv <;> (and_intros <;> first|exact hini|rfl|trivial))
  obtain ⟨⟨k,j⟩,hk,hj,hxy⟩:=i
  simp only at hk hj hxy
  cases k with
  | zero =>
   have c2:A.cmp .geq j 0 = false:=by rw [AE.c_geq hA,hj]; rfl
   have hbf:false = b:=by
    rw [hb]; simp at hxy; rw [hxy]; simp
   clear hB
   (repeat' (first|(refine X.g ?_; cbv)|refine X.splitT ?_|refine X.splitF ?_|refine X.sp (fun hc=>?_) (fun hc=>?_)|refine X.needT ?_))
   all_goals (refine X.ret _ (X.done rfl ?_); cbv <;> (and_intros <;> first|exact hbf|rfl|trivial))
  | succ i =>
   have hji:j = (i:Int):=by rw [hj]; omega
   have c2:A.cmp .geq j 0 = true:=geT hA hji (b:=0) rfl (by omega)
   obtain ⟨dx,hdx⟩:∃ d,d = x / W8 ^ i % W8:=⟨_,rfl⟩
   obtain ⟨dy,hdy⟩:∃ d,d = y / W8 ^ i % W8:=⟨_,rfl⟩
   obtain ⟨wx,hwx⟩:∃ w:Int,w = (dx:Int):=⟨_,rfl⟩
   obtain ⟨wy,hwy⟩:∃ w:Int,w = (dy:Int):=⟨_,rfl⟩
   obtain ⟨p,hp⟩:∃ p,p = lo + i:=⟨_,rfl⟩
   obtain ⟨p', hp'⟩:∃ p,p = lo' + i:=⟨_,rfl⟩
   have hcx:e0[p]? = some [.v (.int .u64 wx)]:=by rw [he0,hwx,hp,hdx]; exact ql_get (hw.get (by omega))
   have hcy:e1[p']? = some [.v (.int .u64 wy)]:=by rw [he1,hwy,hp', hdy]; exact ql_get (hw'.get (by omega))
   have ex:=two_digits (B:=W8) (x:=x) (p:=i)
   have ey:=two_digits (B:=W8) (x:=y) (p:=i)
   rw [← hdx] at ex
   rw [← hdy,← hxy] at ey
   by_cases h:dx = dy
   ·have c3:A.cmp .neq wx wy = false:=neF hA hwx hwy h
    obtain ⟨j', hj'⟩:∃ j' : Int,j' = (i:Int) - 1:=⟨_,rfl⟩
    have f1:A.bin .sub .i64 j 1 = j' := (by rw [hji,hj']; subst hA; rw [AE.std_sub] <;> omega)
    have hxy2:x / W8 ^ i = y / W8 ^ i:=by rw [← ex,← ey,h]
    (repeat' (first|(refine X.g ?_; cbv)|refine X.splitT ?_|refine X.splitF ?_|refine X.sp (fun hc=>?_) (fun hc=>?_)|refine X.needT ?_|refine X.drawX _ _ _ (by kernel_rfl) ?_|refine X.idxw _ _ _ _ _ _ _ _ i p hji (show i < n by omega) hp ?_|refine X.idxw _ _ _ _ _ _ _ _ i p' hji (show i < n by omega) hp' ?_|refine X.ldq _ _ _ _ _ _ _ _ _ hcx ?_|refine X.ldq _ _ _ _ _ _ _ _ _ hcy ?_))
    all_goals (refine hB ⟨(i,j'),by show i ≤ n; omega,hj', hxy2⟩ _ (by show i < i + 1; omega) ?_; clear hB; cbv <;> (and_intros <;> first|exact f1|rfl|trivial))
   ·have c3:A.cmp .neq wx wy = true:=neT hA hwx hwy h
    have hr:A.cmp .lss wx wy = b:=by
     rw [ltI hA hwx hwy,hb]
     congr 1
     refine propext ⟨fun h2=>?_,fun h2=>?_⟩
     ·apply Nat.lt_of_not_le; intro h3
      have:=Nat.div_le_div_right (c:=W8 ^ i) h3
      omega
     ·apply Nat.lt_of_not_le; intro h3
      have:=Nat.div_le_div_right (c:=W8 ^ i) (Nat.le_of_lt h2)
      omega
    clear hB
    (repeat' (first|(refine X.g ?_; cbv)|refine X.splitT ?_|refine X.splitF ?_|refine X.sp (fun hc=>?_) (fun hc=>?_)|refine X.needT ?_|refine X.drawX _ _ _ (by kernel_rfl) ?_|refine X.idxw _ _ _ _ _ _ _ _ i p hji (show i < n by omega) hp ?_|refine X.idxw _ _ _ _ _ _ _ _ i p' hji (show i < n by omega) hp' ?_|refine X.ldq _ _ _ _ _ _ _ _ _ hcx ?_|refine X.ldq _ _ _ _ _ _ _ _ _ hcy ?_))
    all_goals (refine X.ret _ (X.done rfl ?_); cbv <;> (and_intros <;> first|exact hr|rfl|trivial))
theorem minus_ok (L0 L1:List Nat) (lo n x lo' m y z k:Nat) (hw:Win L0 lo n x) (hw' : Win L1 lo' m y) (hle:y ≤ x) (hn2:n ≤ 2 ^ 40) (hm2:m ≤ 2 ^ 40) (hz:z = x - y) (hk:k = ln z) (e0 e1 er:List (List AE.AV)) (he0:e0 = ql L0) (he1:e1 = ql L1) (her:er = ql (put L0 lo (dg W8 n z))) :
  AE.ACall Tryz.prog 224 [.row 1000072 1 e0,.row 1000072 1 e1] [.w 0 1 lo n,.w 1 1 lo' m] [.row 1000072 1 er,.row 1000072 1 e1] (.w 0 1 lo k):=by
 refine AE.ACall.of_walk (fn:=Tryz.f224) (c:=bodyOf Tryz.f224) tabOK Tryz.func224 rfl rfl mixed fun A hA X=>?_
 have hW8:W8 = 18446744073709551616:=W8_eq
 have hxn:=hw.lt
 have hlen:=hw.len
 have kc:=cut_ok (put L0 lo (dg W8 n z)) lo n z k (put_win hlen (by omega)) hn2 hk er her
 (refine X.g ?_; cbv)
 refine X.carries (ι:={ p:Nat × Int × Int × List (List AE.AV) // p.1 ≤ n ∧ p.2.1 = p.1 ∧ ∃ Z be:Nat,Z + y % W8 ^ p.1 = x % W8 ^ p.1 + be * W8 ^ p.1 ∧ Z < W8 ^ p.1 ∧ be ≤ 1 ∧ p.2.2.1 = (be:Int) ∧ p.2.2.2 = ql (put L0 lo (dg W8 n (x / W8 ^ p.1 * W8 ^ p.1 + Z))) }) (fun p=>[(10,.v (.int .i64 p.1.2.1)),(5,.v (.int .u64 p.1.2.2.1))]) (fun p=>[.row 1000072 1 p.1.2.2.2,.row 1000072 1 e1]) (fun p=>n - p.1.1) ⟨(0,0,0,e0),Nat.zero_le _,rfl,0,0,by simp [Nat.mod_one],by simp,by decide,rfl,by
  rw [he0]
  have:x / W8 ^ 0 * W8 ^ 0 + 0 = x:=by simp
  show ql L0 = ql (put L0 lo (dg W8 n (x / W8 ^ 0 * W8 ^ 0 + 0)))
  rw [this,put_self hw]⟩ ?_ fun i B hB=>?_
 ·(cbv <;> (and_intros <;> first|rfl|trivial))
 obtain ⟨⟨i,j,c,ei⟩,hi,hj,Z,be,hZ,hlt,hbe,hc,hei⟩:=i
 simp only at hi hj hZ hlt hc hei
 have hP:0 < W8 ^ i:=Nat.pow_pos W8pos
 by_cases h:i < n
 ·have c1:A.cmp .lss j (Int.ofNat n) = true:=ltT hA hj rfl h
  obtain ⟨dx,hdx⟩:∃ d,d = x / W8 ^ i % W8:=⟨_,rfl⟩
  obtain ⟨dy,hdy⟩:∃ d,d = y / W8 ^ i % W8:=⟨_,rfl⟩
  have hdxW:dx < W8:=by rw [hdx]; exact Nat.mod_lt _ W8pos
  have hdyW:dy < W8:=by rw [hdy]; exact Nat.mod_lt _ W8pos
  obtain ⟨wx,hwx⟩:∃ w:Int,w = (dx:Int):=⟨_,rfl⟩
  obtain ⟨wy,hwy⟩:∃ w:Int,w = (dy:Int):=⟨_,rfl⟩
  obtain ⟨p,hp⟩:∃ p,p = lo + i:=⟨_,rfl⟩
  obtain ⟨p', hp'⟩:∃ p,p = lo' + i:=⟨_,rfl⟩
  obtain ⟨Xi,hXi⟩:∃ v,v = x / W8 ^ i * W8 ^ i + Z:=⟨_,rfl⟩
  rw [← hXi] at hei
  have hV:Xi = x / W8 ^ (i + 1) * W8 ^ (i + 1) + dx * W8 ^ i + Z:=by
   have h1:=two_digits (B:=W8) (x:=x) (p:=i)
   rw [← hdx] at h1
   rw [hXi,← h1,Nat.add_mul,Nat.mul_assoc,Nat.mul_comm W8,← Nat.pow_succ]
  have hpl:lo + (dg W8 n Xi).length ≤ L0.length:=by rw [dg_len]; exact hlen
  have hcx:ei[p]? = some [.v (.int .u64 wx)]:=by
   rw [hei,hwx,hp]; refine ql_get ?_
   rw [put_get hpl (by rw [dg_len]; exact h),dg_get h,hXi,Nat.add_comm,Nat.add_mul_div_right _ _ hP,Nat.div_eq_of_lt hlt,Nat.zero_add,hdx]
  have hat:AE.AtR p ei:=⟨by rw [hei,ql_len,put_len hpl]; omega⟩
  obtain ⟨s1,s2,s3⟩:=borrow_step hP hZ.symm.symm hlt W8 hdxW hbe hdyW
  obtain ⟨b', hb'⟩:∃ b', b' = if dx < be + dy then 1 else 0:=⟨_,rfl⟩
  obtain ⟨d,hd⟩:∃ d,d = dx + b' * W8 - be - dy:=⟨_,rfl⟩
  rw [← hb', ← hd] at s1 s2
  rw [← hb', ← hd] at s3
  obtain ⟨j', hj'⟩:∃ j' : Int,j' = ((i + 1:Nat):Int):=⟨_,rfl⟩
  have f1:A.bin .add .i64 j 1 = j' := by rw [hj,hj']; exact AE.addN hA (by omega)
  obtain ⟨c', hc'⟩:∃ c' : Int,c' = (b' : Int):=⟨_,rfl⟩
  obtain ⟨zd,hzd⟩:∃ c' : Int,c' = (d:Int):=⟨_,rfl⟩
  obtain ⟨e', he'⟩:∃ e', e' = ql (put L0 lo (dg W8 n (x / W8 ^ (i + 1) * W8 ^ (i + 1) + (Z + d * W8 ^ i)))):=⟨_,rfl⟩
  have hdd:d = (dx + 18446744073709551616 - dy - be) % 18446744073709551616:=by
   rw [hd,hb']
   by_cases hx:dx < be + dy
   ·rw [if_pos hx]; omega
   ·rw [if_neg hx]; omega
  have hbb:b' = if dx < dy + be then 1 else 0:=by rw [hb', Nat.add_comm]
  have ks:=sub64_ok dx dy be hbe wx wy c zd c' hwx hwy hc (by rw [hzd,hdd]) (by rw [hc', hbb])
  have f2:A.lset ei p [.v (.int .u64 zd)] = e' := by
   have h3:=dg_set (B:=W8) (m:=n) (i:=i) (c:=dx) (d:=d) (lo:=Z) (hi:=x / W8 ^ (i + 1)) W8pos hdxW s3 hlt h
   rw [lsetE hA,hei,hzd,ql_set,hp,put_set hpl (by rw [dg_len]; exact h),hV,h3,he', Nat.add_assoc,Nat.add_comm Z]
  have hinv:∃ Z' be' : Nat,Z' + y % W8 ^ (i + 1) = x % W8 ^ (i + 1) + be' * W8 ^ (i + 1) ∧ Z' < W8 ^ (i + 1) ∧ be' ≤ 1 ∧ c' = (be' : Int) ∧ e' = ql (put L0 lo (dg W8 n (x / W8 ^ (i + 1) * W8 ^ (i + 1) + Z'))) :=
   ⟨Z + d * W8 ^ i,b', by rw [mod_succ,mod_succ,← hdx,← hdy,Nat.pow_succ]; exact s1,by rw [Nat.pow_succ]; exact s2,by rw [hb']; split <;> omega,hc', he'⟩
  by_cases hm3:i < m
  ·have c2:A.cmp .lss j (Int.ofNat m) = true:=ltT hA hj rfl hm3
   have hcy:e1[p']? = some [.v (.int .u64 wy)]:=by rw [he1,hwy,hp', hdy]; exact ql_get (hw'.get hm3)
   (repeat' (first|(refine X.g ?_; cbv)|refine X.splitT ?_|refine X.splitF ?_|refine X.sp (fun hc=>?_) (fun hc=>?_)|refine X.needT ?_|refine X.need _ _ _ hat ?_|refine X.idxw _ _ _ _ _ _ _ _ i p hj h hp ?_|refine X.idxw _ _ _ _ _ _ _ _ i p' hj hm3 hp' ?_|refine X.ldq _ _ _ _ _ _ _ _ _ hcx ?_|refine X.ldq _ _ _ _ _ _ _ _ _ hcy ?_|refine X.callsA [] ks ?_))
   all_goals (refine hB ⟨(i + 1,j', c', e'),h,hj', hinv⟩ _ (by show n - (i + 1) < n - i; omega) ?_; clear hB; cbv <;> (and_intros <;> first|exact f1|exact f2|rfl|trivial))
  ·have c2:A.cmp .lss j (Int.ofNat m) = false:=ltF hA hj rfl hm3
   have hy0:wy = 0:=by rw [hwy,hdy,digit_zero W8pos hw'.lt (by omega)]; rfl
   subst hy0
   (repeat' (first|(refine X.g ?_; cbv)|refine X.splitT ?_|refine X.splitF ?_|refine X.sp (fun hc=>?_) (fun hc=>?_)|refine X.needT ?_|refine X.need _ _ _ hat ?_|refine X.idxw _ _ _ _ _ _ _ _ i p hj h hp ?_|refine X.ldq _ _ _ _ _ _ _ _ _ hcx ?_|refine X.callsA [] ks ?_))
   all_goals (refine hB ⟨(i + 1,j', c', e'),h,hj', hinv⟩ _ (by show n - (i + 1) < n - i; omega) ?_; clear hB; cbv <;> (and_intros <;> first|exact f1|exact f2|rfl|trivial))
 ·have c1:A.cmp .lss j (Int.ofNat n) = false:=ltF hA hj rfl h
  have hin:i = n:=by omega
  have hee:ei = er:=by
   rw [hin,Nat.mod_eq_of_lt hxn,Nat.mod_eq_of_lt (show y < W8 ^ n by omega)] at hZ
   rw [hin] at hlt
   have hb0:be = 0:=by
    rcases Nat.eq_zero_or_pos be with h0|h0
    ·exact h0
    ·have:be = 1:=by omega
     rw [this,Nat.one_mul] at hZ; omega
   rw [hb0] at hZ
   rw [hei,her,hin,Nat.div_eq_of_lt hxn,Nat.zero_mul,Nat.zero_add,show Z = z by omega]
  subst hee
  clear hB
  (repeat' (first|(refine X.g ?_; cbv)|refine X.splitT ?_|refine X.splitF ?_|refine X.sp (fun hc=>?_) (fun hc=>?_)|refine X.needT ?_|refine X.callsA [0] kc ?_))
  all_goals (refine X.ret _ (X.done rfl ?_); cbv <;> (and_intros <;> first|rfl|rfl|trivial))
end Go.Proofs.YthadehkggddgoaaGreatDoor
end
