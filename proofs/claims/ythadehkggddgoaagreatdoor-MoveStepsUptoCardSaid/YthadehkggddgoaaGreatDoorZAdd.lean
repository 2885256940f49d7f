/- Contract: nat.Add. Contracts: nat.less, nat.Sub. -/
import Derived.Test.YthadehkggddgoaaGreatDoorZText
import Derived.Test.YthadehkggddgoaaGreatDoorZBits
set_option maxRecDepth 100000
set_option maxHeartbeats 0
section
set_option linter.unusedVariables false
set_option linter.unusedSimpArgs false
namespace Go.Proofs.YthadehkggddgoaaGreatDoor
open Go Go.Num
theorem Wpos:0 < W:=by decide
theorem textD_ok (m v:Nat) (hv:v < W ^ m) (hm:m ≤ 2 ^ 40) (r:ByteArray) (hr:r = enc v) (es:List (List AE.AV)) (hes:es = wl (dg W m v)) :
  AE.ACall Tryz.prog 160 [.row 1000215 1 es] [.w 0 1 0 m] [.row 1000215 1 es] (.v (.string r)) :=
 text_ok (dg W m v) (dg_all Wpos) 0 m (by rw [dg_len]; omega) hm r (by rw [hr,List.drop_zero,List.take_of_length_le (by rw [dg_len]; exact Nat.le_refl _),wv_dg Wpos,Nat.mod_eq_of_lt hv]) es hes
theorem wn_le (x:Nat):wn x ≤ (enc x).size:=by unfold wn; omega
theorem add_ok (a b:ByteArray) (ha:a.size ≤ 2 ^ 38) (hb:b.size ≤ 2 ^ 38) (r:ByteArray) (hr:r = enc (bv a + bv b)):AE.ACall Tryz.prog 153 [] [.v (.string a),.v (.string b)] [] (.v (.string r)):=by
 refine AE.ACall.of_walk (fn:=Tryz.f153) (c:=bodyOf Tryz.f153) tabOK Tryz.func153 rfl rfl mixed fun A hA X=>?_
 obtain ⟨x,hx⟩:∃ x,x = bv a:=⟨_,rfl⟩
 obtain ⟨y,hy⟩:∃ y,y = bv b:=⟨_,rfl⟩
 rw [← hx,← hy] at hr
 obtain ⟨s,hs⟩:∃ s,s = enc x:=⟨_,rfl⟩
 obtain ⟨t,ht⟩:∃ t,t = enc y:=⟨_,rfl⟩
 have k1:=trim_ok a s (by rw [hs,hx])
 have k2:=trim_ok b t (by rw [ht,hy])
 have vs:bv s = x:=by rw [hs,bv_enc]
 have vt:bv t = y:=by rw [ht,bv_enc]
 have zs:s.size ≤ 2 ^ 38:=by rw [hs,hx]; exact Nat.le_trans (enc_size_bv a) ha
 have zt:t.size ≤ 2 ^ 38:=by rw [ht,hy]; exact Nat.le_trans (enc_size_bv b) hb
 have l1:A.cmp .lss (A.slen s) 8 = decide (s.size < 8):=ltI hA (slen hA s) rfl
 have l2:A.cmp .lss (A.slen t) 8 = decide (t.size < 8):=ltI hA (slen hA t) rfl
 by_cases hsm:s.size < 8 ∧ t.size < 8
 ·have c1:A.cmp .lss (A.slen s) 8 = true:=by rw [l1]; simpa using hsm.1
  have c2:A.cmp .lss (A.slen t) 8 = true:=by rw [l2]; simpa using hsm.2
  have hx7:x < 256 ^ 7:=by rw [← enc_size,← hs]; omega
  have hy7:y < 256 ^ 7:=by rw [← enc_size,← ht]; omega
  obtain ⟨zx,hzx⟩:∃ z:Int,z = (x:Int):=⟨_,rfl⟩
  obtain ⟨zy,hzy⟩:∃ z:Int,z = (y:Int):=⟨_,rfl⟩
  have k3:=short_ok s (by omega) zx (by rw [hzx,vs])
  have k4:=short_ok t (by omega) zy (by rw [hzy,vt])
  have k5:=fromShort_ok (x + y) (by omega) (A.bin .add .u64 zx zy) (addU hA hzx hzy (by omega)) r hr
  (repeat' (first|(refine X.g ?_; cbv)|refine X.splitT ?_|refine X.splitF ?_|refine X.sp (fun hc=>?_) (fun hc=>?_)|refine X.callsA [] k1 ?_|refine X.callsA [] k2 ?_|refine X.callsA [] k3 ?_|refine X.callsA [] k4 ?_|refine X.callsA [] k5 ?_|refine X.needT ?_))
  all_goals (refine X.ret _ (X.done rfl ?_); cbv <;> (and_intros <;> first|rfl|trivial))
 obtain ⟨m,hm⟩:∃ m,m = wn x:=⟨_,rfl⟩
 obtain ⟨n,hn⟩:∃ n,n = wn y:=⟨_,rfl⟩
 obtain ⟨ex,hex⟩:∃ ex,ex = wl (dg W m x):=⟨_,rfl⟩
 obtain ⟨ey,hey⟩:∃ ey,ey = wl (dg W n y):=⟨_,rfl⟩
 have hmb:m ≤ 2 ^ 38:=by have:=wn_le x; rw [← hs] at this; omega
 have hnb:n ≤ 2 ^ 38:=by have:=wn_le y; rw [← ht] at this; omega
 have k6:=words_ok s (by omega) m (by rw [vs]; exact hm) ex (by rw [hex,vs])
 have k7:=words_ok t (by omega) n (by rw [vt]; exact hn) ey (by rw [hey,vt])
 have lxy:A.cmp .lss (Int.ofNat m) (Int.ofNat n) = decide (m < n):=ltI hA rfl rfl
 have hxm:x < W ^ m:=by rw [hm]; exact wn_lt x
 have hyn:y < W ^ n:=by rw [hn]; exact wn_lt y
 have hns:A.cmp .lss (A.slen s) 8 = true → A.cmp .lss (A.slen t) 8 = true → False:=fun h1 h2=>hsm ⟨by rw [l1] at h1; simpa using h1,by rw [l2] at h2; simpa using h2⟩
 (repeat' (first|(refine X.g ?_; cbv)|refine X.splitT ?_|refine X.splitF ?_|refine X.sp (fun hc=>?_) (fun hc=>?_)|refine X.callsA [] k1 ?_|refine X.callsA [] k2 ?_|refine X.needT ?_))
 all_goals first
  | exact (hns (by assumption) (by assumption)).elim
  | skip
 all_goals
  by_cases hsw:m < n
  ·have c0:A.cmp .lss (Int.ofNat m) (Int.ofNat n) = true:=by rw [lxy]; simpa using hsw
   have hle:m ≤ n:=by omega
   have hsum:y + x < W ^ (n + 1):=by
    have h1:W ^ m ≤ W ^ n:=Nat.pow_le_pow_right Wpos hle
    have h2:2 * W ^ n ≤ W ^ (n + 1):=by rw [Nat.pow_succ,Nat.mul_comm]; exact Nat.mul_le_mul_left _ (by decide)
    omega
   obtain ⟨zo,hzo⟩:∃ z:Int,z = ((n + 1:Nat):Int):=⟨_,rfl⟩
   have ho1:A.bin .add .i64 (Int.ofNat n) 1 = zo:=by rw [hzo]; exact addI hA rfl rfl (by omega)
   have hmake:AE.MakeR (A.bin .add .i64 (Int.ofNat n) 1) (A.bin .add .i64 (Int.ofNat n) 1) 4:=by rw [ho1,hzo]; constructor <;> omega
   obtain ⟨e0,he0⟩:∃ e0,e0 = wl (dg W (n + 1) 0):=⟨_,rfl⟩
   have hrep:A.lrep (A.bin .add .i64 (Int.ofNat n) 1) [.v (.int .u32 0)] = e0:=by
    rw [ho1,hzo,he0,dg_zero,← wl_rep]; subst hA; rfl
   refine X.calls [] k6 (by cbv) ?_ (by cbv) ?_
   ·cbv
   (repeat' (first|(refine X.g ?_; cbv)|refine X.splitT ?_|refine X.splitF ?_|refine X.sp (fun hc=>?_) (fun hc=>?_)|refine X.needT ?_))
   refine X.calls [] k7 (by cbv) ?_ (by cbv) ?_
   ·cbv
   (repeat' (first|(refine X.g ?_; cbv)|refine X.splitT ?_|refine X.splitF ?_|refine X.sp (fun hc=>?_) (fun hc=>?_)|refine X.need _ _ _ hmake ?_|refine X.needT ?_))
   refine X.loopG _ _ _ (X.fix 2 _ _ _ _ _ rfl (by decide) ?_)
   (refine X.g ?_; cbv)
   refine X.carries (ι:={ p:Nat × Int × Int × List (List AE.AV) // p.1 ≤ n ∧ p.2.1 = p.1 ∧ p.2.2.1 = (((y % W ^ p.1 + x % W ^ p.1) / W ^ p.1:Nat):Int) ∧ p.2.2.2 = wl (dg W (n + 1) ((y % W ^ p.1 + x % W ^ p.1) % W ^ p.1)) }) (fun p=>[(46,.v (.int .i64 p.1.2.1)),(8,.v (.int .u64 p.1.2.2.1))]) (fun p=>[.row 1000215 1 ex,.row 1000215 1 ey,.row 1000215 1 p.1.2.2.2]) (fun p=>n - p.1.1) ⟨(0,0,0,e0),Nat.zero_le _,rfl,by simp [Nat.mod_one],by rw [he0]; simp [Nat.mod_one]⟩ ?_ fun i B hB=>?_
   ·(cbv <;> (and_intros <;> first|exact hrep|rfl|trivial))
   obtain ⟨⟨i,j,c,ei⟩,hi,hj,hc,hei⟩:=i
   simp only at hi hj hc hei ⊢
   obtain ⟨S,hS⟩:∃ S,S = y % W ^ i + x % W ^ i:=⟨_,rfl⟩
   rw [← hS] at hc hei
   have hPi:0 < W ^ i:=Nat.pow_pos Wpos
   have hSb:S < 2 * W ^ i:=by
    have h1:=Nat.mod_lt y hPi
    have h2:=Nat.mod_lt x hPi
    omega
   obtain ⟨cn,hcn⟩:∃ cn,cn = S / W ^ i:=⟨_,rfl⟩
   obtain ⟨o,ho⟩:∃ o,o = S % W ^ i:=⟨_,rfl⟩
   rw [← hcn] at hc
   rw [← ho] at hei
   have hoP:o < W ^ i:=by rw [ho]; exact Nat.mod_lt _ hPi
   have hcn1:cn ≤ 1:=by rw [hcn]; exact Nat.le_of_lt_succ (by rw [Nat.div_lt_iff_lt_mul hPi]; omega)
   have hSo:S = o + cn * W ^ i:=by rw [ho,hcn,Nat.mul_comm]; exact (Nat.mod_add_div _ _).symm
   have hel:ei.length = n + 1:=by rw [hei,wl_len,dg_len]
   by_cases h:i < n
   ·have c1:A.cmp .lss j (Int.ofNat n) = true:=ltT hA hj rfl h
    obtain ⟨dx,hdx⟩:∃ d,d = y / W ^ i % W:=⟨_,rfl⟩
    obtain ⟨dy,hdy⟩:∃ d,d = x / W ^ i % W:=⟨_,rfl⟩
    have hdxW:dx < W:=by rw [hdx]; exact Nat.mod_lt _ Wpos
    have hdyW:dy < W:=by rw [hdy]; exact Nat.mod_lt _ Wpos
    have hW:W = 4294967296:=W_eq
    obtain ⟨wx,hwx⟩:∃ w:Int,w = (dx:Int):=⟨_,rfl⟩
    obtain ⟨wy,hwy⟩:∃ w:Int,w = (dy:Int):=⟨_,rfl⟩
    have hcx:ey[i]? = some [.v (.int .u32 wx)]:=by rw [hey,hwx,hdx]; exact wl_get (dg_get h)
    have hat:AE.AtR i ei:=⟨by omega⟩
    obtain ⟨j', hj'⟩:∃ j' : Int,j' = ((i + 1:Nat):Int):=⟨_,rfl⟩
    have e1:A.bin .add .i64 j 1 = j' := by rw [hj,hj']; exact AE.addN hA (by omega)
    have s1:A.bin .add .u64 c (A.conv .u64 wx) = ((cn + dx:Nat):Int):=addU hA hc (cv64 hA hwx (by omega)) (by omega)
    have hnew:(y % W ^ (i + 1) + x % W ^ (i + 1)) = S + (dx + dy) * W ^ i:=by rw [mod_succ,mod_succ,← hdx,← hdy,hS,Nat.add_mul]; omega
    obtain ⟨hn1,hn2⟩:=split_pow (e:=dx + dy) Wpos hSo hoP
    rw [← hnew] at hn1 hn2
    obtain ⟨c', hc'⟩:∃ c' : Int,c' = (((y % W ^ (i + 1) + x % W ^ (i + 1)) / W ^ (i + 1):Nat):Int):=⟨_,rfl⟩
    obtain ⟨e', he'⟩:∃ e', e' = wl (dg W (n + 1) ((y % W ^ (i + 1) + x % W ^ (i + 1)) % W ^ (i + 1))):=⟨_,rfl⟩
    have hset:∀ v:Int,v = ((cn + dx + dy:Nat):Int) → A.lset ei i [.v (.int .u32 (A.conv .u32 v))] = e' := fun v hv=>by
     have h3:(cn + (dx + dy)) % W < W:=Nat.mod_lt _ Wpos
     rw [cv32 hA hv,hei,he', hn1,← dg_put Wpos h3 hoP (by omega)]
     have:∀ (es:List (List AE.AV)) (i:Nat) (c:List AE.AV),A.lset es i c = es.set i c:=by subst hA; exact fun _ _ _=>rfl
     rw [this,show cn + dx + dy = cn + (dx + dy) by omega]
     exact wl_set _ _ _
    have hcar:∀ v:Int,v = ((cn + dx + dy:Nat):Int) → A.bin .shr .u64 v 32 = c' := fun v hv=>by
     exact (shrU hA hv (y:=32) (b:=32) rfl (by decide)).trans (by rw [hc', hn2,show cn + dx + dy = cn + (dx + dy) by omega]; rfl)
    by_cases hk:i < m
    ·have c2:A.cmp .lss j (Int.ofNat m) = true:=ltT hA hj rfl hk
     have hcy:ex[i]? = some [.v (.int .u32 wy)]:=by rw [hex,hwy,hdy]; exact wl_get (dg_get hk)
     have s2:A.bin .add .u64 (A.bin .add .u64 c (A.conv .u64 wx)) (A.conv .u64 wy) = ((cn + dx + dy:Nat):Int):=addU hA s1 (cv64 hA hwy (by omega)) (by omega)
     have e2:=hset _ s2
     have e3:=hcar _ s2
     repeat' (first|(refine X.g ?_; cbv)|refine X.splitT ?_|refine X.splitF ?_|refine X.sp (fun hc=>?_) (fun hc=>?_)|refine X.need _ _ _ hat ?_|refine X.need _ _ _ trivial ?_|refine X.idxw _ _ _ _ _ _ _ _ i i hj h (Nat.zero_add i).symm ?_|refine X.idxw _ _ _ _ _ _ _ _ i i hj hk (Nat.zero_add i).symm ?_|refine X.ldq _ _ _ _ _ _ _ _ _ hcx ?_|refine X.ldq _ _ _ _ _ _ _ _ _ hcy ?_|refine X.idxA i hat hj ?_|fail)
     all_goals (refine hB ⟨(i + 1,j', c', e'),h,hj', hc', he'⟩ _ (by show n - (i + 1) < n - i; omega) ?_; clear hB; cbv <;> (and_intros <;> first|exact e1|exact e2|exact e3|rfl|trivial))
    ·have c2:A.cmp .lss j (Int.ofNat m) = false:=ltF hA hj rfl hk
     have hz:dy = 0:=by rw [hdy]; exact digit_zero Wpos hxm (by omega)
     have s2:A.bin .add .u64 c (A.conv .u64 wx) = ((cn + dx + dy:Nat):Int):=by rw [s1,hz]; rfl
     have e2:=hset _ s2
     have e3:=hcar _ s2
     repeat' (first|(refine X.g ?_; cbv)|refine X.splitT ?_|refine X.splitF ?_|refine X.sp (fun hc=>?_) (fun hc=>?_)|refine X.need _ _ _ hat ?_|refine X.need _ _ _ trivial ?_|refine X.idxw _ _ _ _ _ _ _ _ i i hj h (Nat.zero_add i).symm ?_|refine X.ldq _ _ _ _ _ _ _ _ _ hcx ?_|refine X.idxA i hat hj ?_|fail)
     all_goals (refine hB ⟨(i + 1,j', c', e'),h,hj', hc', he'⟩ _ (by show n - (i + 1) < n - i; omega) ?_; clear hB; cbv <;> (and_intros <;> first|exact e1|exact e2|exact e3|rfl|trivial))
   ·have c1:A.cmp .lss j (Int.ofNat n) = false:=ltF hA hj rfl h
    have him:i = n:=by omega
    have hSt:S = x + y:=by
     have h1:W ^ m ≤ W ^ n:=Nat.pow_le_pow_right Wpos hle
     rw [hS,him,Nat.mod_eq_of_lt hyn,Nat.mod_eq_of_lt (by omega)]; omega
    have hat:AE.AtR n ei:=⟨by omega⟩
    have hcw:cn < W:=by have:W = 4294967296:=W_eq; omega
    obtain ⟨ef,hef⟩:∃ e,e = wl (dg W (n + 1) (x + y)):=⟨_,rfl⟩
    have e2:A.lset ei n [.v (.int .u32 (A.conv .u32 c))] = ef:=by
     have:∀ (es:List (List AE.AV)) (i:Nat) (c:List AE.AV),A.lset es i c = es.set i c:=by subst hA; exact fun _ _ _=>rfl
     rw [this,cv32 hA hc,show cn % 2 ^ 32 = cn from Nat.mod_eq_of_lt hcw,hei,hef]
     have h4:=dg_put Wpos hcw (o:=o) (i:=n) (m:=n + 1) (by rw [← him]; exact hoP) (by omega)
     rw [← hSt,hSo,him,← h4]
     exact wl_set _ _ _
    obtain ⟨M1,hM1⟩:∃ M1,M1 = n + 1:=⟨_,rfl⟩
    have k8:=textD_ok M1 (x + y) (by rw [show x + y = y + x by omega,hM1]; exact hsum) (by omega) r hr ef (by rw [hM1]; exact hef)
    have hlen2:M1 = (A.lset ei n [.v (.int .u32 (A.conv .u32 c))]).length:=by rw [e2,hef,wl_len,dg_len,hM1]
    clear hB
    repeat' (first|(refine X.g ?_; cbv)|refine X.splitT ?_|refine X.splitF ?_|refine X.sp (fun hc=>?_) (fun hc=>?_)|refine X.need _ _ _ hat ?_|refine X.need _ _ _ trivial ?_|refine X.idxA n hat rfl ?_|fail)
    refine X.callW _ _ _ _ _ 2 1 M1 _ rfl hlen2 ?_
    cbv
    rw [← e2] at k8
    refine X.calls [2] k8 (by cbv) ?_ (by cbv) ?_
    ·cbv
    (repeat' (first|(refine X.g ?_; cbv)|refine X.splitT ?_|refine X.splitF ?_|refine X.sp (fun hc=>?_) (fun hc=>?_)|refine X.needT ?_))
    all_goals (refine X.ret _ (X.done rfl ?_); cbv <;> (and_intros <;> first|rfl|trivial))
  ·have c0:A.cmp .lss (Int.ofNat m) (Int.ofNat n) = false:=by rw [lxy]; simpa using hsw
   have hle:n ≤ m:=by omega
   have hsum:x + y < W ^ (m + 1):=by
    have h1:W ^ n ≤ W ^ m:=Nat.pow_le_pow_right Wpos hle
    have h2:2 * W ^ m ≤ W ^ (m + 1):=by rw [Nat.pow_succ,Nat.mul_comm]; exact Nat.mul_le_mul_left _ (by decide)
    omega
   obtain ⟨zo,hzo⟩:∃ z:Int,z = ((m + 1:Nat):Int):=⟨_,rfl⟩
   have ho1:A.bin .add .i64 (Int.ofNat m) 1 = zo:=by rw [hzo]; exact addI hA rfl rfl (by omega)
   have hmake:AE.MakeR (A.bin .add .i64 (Int.ofNat m) 1) (A.bin .add .i64 (Int.ofNat m) 1) 4:=by rw [ho1,hzo]; constructor <;> omega
   obtain ⟨e0,he0⟩:∃ e0,e0 = wl (dg W (m + 1) 0):=⟨_,rfl⟩
   have hrep:A.lrep (A.bin .add .i64 (Int.ofNat m) 1) [.v (.int .u32 0)] = e0:=by
    rw [ho1,hzo,he0,dg_zero,← wl_rep]; subst hA; rfl
   refine X.calls [] k6 (by cbv) ?_ (by cbv) ?_
   ·cbv
   (repeat' (first|(refine X.g ?_; cbv)|refine X.splitT ?_|refine X.splitF ?_|refine X.sp (fun hc=>?_) (fun hc=>?_)|refine X.needT ?_))
   refine X.calls [] k7 (by cbv) ?_ (by cbv) ?_
   ·cbv
   (repeat' (first|(refine X.g ?_; cbv)|refine X.splitT ?_|refine X.splitF ?_|refine X.sp (fun hc=>?_) (fun hc=>?_)|refine X.need _ _ _ hmake ?_|refine X.needT ?_))
   refine X.loopG _ _ _ (X.fix 2 _ _ _ _ _ rfl (by decide) ?_)
   (refine X.g ?_; cbv)
   refine X.carries (ι:={ p:Nat × Int × Int × List (List AE.AV) // p.1 ≤ m ∧ p.2.1 = p.1 ∧ p.2.2.1 = (((x % W ^ p.1 + y % W ^ p.1) / W ^ p.1:Nat):Int) ∧ p.2.2.2 = wl (dg W (m + 1) ((x % W ^ p.1 + y % W ^ p.1) % W ^ p.1)) }) (fun p=>[(46,.v (.int .i64 p.1.2.1)),(8,.v (.int .u64 p.1.2.2.1))]) (fun p=>[.row 1000215 1 ex,.row 1000215 1 ey,.row 1000215 1 p.1.2.2.2]) (fun p=>m - p.1.1) ⟨(0,0,0,e0),Nat.zero_le _,rfl,by simp [Nat.mod_one],by rw [he0]; simp [Nat.mod_one]⟩ ?_ fun i B hB=>?_
   ·(cbv <;> (and_intros <;> first|exact hrep|rfl|trivial))
   obtain ⟨⟨i,j,c,ei⟩,hi,hj,hc,hei⟩:=i
   simp only at hi hj hc hei ⊢
   obtain ⟨S,hS⟩:∃ S,S = x % W ^ i + y % W ^ i:=⟨_,rfl⟩
   rw [← hS] at hc hei
   have hPi:0 < W ^ i:=Nat.pow_pos Wpos
   have hSb:S < 2 * W ^ i:=by
    have h1:=Nat.mod_lt x hPi
    have h2:=Nat.mod_lt y hPi
    omega
   obtain ⟨cn,hcn⟩:∃ cn,cn = S / W ^ i:=⟨_,rfl⟩
   obtain ⟨o,ho⟩:∃ o,o = S % W ^ i:=⟨_,rfl⟩
   rw [← hcn] at hc
   rw [← ho] at hei
   have hoP:o < W ^ i:=by rw [ho]; exact Nat.mod_lt _ hPi
   have hcn1:cn ≤ 1:=by rw [hcn]; exact Nat.le_of_lt_succ (by rw [Nat.div_lt_iff_lt_mul hPi]; omega)
   have hSo:S = o + cn * W ^ i:=by rw [ho,hcn,Nat.mul_comm]; exact (Nat.mod_add_div _ _).symm
   have hel:ei.length = m + 1:=by rw [hei,wl_len,dg_len]
   by_cases h:i < m
   ·have c1:A.cmp .lss j (Int.ofNat m) = true:=ltT hA hj rfl h
    obtain ⟨dx,hdx⟩:∃ d,d = x / W ^ i % W:=⟨_,rfl⟩
    obtain ⟨dy,hdy⟩:∃ d,d = y / W ^ i % W:=⟨_,rfl⟩
    have hdxW:dx < W:=by rw [hdx]; exact Nat.mod_lt _ Wpos
    have hdyW:dy < W:=by rw [hdy]; exact Nat.mod_lt _ Wpos
    have hW:W = 4294967296:=W_eq
    obtain ⟨wx,hwx⟩:∃ w:Int,w = (dx:Int):=⟨_,rfl⟩
    obtain ⟨wy,hwy⟩:∃ w:Int,w = (dy:Int):=⟨_,rfl⟩
    have hcx:ex[i]? = some [.v (.int .u32 wx)]:=by rw [hex,hwx,hdx]; exact wl_get (dg_get h)
    have hat:AE.AtR i ei:=⟨by omega⟩
    obtain ⟨j', hj'⟩:∃ j' : Int,j' = ((i + 1:Nat):Int):=⟨_,rfl⟩
    have e1:A.bin .add .i64 j 1 = j' := by rw [hj,hj']; exact AE.addN hA (by omega)
    have s1:A.bin .add .u64 c (A.conv .u64 wx) = ((cn + dx:Nat):Int):=addU hA hc (cv64 hA hwx (by omega)) (by omega)
    have hnew:(x % W ^ (i + 1) + y % W ^ (i + 1)) = S + (dx + dy) * W ^ i:=by rw [mod_succ,mod_succ,← hdx,← hdy,hS,Nat.add_mul]; omega
    obtain ⟨hn1,hn2⟩:=split_pow (e:=dx + dy) Wpos hSo hoP
    rw [← hnew] at hn1 hn2
    obtain ⟨c', hc'⟩:∃ c' : Int,c' = (((x % W ^ (i + 1) + y % W ^ (i + 1)) / W ^ (i + 1):Nat):Int):=⟨_,rfl⟩
    obtain ⟨e', he'⟩:∃ e', e' = wl (dg W (m + 1) ((x % W ^ (i + 1) + y % W ^ (i + 1)) % W ^ (i + 1))):=⟨_,rfl⟩
    have hset:∀ v:Int,v = ((cn + dx + dy:Nat):Int) → A.lset ei i [.v (.int .u32 (A.conv .u32 v))] = e' := fun v hv=>by
     have h3:(cn + (dx + dy)) % W < W:=Nat.mod_lt _ Wpos
     rw [cv32 hA hv,hei,he', hn1,← dg_put Wpos h3 hoP (by omega)]
     have:∀ (es:List (List AE.AV)) (i:Nat) (c:List AE.AV),A.lset es i c = es.set i c:=by subst hA; exact fun _ _ _=>rfl
     rw [this,show cn + dx + dy = cn + (dx + dy) by omega]
     exact wl_set _ _ _
    have hcar:∀ v:Int,v = ((cn + dx + dy:Nat):Int) → A.bin .shr .u64 v 32 = c' := fun v hv=>by
     exact (shrU hA hv (y:=32) (b:=32) rfl (by decide)).trans (by rw [hc', hn2,show cn + dx + dy = cn + (dx + dy) by omega]; rfl)
    by_cases hk:i < n
    ·have c2:A.cmp .lss j (Int.ofNat n) = true:=ltT hA hj rfl hk
     have hcy:ey[i]? = some [.v (.int .u32 wy)]:=by rw [hey,hwy,hdy]; exact wl_get (dg_get hk)
     have s2:A.bin .add .u64 (A.bin .add .u64 c (A.conv .u64 wx)) (A.conv .u64 wy) = ((cn + dx + dy:Nat):Int):=addU hA s1 (cv64 hA hwy (by omega)) (by omega)
     have e2:=hset _ s2
     have e3:=hcar _ s2
     repeat' (first|(refine X.g ?_; cbv)|refine X.splitT ?_|refine X.splitF ?_|refine X.sp (fun hc=>?_) (fun hc=>?_)|refine X.need _ _ _ hat ?_|refine X.need _ _ _ trivial ?_|refine X.idxw _ _ _ _ _ _ _ _ i i hj h (Nat.zero_add i).symm ?_|refine X.idxw _ _ _ _ _ _ _ _ i i hj hk (Nat.zero_add i).symm ?_|refine X.ldq _ _ _ _ _ _ _ _ _ hcx ?_|refine X.ldq _ _ _ _ _ _ _ _ _ hcy ?_|refine X.idxA i hat hj ?_|fail)
     all_goals (refine hB ⟨(i + 1,j', c', e'),h,hj', hc', he'⟩ _ (by show m - (i + 1) < m - i; omega) ?_; clear hB; cbv <;> (and_intros <;> first|exact e1|exact e2|exact e3|rfl|trivial))
    ·have c2:A.cmp .lss j (Int.ofNat n) = false:=ltF hA hj rfl hk
     have hz:dy = 0:=by rw [hdy]; exact digit_zero Wpos hyn (by omega)
     have s2:A.bin .add .u64 c (A.conv .u64 wx) = ((cn + dx + dy:Nat):Int):=by rw [s1,hz]; rfl
     have e2:=hset _ s2
     have e3:=hcar _ s2
     repeat' (first|(refine X.g ?_; cbv)|refine X.splitT ?_|refine X.splitF ?_|refine X.sp (fun hc=>?_) (fun hc=>?_)|refine X.need _ _ _ hat ?_|refine X.need _ _ _ trivial ?_|refine X.idxw _ _ _ _ _ _ _ _ i i hj h (Nat.zero_add i).symm ?_|refine X.ldq _ _ _ _ _ _ _ _ _ hcx ?_|refine X.idxA i hat hj ?_|fail)
     all_goals (refine hB ⟨(i + 1,j', c', e'),h,hj', hc', he'⟩ _ (by show m - (i + 1) < m - i; omega) ?_; clear hB; cbv <;> (and_intros <;> first|exact e1|exact e2|exact e3|rfl|trivial))
   ·have c1:A.cmp .lss j (Int.ofNat m) = false:=ltF hA hj rfl h
    have him:i = m:=by omega
    have hSt:S = x + y:=by
     have h1:W ^ n ≤ W ^ m:=Nat.pow_le_pow_right Wpos hle
     rw [hS,him,Nat.mod_eq_of_lt hxm,Nat.mod_eq_of_lt (by omega)]
    have hat:AE.AtR m ei:=⟨by omega⟩
    have hcw:cn < W:=by have:W = 4294967296:=W_eq; omega
    obtain ⟨ef,hef⟩:∃ e,e = wl (dg W (m + 1) (x + y)):=⟨_,rfl⟩
    have e2:A.lset ei m [.v (.int .u32 (A.conv .u32 c))] = ef:=by
     have:∀ (es:List (List AE.AV)) (i:Nat) (c:List AE.AV),A.lset es i c = es.set i c:=by subst hA; exact fun _ _ _=>rfl
     rw [this,cv32 hA hc,show cn % 2 ^ 32 = cn from Nat.mod_eq_of_lt hcw,hei,hef]
     have h4:=dg_put Wpos hcw (o:=o) (i:=m) (m:=m + 1) (by rw [← him]; exact hoP) (by omega)
     rw [← hSt,hSo,him,← h4]
     exact wl_set _ _ _
    obtain ⟨M1,hM1⟩:∃ M1,M1 = m + 1:=⟨_,rfl⟩
    have k8:=textD_ok M1 (x + y) (by rw [show x + y = x + y by omega,hM1]; exact hsum) (by omega) r hr ef (by rw [hM1]; exact hef)
    have hlen2:M1 = (A.lset ei m [.v (.int .u32 (A.conv .u32 c))]).length:=by rw [e2,hef,wl_len,dg_len,hM1]
    clear hB
    repeat' (first|(refine X.g ?_; cbv)|refine X.splitT ?_|refine X.splitF ?_|refine X.sp (fun hc=>?_) (fun hc=>?_)|refine X.need _ _ _ hat ?_|refine X.need _ _ _ trivial ?_|refine X.idxA m hat rfl ?_|fail)
    refine X.callW _ _ _ _ _ 2 1 M1 _ rfl hlen2 ?_
    cbv
    rw [← e2] at k8
    refine X.calls [2] k8 (by cbv) ?_ (by cbv) ?_
    ·cbv
    (repeat' (first|(refine X.g ?_; cbv)|refine X.splitT ?_|refine X.splitF ?_|refine X.sp (fun hc=>?_) (fun hc=>?_)|refine X.needT ?_))
    all_goals (refine X.ret _ (X.done rfl ?_); cbv <;> (and_intros <;> first|rfl|trivial))
end Go.Proofs.YthadehkggddgoaaGreatDoor
end
section
set_option linter.unusedVariables false
set_option linter.unusedSimpArgs false
namespace Go.Proofs.YthadehkggddgoaaGreatDoor
open Go Go.Num
theorem lsetE {A:AE.Ari} (hA:A = AE.std) (es:List (List AE.AV)) (i:Nat) (c:List AE.AV):A.lset es i c = es.set i c:=by subst hA; rfl
theorem less_ok (X0 Y0 m k:Nat) (hX:X0 < W ^ m) (hY:Y0 < W ^ k) (hle:Y0 ≤ X0) (hm:m ≤ 2 ^ 40) (hk:k ≤ 2 ^ 40) (ex ey er:List (List AE.AV)) (hex:ex = wl (dg W m X0)) (hey:ey = wl (dg W k Y0)) (her:er = wl (dg W m (X0 - Y0))) :
  AE.ACall Tryz.prog 203 [.row 1000215 1 ex,.row 1000215 1 ey] [.w 0 1 0 m,.w 1 1 0 k] [.row 1000215 1 er,.row 1000215 1 ey] (.t []):=by
 refine AE.ACall.of_walk (fn:=Tryz.f203) (c:=bodyOf Tryz.f203) tabOK Tryz.func203 rfl rfl mixed fun A hA X=>?_
 have hW:W = 4294967296:=W_eq
 (refine X.g ?_; cbv)
 refine X.carries (ι:={ p:Nat × Int × Int × List (List AE.AV) // p.1 ≤ m ∧ p.2.1 = p.1 ∧ ∃ lo be:Nat,lo + Y0 % W ^ p.1 = X0 % W ^ p.1 + be * W ^ p.1 ∧ lo < W ^ p.1 ∧ be ≤ 1 ∧ p.2.2.1 = (be:Int) ∧ p.2.2.2 = wl (dg W m (X0 / W ^ p.1 * W ^ p.1 + lo)) }) (fun p=>[(10,.v (.int .i64 p.1.2.1)),(4,.v (.int .u64 p.1.2.2.1))]) (fun p=>[.row 1000215 1 p.1.2.2.2,.row 1000215 1 ey]) (fun p=>m - p.1.1) ⟨(0,0,0,ex),Nat.zero_le _,rfl,0,0,by simp [Nat.mod_one],by simp,by decide,rfl,by rw [hex]; simp⟩ ?_ fun i B hB=>?_
 ·(cbv <;> (and_intros <;> first|rfl|trivial))
 obtain ⟨⟨i,j,c,ei⟩,hi,hj,lo,be,hlo,hlt,hbe,hc,hei⟩:=i
 simp only at hi hj hlo hlt hc hei ⊢
 have hel:ei.length = m:=by rw [hei,wl_len,dg_len]
 have hP:0 < W ^ i:=Nat.pow_pos Wpos
 by_cases h:i < m
 ·have c1:A.cmp .lss j (Int.ofNat m) = true:=ltT hA hj rfl h
  obtain ⟨dx,hdx⟩:∃ d,d = X0 / W ^ i % W:=⟨_,rfl⟩
  obtain ⟨dy,hdy⟩:∃ d,d = Y0 / W ^ i % W:=⟨_,rfl⟩
  have hdxW:dx < W:=by rw [hdx]; exact Nat.mod_lt _ Wpos
  have hdyW:dy < W:=by rw [hdy]; exact Nat.mod_lt _ Wpos
  obtain ⟨wx,hwx⟩:∃ w:Int,w = (dx:Int):=⟨_,rfl⟩
  obtain ⟨wy,hwy⟩:∃ w:Int,w = (dy:Int):=⟨_,rfl⟩
  have hV:X0 / W ^ i * W ^ i + lo = X0 / W ^ (i + 1) * W ^ (i + 1) + dx * W ^ i + lo:=by
   have h1:=Nat.div_add_mod (X0 / W ^ i) W
   rw [Nat.div_div_eq_div_mul,← Nat.pow_succ,← hdx] at h1
   conv=>lhs; rw [← h1]
   rw [Nat.add_mul,Nat.pow_succ,Nat.mul_comm W,Nat.mul_assoc,Nat.mul_comm W]
  have hcx:ei[i]? = some [.v (.int .u32 wx)]:=by
   rw [hei,hwx]; refine wl_get ?_
   rw [dg_get h,Nat.add_comm,Nat.add_mul_div_right _ _ hP,Nat.div_eq_of_lt hlt,Nat.zero_add,hdx]
  have hat:AE.AtR i ei:=⟨by omega⟩
  obtain ⟨s1,s2,s3⟩:=borrow_step hP hlo.symm.symm hlt W hdxW hbe hdyW
  obtain ⟨b', hb'⟩:∃ b', b' = if dx < be + dy then 1 else 0:=⟨_,rfl⟩
  obtain ⟨d,hd⟩:∃ d,d = dx + b' * W - be - dy:=⟨_,rfl⟩
  rw [← hb', ← hd] at s1 s2
  rw [← hb', ← hd] at s3
  obtain ⟨j', hj'⟩:∃ j' : Int,j' = ((i + 1:Nat):Int):=⟨_,rfl⟩
  have e1:A.bin .add .i64 j 1 = j' := by rw [hj,hj']; exact AE.addN hA (by omega)
  obtain ⟨c', hc'⟩:∃ c' : Int,c' = (b' : Int):=⟨_,rfl⟩
  obtain ⟨e', he'⟩:∃ e', e' = wl (dg W m (X0 / W ^ (i + 1) * W ^ (i + 1) + (lo + d * W ^ i))):=⟨_,rfl⟩
  have hset:∀ v:Int,v = (d:Int) → A.lset ei i [.v (.int .u32 v)] = e' := fun v hv=>by
   have h3:=dg_set (B:=W) (m:=m) (i:=i) (c:=dx) (d:=d) (lo:=lo) (hi:=X0 / W ^ (i + 1)) Wpos hdxW s3 hlt h
   rw [lsetE hA,hei,hV,hv,wl_set,h3,he', Nat.add_assoc,Nat.add_comm lo]
  have hinv:∃ lo' be' : Nat,lo' + Y0 % W ^ (i + 1) = X0 % W ^ (i + 1) + be' * W ^ (i + 1) ∧ lo' < W ^ (i + 1) ∧ be' ≤ 1 ∧ c' = (be' : Int) ∧ e' = wl (dg W m (X0 / W ^ (i + 1) * W ^ (i + 1) + lo')) :=
   ⟨lo + d * W ^ i,b', by rw [mod_succ,mod_succ,← hdx,← hdy,Nat.pow_succ]; exact s1,by rw [Nat.pow_succ]; exact s2,by rw [hb']; split <;> omega,hc', he'⟩
  have hwcx:=cv64 hA hwx (by omega)
  by_cases hk2:i < k
  ·have c2:A.cmp .lss j (Int.ofNat k) = true:=ltT hA hj rfl hk2
   have hcy:ey[i]? = some [.v (.int .u32 wy)]:=by rw [hey,hwy,hdy]; exact wl_get (dg_get hk2)
   obtain ⟨t1,t2⟩:=sub3 hA hwcx hc (cv64 hA hwy (by omega)) (by omega) (by omega)
   have e2:=hset _ (t1.trans (by rw [hd,hb', hW]))
   have e3:A.bin .shr .u64 (A.bin .sub .u64 (A.bin .sub .u64 (A.conv .u64 wx) c) (A.conv .u64 wy)) 63 = c' := t2.trans (by rw [hc', hb'])
   (repeat' (first|(refine X.g ?_; cbv)|refine X.splitT ?_|refine X.splitF ?_|refine X.sp (fun hc=>?_) (fun hc=>?_)|refine X.needT ?_|refine X.need _ _ _ hat ?_|refine X.idxw _ _ _ _ _ _ _ _ i i hj h (Nat.zero_add i).symm ?_|refine X.idxw _ _ _ _ _ _ _ _ i i hj hk2 (Nat.zero_add i).symm ?_|refine X.ldq _ _ _ _ _ _ _ _ _ hcx ?_|refine X.ldq _ _ _ _ _ _ _ _ _ hcy ?_))
   all_goals (refine hB ⟨(i + 1,j', c', e'),h,hj', hinv⟩ _ (by show m - (i + 1) < m - i; omega) ?_; clear hB; cbv <;> (and_intros <;> first|exact e1|exact e2|exact e3|rfl|trivial))
  ·have c2:A.cmp .lss j (Int.ofNat k) = false:=ltF hA hj rfl hk2
   have hz:dy = 0:=by rw [hdy]; exact digit_zero Wpos hY (by omega)
   obtain ⟨t1,t2⟩:=sub2 hA hwcx hc (by omega) (by omega)
   have e2:=hset _ (t1.trans (by rw [hd,hb', hW,hz]; rfl))
   have e3:A.bin .shr .u64 (A.bin .sub .u64 (A.conv .u64 wx) c) 63 = c' := t2.trans (by rw [hc', hb', hz]; rfl)
   (repeat' (first|(refine X.g ?_; cbv)|refine X.splitT ?_|refine X.splitF ?_|refine X.sp (fun hc=>?_) (fun hc=>?_)|refine X.needT ?_|refine X.need _ _ _ hat ?_|refine X.idxw _ _ _ _ _ _ _ _ i i hj h (Nat.zero_add i).symm ?_|refine X.ldq _ _ _ _ _ _ _ _ _ hcx ?_))
   all_goals (refine hB ⟨(i + 1,j', c', e'),h,hj', hinv⟩ _ (by show m - (i + 1) < m - i; omega) ?_; clear hB; cbv <;> (and_intros <;> first|exact e1|exact e2|exact e3|rfl|trivial))
 ·have c1:A.cmp .lss j (Int.ofNat m) = false:=ltF hA hj rfl h
  have him:i = m:=by omega
  have hee:ei = er:=by
   rw [him] at hlo hlt hei
   have hYm:Y0 < W ^ m:=by omega
   rw [Nat.mod_eq_of_lt hX,Nat.mod_eq_of_lt hYm] at hlo
   have hb0:be = 0:=by
    rcases Nat.lt_or_ge be 1 with h1|h1
    ·omega
    ·have:be = 1:=by omega
     rw [this] at hlo; omega
   rw [hb0] at hlo
   rw [hei,her,Nat.div_eq_of_lt hX]
   congr 2; omega
  clear hB
  (repeat' (first|(refine X.g ?_; cbv)|refine X.splitT ?_|refine X.splitF ?_|refine X.sp (fun hc=>?_) (fun hc=>?_)|refine X.needT ?_))
  all_goals (refine X.fin _ (X.done rfl ?_); cbv <;> (and_intros <;> first|exact hee|rfl|trivial))
theorem natSub_ok (a b:ByteArray) (ha:a.size ≤ 2 ^ 38) (hb:b.size ≤ 2 ^ 38) (r:ByteArray) (e:Int) (hr:r = enc (bv a - bv b)) (he:e = if bv a < bv b then 1 else 0):AE.ACall Tryz.prog 154 [] [.v (.string a),.v (.string b)] [] (.t [.v (.string r),.v (.int .i64 e)]):=by
 refine AE.ACall.of_walk (fn:=Tryz.f154) (c:=bodyOf Tryz.f154) tabOK Tryz.func154 rfl rfl mixed fun A hA X=>?_
 obtain ⟨x,hx⟩:∃ x,x = bv a:=⟨_,rfl⟩
 obtain ⟨y,hy⟩:∃ y,y = bv b:=⟨_,rfl⟩
 rw [← hx,← hy] at hr he
 obtain ⟨q,hq⟩:∃ q,q = cmpN x y:=⟨_,rfl⟩
 have k1:=cmp_ok a b q (by rw [hq,hx,hy])
 by_cases h:x < y
 ·have c1:A.cmp .lss q 0 = true:=by rw [AE.c_lss hA,hq,cmpN,if_pos h]; rfl
  have hr0:(⟨⟨[]⟩⟩:ByteArray) = r:=by rw [hr,show x - y = 0 by omega,enc_zero]
  have he0:(1:Int) = e:=by rw [he,if_pos h]
  (repeat' (first|(refine X.g ?_; cbv)|refine X.splitT ?_|refine X.splitF ?_|refine X.sp (fun hc=>?_) (fun hc=>?_)|refine X.callsA [] k1 ?_|refine X.needT ?_))
  all_goals (refine X.ret _ (X.done rfl ?_); cbv <;> (and_intros <;> first|exact hr0|exact he0|rfl|trivial))
 ·have c1:A.cmp .lss q 0 = false:=by
   rw [AE.c_lss hA,hq,cmpN,if_neg h]; split <;> rfl
  have he0:(0:Int) = e:=by rw [he,if_neg h]
  obtain ⟨m,hm⟩:∃ m,m = wn x:=⟨_,rfl⟩
  obtain ⟨n,hn⟩:∃ n,n = wn y:=⟨_,rfl⟩
  obtain ⟨ex,hex⟩:∃ ex,ex = wl (dg W m x):=⟨_,rfl⟩
  obtain ⟨ey,hey⟩:∃ ey,ey = wl (dg W n y):=⟨_,rfl⟩
  obtain ⟨er,her⟩:∃ er,er = wl (dg W m (x - y)):=⟨_,rfl⟩
  have zx:(enc x).size ≤ 2 ^ 38:=by rw [hx]; exact Nat.le_trans (enc_size_bv a) ha
  have zy:(enc y).size ≤ 2 ^ 38:=by rw [hy]; exact Nat.le_trans (enc_size_bv b) hb
  have hmb:m ≤ 2 ^ 38:=by have:=wn_le x; omega
  have hnb:n ≤ 2 ^ 38:=by have:=wn_le y; omega
  have hxm:x < W ^ m:=by rw [hm]; exact wn_lt x
  have hyn:y < W ^ n:=by rw [hn]; exact wn_lt y
  have k6:=words_ok a (by omega) m (by rw [← hx]; exact hm) ex (by rw [hex,hx])
  have k7:=words_ok b (by omega) n (by rw [← hy]; exact hn) ey (by rw [hey,hy])
  have k8:=less_ok x y m n hxm hyn (by omega) (by omega) (by omega) ex ey er hex hey her
  have k9:=textD_ok m (x - y) (by omega) (by omega) r hr er her
  (repeat' (first|(refine X.g ?_; cbv)|refine X.splitT ?_|refine X.splitF ?_|refine X.sp (fun hc=>?_) (fun hc=>?_)|refine X.callsA [] k1 ?_|refine X.needT ?_))
  refine X.calls [] k6 (by cbv) ?_ (by cbv) ?_
  ·cbv
  (repeat' (first|(refine X.g ?_; cbv)|refine X.splitT ?_|refine X.splitF ?_|refine X.sp (fun hc=>?_) (fun hc=>?_)|refine X.needT ?_))
  refine X.calls [] k7 (by cbv) ?_ (by cbv) ?_
  ·cbv
  (repeat' (first|(refine X.g ?_; cbv)|refine X.splitT ?_|refine X.splitF ?_|refine X.sp (fun hc=>?_) (fun hc=>?_)|refine X.needT ?_))
  refine X.calls [0,1] k8 (by cbv) ?_ (by cbv) ?_
  ·cbv
  (repeat' (first|(refine X.g ?_; cbv)|refine X.splitT ?_|refine X.splitF ?_|refine X.sp (fun hc=>?_) (fun hc=>?_)|refine X.needT ?_))
  refine X.calls [0] k9 (by cbv) ?_ (by cbv) ?_
  ·cbv
  (repeat' (first|(refine X.g ?_; cbv)|refine X.splitT ?_|refine X.splitF ?_|refine X.sp (fun hc=>?_) (fun hc=>?_)|refine X.needT ?_))
  all_goals (refine X.ret _ (X.done rfl ?_); cbv <;> (and_intros <;> first|exact he0|rfl|trivial))
end Go.Proofs.YthadehkggddgoaaGreatDoor
end
