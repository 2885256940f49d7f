/- Contracts: nat.left, nat.takeAway, nat.putBack. Contracts: nat.takeAway, nat.putBack. -/
import Derived.Test.YthadehkggddgoaaGreatDoorZLongL
import Derived.Test.YthadehkggddgoaaGreatDoorZBits
set_option maxRecDepth 100000
set_option maxHeartbeats 0
section
set_option linter.unusedVariables false
set_option linter.unusedSimpArgs false
namespace Go.Proofs.YthadehkggddgoaaGreatDoor
open Go Go.Num
theorem left_ok (x n s n1:Nat) (hx:x < W ^ n) (hs:s ≤ 32) (hn:n ≤ 2 ^ 40) (hn1:n1 = n + 1) (z:Int) (hz:z = (s:Int)) (ex er:List (List AE.AV)) (hex:ex = wl (dg W n x)) (her:er = wl (dg W n1 (x * 2 ^ s))) :
  AE.ACall Tryz.prog 227 [.row 1000215 1 ex] [.w 0 1 0 n,.v (.int .i64 z)] [.row 1000215 1 ex,.row 1000215 1 er] (.w 1 1 0 n1):=by
 refine AE.ACall.of_walk (fn:=Tryz.f227) (c:=bodyOf Tryz.f227) tabOK Tryz.func227 rfl rfl mixed fun A hA X=>?_
 have hW:W = 4294967296:=W_eq
 have hW2:W * W = 18446744073709551616:=by rw [hW]
 have hlz:A.bin .add .i64 (Int.ofNat n) 1 = (n1:Int):=by rw [hn1]; exact addI hA rfl (b:=1) rfl (by omega)
 have hmake:AE.MakeR (A.bin .add .i64 (Int.ofNat n) 1) (A.bin .add .i64 (Int.ofNat n) 1) 4:=by rw [hlz]; constructor <;> omega
 obtain ⟨e0,he0⟩:∃ e0,e0 = wl (dg W n1 (x % W ^ 0 * 2 ^ s)):=⟨_,rfl⟩
 have hrep:A.lrep (A.bin .add .i64 (Int.ofNat n) 1) [.v (.int .u32 0)] = e0:=by
  rw [hlz,he0,Nat.pow_zero,Nat.mod_one,Nat.zero_mul,dg_zero,← wl_rep]; subst hA; rfl
 have hsn:0 ≤ z:=by rw [hz]; exact Int.natCast_nonneg _
 (repeat' (first|(refine X.g ?_; cbv)|refine X.splitT ?_|refine X.splitF ?_|refine X.sp (fun hc=>?_) (fun hc=>?_)|refine X.need _ _ _ hmake ?_|refine X.needT ?_))
 have hlen:n1 = (A.lrep (A.bin .add .i64 (Int.ofNat n) 1) [.v (.int .u32 0)]).length:=by rw [hrep,he0,wl_len,dg_len]
 refine X.loopG _ _ _ (X.fix 1 _ _ _ _ _ rfl (by decide) (X.asW 5 1 1 n1 _ _ _ rfl hlen ?_))
 (refine X.g ?_; cbv)
 refine X.carries (ι:={ p:Nat × Int × List (List AE.AV) // p.1 ≤ n ∧ p.2.1 = p.1 ∧ p.2.2 = wl (dg W n1 (x % W ^ p.1 * 2 ^ s)) }) (fun p=>[(15,.v (.int .i64 p.1.2.1))]) (fun p=>[.row 1000215 1 ex,.row 1000215 1 p.1.2.2]) (fun p=>n - p.1.1) ⟨(0,0,e0),Nat.zero_le _,rfl,he0⟩ ?_ fun i B hB=>?_
 ·(cbv <;> (and_intros <;> first|exact hrep|rfl|trivial))
 obtain ⟨⟨i,j,ei⟩,hi,hj,hei⟩:=i
 simp only at hi hj hei ⊢
 by_cases h:i < n
 ·have c1:A.cmp .lss j (Int.ofNat n) = true:=ltT hA hj rfl h
  obtain ⟨d,hd⟩:∃ d,d = x / W ^ i % W:=⟨_,rfl⟩
  have hdW:d < W:=by rw [hd]; exact Nat.mod_lt _ Wpos
  obtain ⟨w,hw⟩:∃ w:Int,w = (d:Int):=⟨_,rfl⟩
  have hcx:ex[i]? = some [.v (.int .u32 w)]:=by rw [hex,hw,hd]; exact wl_get (dg_get h)
  obtain ⟨O,hO⟩:∃ O,O = x % W ^ i * 2 ^ s:=⟨_,rfl⟩
  have hOb:O < W ^ i * 2 ^ s:=by rw [hO]; exact Nat.mul_lt_mul_of_pos_right (Nat.mod_lt _ (Nat.pow_pos Wpos)) (Nat.two_pow_pos s)
  obtain ⟨v,hv⟩:∃ v,v = d * 2 ^ s:=⟨_,rfl⟩
  have h2s:2 ^ s ≤ 2 ^ 32:=Nat.pow_le_pow_right (by decide) hs
  have hvB:v < W * W:=by
   rw [hv]
   exact Nat.lt_of_lt_of_le (Nat.mul_lt_mul_of_pos_right hdW (Nat.two_pow_pos s)) (Nat.mul_le_mul_left _ (by rw [hW]; exact h2s))
  obtain ⟨c,hc⟩:∃ c,c = O / W ^ i % W:=⟨_,rfl⟩
  obtain ⟨t1,t2⟩:=left_step (n:=n) Wpos ⟨2 ^ (32 - s),by rw [hW,← Nat.pow_add,Nat.sub_add_cancel hs]⟩ hOb hv hvB h
  rw [← hc] at t1 t2
  rw [← hn1] at t2
  obtain ⟨w0,hw0⟩:∃ w:Int,w = (c:Int):=⟨_,rfl⟩
  rw [← hO] at hei
  have hcp:ei[i]? = some [.v (.int .u32 w0)]:=by rw [hei,hw0,hc]; exact wl_get (dg_get (by omega))
  have hvz:A.bin .shl .u64 (A.conv .u64 w) z = (v:Int):=by rw [hv]; exact shlU hA (cv64 hA hw (by omega)) hz (by omega) (by rw [← hv]; omega)
  have hlow:A.conv .u32 (A.bin .shl .u64 (A.conv .u64 w) z) = ((v % 2 ^ 32:Nat):Int):=cv32 hA hvz
  have hhi:A.conv .u32 (A.bin .shr .u64 (A.bin .shl .u64 (A.conv .u64 w) z) 32) = ((v / W:Nat):Int):=by
   rw [cv32 hA (shrU hA hvz (y:=32) (b:=32) rfl (by decide)),hW]
   congr 1
   exact Nat.mod_eq_of_lt (by omega)
  have hor:A.bin .or .u32 w0 (A.conv .u32 (A.bin .shl .u64 (A.conv .u64 w) z)) = ((c + v % W:Nat):Int):=by
   have hvm:v % 2 ^ 32 = d % 2 ^ (32 - s) * 2 ^ s:=by
    rw [hv,← Nat.mul_mod_mul_right,← Nat.pow_add,Nat.sub_add_cancel hs]
   have hcs:c < 2 ^ s:=by
    have:O / W ^ i < 2 ^ s:=by rw [Nat.div_lt_iff_lt_mul (Nat.pow_pos Wpos),Nat.mul_comm]; exact hOb
    rw [hc]; exact Nat.lt_of_le_of_lt (Nat.mod_le _ _) this
   have e:v % W = d % 2 ^ (32 - s) * 2 ^ s:=by rw [hW]; exact hvm
   rw [hlow,hvm,hw0,e]
   subst hA
   rw [e] at t1
   exact or_u32 (by omega) hcs
  obtain ⟨j', hj'⟩:∃ j' : Int,j' = ((i + 1:Nat):Int):=⟨_,rfl⟩
  have e1:A.bin .add .i64 j 1 = j' := by rw [hj,hj']; exact AE.addN hA (by omega)
  obtain ⟨k,hk⟩:∃ k,k = i + 1:=⟨_,rfl⟩
  have hkz:A.bin .add .i64 j 1 = (k:Int):=by rw [hk]; exact addI hA hj (b:=1) rfl (by omega)
  obtain ⟨em,hem⟩:∃ em,em = A.lset ei i [.v (.int .u32 (A.bin .or .u32 w0 (A.conv .u32 (A.bin .shl .u64 (A.conv .u64 w) z))))]:=⟨_,rfl⟩
  have hat1:AE.AtR i ei:=⟨by rw [hei,wl_len,dg_len]; omega⟩
  have hml:em.length = n1:=by rw [hem,lsetE hA,List.length_set,hei,wl_len,dg_len]
  have hat2:AE.AtR k (A.lset ei i [.v (.int .u32 (A.bin .or .u32 w0 (A.conv .u32 (A.bin .shl .u64 (A.conv .u64 w) z))))]):=⟨by rw [← hem]; omega⟩
  obtain ⟨e', he'⟩:∃ e', e' = wl (dg W n1 (x % W ^ (i + 1) * 2 ^ s)):=⟨_,rfl⟩
  have e2:A.lset (A.lset ei i [.v (.int .u32 (A.bin .or .u32 w0 (A.conv .u32 (A.bin .shl .u64 (A.conv .u64 w) z))))]) k [.v (.int .u32 (A.conv .u32 (A.bin .shr .u64 (A.bin .shl .u64 (A.conv .u64 w) z) 32)))] = e' := by
   rw [hor,hhi,lsetE hA,lsetE hA,hei,he', wl_set,wl_set,hk,t2,mod_succ,Nat.add_mul,← hO,← hd,hv,Nat.mul_assoc,Nat.mul_assoc,Nat.mul_comm (W ^ i)]
  (repeat' (first|(refine X.g ?_; cbv)|refine X.splitT ?_|refine X.splitF ?_|refine X.sp (fun hc=>?_) (fun hc=>?_)|refine X.needT ?_|refine X.need _ _ _ hsn ?_|refine X.need _ _ _ hat1 ?_|refine X.need _ _ _ hat2 ?_|refine X.idxw _ _ _ _ _ _ _ _ i i hj h (Nat.zero_add i).symm ?_|refine X.idxw _ _ _ _ _ _ _ _ i i hj (show i < n1 by omega) (Nat.zero_add i).symm ?_|refine X.idxw _ _ _ _ _ _ _ _ k k hkz (show k < n1 by omega) (Nat.zero_add k).symm ?_|refine X.ldq _ _ _ _ _ _ _ _ _ hcx ?_|refine X.ldq _ _ _ _ _ _ _ _ _ hcp ?_))
  all_goals (refine hB ⟨(i + 1,j', e'),h,hj', he'⟩ _ (by show n - (i + 1) < n - i; omega) ?_; clear hB; cbv <;> (and_intros <;> first|exact e1|exact e2|rfl|trivial))
 ·have c1:A.cmp .lss j (Int.ofNat n) = false:=ltF hA hj rfl h
  have hin:i = n:=by omega
  have hee:ei = er:=by rw [hei,her,hin,Nat.mod_eq_of_lt hx]
  clear hB
  (repeat' (first|(refine X.g ?_; cbv)|refine X.splitT ?_|refine X.splitF ?_|refine X.sp (fun hc=>?_) (fun hc=>?_)|refine X.needT ?_))
  all_goals (refine X.ret _ (X.done rfl ?_); cbv <;> (and_intros <;> first|exact hex|exact hee|rfl|trivial))
end Go.Proofs.YthadehkggddgoaaGreatDoor
end
section
set_option linter.unusedVariables false
set_option linter.unusedSimpArgs false
namespace Go.Proofs.YthadehkggddgoaaGreatDoor
open Go Go.Num
theorem natDivPos {x:Nat} {y:Int} {A:AE.Ari} (hA:A = AE.std) (hy:y = (x:Int)):A.cmp .gtr y 0 = decide (0 < x):=gtI hA hy (b:=0) rfl
theorem takeAway_ok (U V q lo n m M nv:Nat) (hnv:n ≤ nv) (hm:m = n + 1) (hU:U < W ^ (lo + n + 1)) (hV:V < W ^ n) (hq:q < W) (hM:lo + n + 1 ≤ M) (hM2:M ≤ 2 ^ 41) (z:Int) (hz:z = (q:Int)) (b:Bool) (hb:b = decide (U < q * V * W ^ lo)) (U' : Nat) (hU' : U' = U + (if b then W ^ (lo + n + 1) else 0) - q * V * W ^ lo)
  (eu ev er:List (List AE.AV)) (heu:eu = wl (dg W M U)) (hev:ev = wl (dg W nv V)) (her:er = wl (dg W M U')) :
  AE.ACall Tryz.prog 228 [.row 1000215 1 eu,.row 1000215 1 ev] [.w 0 1 lo m,.w 1 1 0 n,.v (.int .u64 z)] [.row 1000215 1 er,.row 1000215 1 ev] (.b b):=by
 refine AE.ACall.of_walk (fn:=Tryz.f228) (c:=bodyOf Tryz.f228) tabOK Tryz.func228 rfl rfl mixed fun A hA X=>?_
 have hW:W = 4294967296:=W_eq
 have hW2:W * W = 18446744073709551616:=by rw [hW]
 (refine X.g ?_; cbv)
 refine X.carries (ι:={ p:Nat × Int × Int × Int × List (List AE.AV) // p.1 ≤ n ∧ p.2.1 = p.1 ∧ ∃ R c β : Nat,p.2.2.1 = (c:Int) ∧ p.2.2.2.1 = (β : Int) ∧ c < W ∧ β ≤ 1 ∧ R < W ^ (lo + n + 1) ∧ R + q * (V % W ^ p.1) * W ^ lo = (β + c) * W ^ (lo + p.1) + U ∧ p.2.2.2.2 = wl (dg W M R) }) (fun p=>[(15,.v (.int .i64 p.1.2.1)),(7,.v (.int .u64 p.1.2.2.1)),(8,.v (.int .u64 p.1.2.2.2.1))]) (fun p=>[.row 1000215 1 p.1.2.2.2.2,.row 1000215 1 ev]) (fun p=>n - p.1.1) ⟨(0,0,0,0,eu),Nat.zero_le _,rfl,U,0,0,rfl,rfl,Wpos,by decide,hU,by simp [Nat.mod_one],heu⟩ ?_ fun i B hB=>?_
 ·(cbv <;> (and_intros <;> first|rfl|trivial))
 obtain ⟨⟨i,j,zc,zb,ei⟩,hi,hj,R,c,β,hc,hβ,hcW,hβ1,hRb,hR,hei⟩:=i
 simp only at hi hj hc hβ hR hei ⊢
 obtain ⟨p,hp⟩:∃ p,p = lo + i:=⟨_,rfl⟩
 rw [← hp] at hR
 have hpM:p < M:=by omega
 obtain ⟨d0,hd0⟩:∃ d,d = R / W ^ p % W:=⟨_,rfl⟩
 have hd0W:d0 < W:=by rw [hd0]; exact Nat.mod_lt _ Wpos
 obtain ⟨w0,hw0⟩:∃ w:Int,w = (d0:Int):=⟨_,rfl⟩
 have hcp:ei[p]? = some [.v (.int .u32 w0)]:=by rw [hei,hw0,hd0]; exact wl_get (dg_get hpM)
 have hat:AE.AtR p ei:=⟨by rw [hei,wl_len,dg_len]; exact hpM⟩
 by_cases h:i < n
 ·have c1:A.cmp .lss j (Int.ofNat n) = true:=ltT hA hj rfl h
  obtain ⟨dv,hdv⟩:∃ d,d = V / W ^ i % W:=⟨_,rfl⟩
  have hdvW:dv < W:=by rw [hdv]; exact Nat.mod_lt _ Wpos
  obtain ⟨wv', hwv⟩:∃ w:Int,w = (dv:Int):=⟨_,rfl⟩
  have hcv:ev[i]? = some [.v (.int .u32 wv')]:=by rw [hev,hwv,hdv]; exact wl_get (dg_get (Nat.lt_of_lt_of_le h hnv))
  have hbd:=mul_bound Wpos hcW hq hdvW (Wpos)
  rw [hW2] at hbd
  obtain ⟨T,hT⟩:∃ T,T = c + q * dv:=⟨_,rfl⟩
  have hTl:T < W * W:=by rw [hW2,hT]; omega
  have m1:A.bin .mul .u64 z (A.conv .u64 wv') = ((q * dv:Nat):Int):=mulU hA hz (cv64 hA hwv (by omega)) (by omega)
  have m2:A.bin .add .u64 zc (A.bin .mul .u64 z (A.conv .u64 wv')) = (T:Int):=by rw [hT]; exact addU hA hc m1 (by omega)
  obtain ⟨zt,hzt⟩:∃ zt,zt = A.bin .add .u64 zc (A.bin .mul .u64 z (A.conv .u64 wv')):=⟨_,rfl⟩
  rw [← hzt] at m2
  have hTm:T % W < W:=Nat.mod_lt _ Wpos
  have m3:A.conv .u64 (A.conv .u32 zt) = ((T % W:Nat):Int):=cv64 hA (by rw [cv32 hA m2,hW]) (by omega)
  have s0:A.conv .u64 w0 = (d0:Int):=cv64 hA hw0 (by omega)
  obtain ⟨t1,t2⟩:=sub3 hA s0 m3 hβ (by omega) (by omega)
  obtain ⟨b', hb'⟩:∃ b', b' = if d0 < T % W + β then 1 else 0:=⟨_,rfl⟩
  obtain ⟨d,hd⟩:∃ d,d = d0 + b' * 4294967296 - T % W - β:=⟨_,rfl⟩
  rw [← hb', ← hd] at t1
  rw [← hb'] at t2
  have hb1:b' ≤ 1:=by rw [hb']; split <;> omega
  have hdd:d + T % W + β = d0 + b' * W:=by
   generalize T % W = low at *
   rw [hd,hW]
   by_cases hx:d0 < low + β
   ·have:b' = 1:=by rw [hb', if_pos hx]
    omega
   ·omega
  have hdW:d < W:=by
   by_cases hx:d0 < T % W + β
   ·have:b' = 1:=by rw [hb', if_pos hx]
    rw [this] at hdd; omega
   ·have:b' = 0:=by rw [hb', if_neg hx]
    rw [this] at hdd; omega
  obtain ⟨c', hc'⟩:∃ c' : Int,c' = ((T / W:Nat):Int):=⟨_,rfl⟩
  obtain ⟨zb', hzb'⟩:∃ c' : Int,c' = (b' : Int):=⟨_,rfl⟩
  obtain ⟨e', he'⟩:∃ e', e' = wl (dg W M (upd W p R d)):=⟨_,rfl⟩
  obtain ⟨j', hj'⟩:∃ j' : Int,j' = ((i + 1:Nat):Int):=⟨_,rfl⟩
  have f1:A.bin .add .i64 j 1 = j' := by rw [hj,hj']; exact AE.addN hA (by omega)
  have f2:A.lset ei p [.v (.int .u32 (A.conv .u32 (A.bin .sub .u64 (A.bin .sub .u64 (A.conv .u64 w0) (A.conv .u64 (A.conv .u32 zt))) zb)))] = e' := by
   rw [t1,lsetE hA,hei,he', ← dg_upd Wpos hdW hpM]
   exact wl_set _ _ _
  have f3:A.bin .shr .u64 (A.bin .sub .u64 (A.bin .sub .u64 (A.conv .u64 w0) (A.conv .u64 (A.conv .u32 zt))) zb) 63 = zb' := t2.trans hzb'.symm
  have f4:A.bin .shr .u64 zt 32 = c' := (shrU hA m2 (y:=32) (b:=32) rfl (by decide)).trans (by rw [hc', hW])
  rw [hzt] at f2 f3 f4
  have hinv:∃ R' c2 β2:Nat,c' = (c2:Int) ∧ zb' = (β2:Int) ∧ c2 < W ∧ β2 ≤ 1 ∧ R' < W ^ (lo + n + 1) ∧ R' + q * (V % W ^ (i + 1)) * W ^ lo = (β2 + c2) * W ^ (lo + (i + 1)) + U ∧ e' = wl (dg W M R'):=by
   refine ⟨upd W p R d,T / W,b', hc', hzb', by rw [Nat.div_lt_iff_lt_mul Wpos]; exact hTl,hb1,upd_lt Wpos (by omega) hRb hdW,?_,he'⟩
   have ms:=away_step (w:=q) (v:=dv) (T:=U) Wpos hd0 (by rw [← hT]; exact hdd) hR
   rw [← hT] at ms
   rw [show lo + (i + 1) = p + 1 by omega,← ms,mod_succ,← hdv,hp,Nat.mul_add,Nat.add_mul,Nat.pow_add,Nat.mul_comm (W ^ lo) (W ^ i),← Nat.mul_assoc,← Nat.mul_assoc]
  (repeat' (first|(refine X.g ?_; cbv)|refine X.splitT ?_|refine X.splitF ?_|refine X.sp (fun hc=>?_) (fun hc=>?_)|refine X.needT ?_|refine X.need _ _ _ hat ?_|refine X.idxw _ _ _ _ _ _ _ _ i i hj h (Nat.zero_add i).symm ?_|refine X.idxw _ _ _ _ _ _ _ _ i p hj (show i < m by omega) hp ?_|refine X.ldq _ _ _ _ _ _ _ _ _ hcv ?_|refine X.ldq _ _ _ _ _ _ _ _ _ hcp ?_))
  all_goals (refine hB ⟨(i + 1,j', c', zb', e'),h,hj', hinv⟩ _ (by show n - (i + 1) < n - i; omega) ?_; clear hB; cbv <;> (and_intros <;> first|exact f1|exact f2|exact f3|exact f4|rfl|trivial))
 ·have c1:A.cmp .lss j (Int.ofNat n) = false:=ltF hA hj rfl h
  have hin:i = n:=by omega
  clear hB
  rw [hin,Nat.mod_eq_of_lt hV] at hR
  have hpz:Int.ofNat n = (n:Int):=rfl
  have s0:A.conv .u64 w0 = (d0:Int):=cv64 hA hw0 (by omega)
  obtain ⟨t1,t2⟩:=sub3 hA s0 hc hβ (by omega) (by omega)
  obtain ⟨b', hb'⟩:∃ b', b' = if d0 < c + β then 1 else 0:=⟨_,rfl⟩
  obtain ⟨d,hd⟩:∃ d,d = d0 + b' * 4294967296 - c - β:=⟨_,rfl⟩
  rw [← hb', ← hd] at t1
  rw [← hb'] at t2
  have hdd:d + c + β = d0 + b' * W:=by
   rw [hd,hW]
   by_cases hx:d0 < c + β
   ·have:b' = 1:=by rw [hb', if_pos hx]
    omega
   ·omega
  have hdW:d < W:=by
   by_cases hx:d0 < c + β
   ·have:b' = 1:=by rw [hb', if_pos hx]
    rw [this] at hdd; omega
   ·have:b' = 0:=by rw [hb', if_neg hx]
    rw [this] at hdd; omega
  have ms:=away_last (T:=U) Wpos hd0 hdd hR
  have hlt:=upd_lt (p:=p) (d:=d) Wpos (show p < lo + n + 1 by omega) hRb hdW
  have hpn:p + 1 = lo + n + 1:=by omega
  rw [hpn] at ms
  have hbb:b = decide (0 < b'):=by
   rw [hb]
   by_cases hx:d0 < c + β
   ·have h1:b' = 1:=by rw [hb', if_pos hx]
    rw [h1] at ms ⊢
    simp only [Nat.one_mul] at ms
    rw [decide_eq_true (show U < q * V * W ^ lo by omega)]; rfl
   ·have h1:b' = 0:=by rw [hb', if_neg hx]
    rw [h1] at ms ⊢
    simp only [Nat.zero_mul] at ms
    rw [decide_eq_false (show ¬ U < q * V * W ^ lo by omega)]; rfl
  have hUe:upd W p R d = U' := by
   rw [hU', hbb]
   by_cases hx:d0 < c + β
   ·have h1:b' = 1:=by rw [hb', if_pos hx]
    rw [h1] at ms ⊢
    simp only [Nat.one_mul] at ms
    simp; omega
   ·have h1:b' = 0:=by rw [hb', if_neg hx]
    rw [h1] at ms ⊢
    simp only [Nat.zero_mul] at ms
    simp; omega
  have f2:A.lset ei p [.v (.int .u32 (A.conv .u32 (A.bin .sub .u64 (A.bin .sub .u64 (A.conv .u64 w0) zc) zb)))] = er:=by
   rw [t1,lsetE hA,hei,her,← hUe,← dg_upd Wpos hdW hpM]
   exact wl_set _ _ _
  have f3:A.cmp .gtr (A.bin .shr .u64 (A.bin .sub .u64 (A.bin .sub .u64 (A.conv .u64 w0) zc) zb) 63) 0 = b:=(natDivPos hA t2).trans hbb.symm
  (repeat' (first|(refine X.g ?_; cbv)|refine X.splitT ?_|refine X.splitF ?_|refine X.sp (fun hc=>?_) (fun hc=>?_)|refine X.needT ?_|refine X.need _ _ _ hat ?_|refine X.idxw _ _ _ _ _ _ _ _ n p hpz (show n < m by omega) (show p = lo + n by omega) ?_|refine X.ldq _ _ _ _ _ _ _ _ _ hcp ?_))
  all_goals (refine X.ret _ (X.done rfl ?_); cbv <;> (and_intros <;> first|exact f2|exact f3|rfl|trivial))
theorem putBack_ok (U V lo n m M nv:Nat) (hnv:n ≤ nv) (hm:m = n + 1) (hU:U < W ^ (lo + n + 1)) (hV:V < W ^ n) (hM:lo + n + 1 ≤ M) (hM2:M ≤ 2 ^ 41) (U' : Nat) (hU' : U' = (U + V * W ^ lo) % W ^ (lo + n + 1))
  (eu ev er:List (List AE.AV)) (heu:eu = wl (dg W M U)) (hev:ev = wl (dg W nv V)) (her:er = wl (dg W M U')) :
  AE.ACall Tryz.prog 229 [.row 1000215 1 eu,.row 1000215 1 ev] [.w 0 1 lo m,.w 1 1 0 n] [.row 1000215 1 er,.row 1000215 1 ev] (.t []):=by
 refine AE.ACall.of_walk (fn:=Tryz.f229) (c:=bodyOf Tryz.f229) tabOK Tryz.func229 rfl rfl mixed fun A hA X=>?_
 have hW:W = 4294967296:=W_eq
 have hW2:W * W = 18446744073709551616:=by rw [hW]
 (refine X.g ?_; cbv)
 refine X.carries (ι:={ p:Nat × Int × Int × List (List AE.AV) // p.1 ≤ n ∧ p.2.1 = p.1 ∧ ∃ R c:Nat,p.2.2.1 = (c:Int) ∧ c ≤ 1 ∧ R < W ^ (lo + n + 1) ∧ R + c * W ^ (lo + p.1) = U + V % W ^ p.1 * W ^ lo ∧ p.2.2.2 = wl (dg W M R) }) (fun p=>[(9,.v (.int .i64 p.1.2.1)),(4,.v (.int .u64 p.1.2.2.1))]) (fun p=>[.row 1000215 1 p.1.2.2.2,.row 1000215 1 ev]) (fun p=>n - p.1.1) ⟨(0,0,0,eu),Nat.zero_le _,rfl,U,0,rfl,by decide,hU,by simp [Nat.mod_one],heu⟩ ?_ fun i B hB=>?_
 ·(cbv <;> (and_intros <;> first|rfl|trivial))
 obtain ⟨⟨i,j,zc,ei⟩,hi,hj,R,c,hc,hc1,hRb,hR,hei⟩:=i
 simp only at hi hj hc hR hei ⊢
 obtain ⟨p,hp⟩:∃ p,p = lo + i:=⟨_,rfl⟩
 rw [← hp] at hR
 have hpM:p < M:=by omega
 obtain ⟨d0,hd0⟩:∃ d,d = R / W ^ p % W:=⟨_,rfl⟩
 have hd0W:d0 < W:=by rw [hd0]; exact Nat.mod_lt _ Wpos
 obtain ⟨w0,hw0⟩:∃ w:Int,w = (d0:Int):=⟨_,rfl⟩
 have hcp:ei[p]? = some [.v (.int .u32 w0)]:=by rw [hei,hw0,hd0]; exact wl_get (dg_get hpM)
 have hat:AE.AtR p ei:=⟨by rw [hei,wl_len,dg_len]; exact hpM⟩
 by_cases h:i < n
 ·have c1:A.cmp .lss j (Int.ofNat n) = true:=ltT hA hj rfl h
  obtain ⟨dv,hdv⟩:∃ d,d = V / W ^ i % W:=⟨_,rfl⟩
  have hdvW:dv < W:=by rw [hdv]; exact Nat.mod_lt _ Wpos
  obtain ⟨wv', hwv⟩:∃ w:Int,w = (dv:Int):=⟨_,rfl⟩
  have hcv:ev[i]? = some [.v (.int .u32 wv')]:=by rw [hev,hwv,hdv]; exact wl_get (dg_get (Nat.lt_of_lt_of_le h hnv))
  obtain ⟨T,hT⟩:∃ T,T = c + (d0 + dv):=⟨_,rfl⟩
  have m1:A.bin .add .u64 (A.conv .u64 w0) (A.conv .u64 wv') = ((d0 + dv:Nat):Int):=addU hA (cv64 hA hw0 (by omega)) (cv64 hA hwv (by omega)) (by omega)
  have m2:A.bin .add .u64 zc (A.bin .add .u64 (A.conv .u64 w0) (A.conv .u64 wv')) = (T:Int):=by rw [hT]; exact addU hA hc m1 (by omega)
  have hTW:T / W ≤ 1:=by rw [hT,hW]; omega
  obtain ⟨c', hc'⟩:∃ c' : Int,c' = ((T / W:Nat):Int):=⟨_,rfl⟩
  obtain ⟨e', he'⟩:∃ e', e' = wl (dg W M (upd W p R (T % W))):=⟨_,rfl⟩
  obtain ⟨j', hj'⟩:∃ j' : Int,j' = ((i + 1:Nat):Int):=⟨_,rfl⟩
  have f1:A.bin .add .i64 j 1 = j' := by rw [hj,hj']; exact AE.addN hA (by omega)
  have f2:A.lset ei p [.v (.int .u32 (A.conv .u32 (A.bin .add .u64 zc (A.bin .add .u64 (A.conv .u64 w0) (A.conv .u64 wv')))))] = e' := by
   rw [cv32 hA m2,lsetE hA,hei,he', ← dg_upd Wpos (Nat.mod_lt _ Wpos) hpM,hW]
   exact wl_set _ _ _
  have f4:A.bin .shr .u64 (A.bin .add .u64 zc (A.bin .add .u64 (A.conv .u64 w0) (A.conv .u64 wv'))) 32 = c' := (shrU hA m2 (y:=32) (b:=32) rfl (by decide)).trans (by rw [hc', hW])
  have hinv:∃ R' c2:Nat,c' = (c2:Int) ∧ c2 ≤ 1 ∧ R' < W ^ (lo + n + 1) ∧ R' + c2 * W ^ (lo + (i + 1)) = U + V % W ^ (i + 1) * W ^ lo ∧ e' = wl (dg W M R'):=by
   refine ⟨upd W p R (T % W),T / W,hc', hTW,upd_lt Wpos (by omega) hRb (Nat.mod_lt _ Wpos),?_,he'⟩
   have ms:=back_step (v:=dv) hd0 hR
   rw [← hT] at ms
   rw [show lo + (i + 1) = p + 1 by omega,ms,mod_succ,← hdv,hp,Nat.add_mul,Nat.pow_add,Nat.mul_comm (W ^ lo) (W ^ i),← Nat.mul_assoc,Nat.add_assoc]
  (repeat' (first|(refine X.g ?_; cbv)|refine X.splitT ?_|refine X.splitF ?_|refine X.sp (fun hc=>?_) (fun hc=>?_)|refine X.needT ?_|refine X.need _ _ _ hat ?_|refine X.idxw _ _ _ _ _ _ _ _ i i hj h (Nat.zero_add i).symm ?_|refine X.idxw _ _ _ _ _ _ _ _ i p hj (show i < m by omega) hp ?_|refine X.ldq _ _ _ _ _ _ _ _ _ hcv ?_|refine X.ldq _ _ _ _ _ _ _ _ _ hcp ?_))
  all_goals (refine hB ⟨(i + 1,j', c', e'),h,hj', hinv⟩ _ (by show n - (i + 1) < n - i; omega) ?_; clear hB; cbv <;> (and_intros <;> first|exact f1|exact f2|exact f4|rfl|trivial))
 ·have c1:A.cmp .lss j (Int.ofNat n) = false:=ltF hA hj rfl h
  have hin:i = n:=by omega
  clear hB
  rw [hin,Nat.mod_eq_of_lt hV] at hR
  have hpz:Int.ofNat n = (n:Int):=rfl
  have hpn:p + 1 = lo + n + 1:=by omega
  have m1:A.conv .u32 zc = ((c:Nat):Int):=by rw [cv32 hA hc,show c % 2 ^ 32 = c from Nat.mod_eq_of_lt (by omega)]
  have m2:A.bin .add .u32 w0 (A.conv .u32 zc) = (((d0 + c) % W:Nat):Int):=by
   rw [m1,hw0,hW]; subst hA
   show IntKind.wrap .u32 _ = _
   rw [AE.wrap_u32]; omega
  have ms:=back_last (c:=c) Wpos (by rw [hpn]; exact hRb) hd0
  have f2:A.lset ei p [.v (.int .u32 (A.bin .add .u32 w0 (A.conv .u32 zc)))] = er:=by
   rw [m2,lsetE hA,hei,her,hU', ← hR,← hpn,← ms,← dg_upd Wpos (Nat.mod_lt _ Wpos) hpM]
   exact wl_set _ _ _
  (repeat' (first|(refine X.g ?_; cbv)|refine X.splitT ?_|refine X.splitF ?_|refine X.sp (fun hc=>?_) (fun hc=>?_)|refine X.needT ?_|refine X.need _ _ _ hat ?_|refine X.idxw _ _ _ _ _ _ _ _ n p hpz (show n < m by omega) (show p = lo + n by omega) ?_|refine X.ldq _ _ _ _ _ _ _ _ _ hcp ?_))
  all_goals (refine X.fin _ (X.done rfl ?_); cbv <;> (and_intros <;> first|exact f2|rfl|trivial))
end Go.Proofs.YthadehkggddgoaaGreatDoor
end
