/- The greatest common divisor by halves: plain laws. Contract: nat.halves (under way). -/
import Derived.Test.YthadehkggddgoaaGreatDoorZGcdC
set_option maxRecDepth 100000
set_option maxHeartbeats 0
section
set_option linter.unusedVariables false
namespace Go.Num
theorem odd_cop {o k:Nat} (h:o % 2 = 1):Nat.Coprime o (2 ^ k):=by
 apply Nat.Coprime.pow_right
 rw [Nat.coprime_comm]
 show Nat.gcd 2 o = 1
 rw [Nat.gcd_rec,h]; decide
theorem gcd_twos {a b i j:Nat} (ha:a % 2 = 1) (hb:b % 2 = 1):Nat.gcd (a * 2 ^ i) (b * 2 ^ j) = Nat.gcd a b * 2 ^ min i j:=by
 rcases Nat.le_total i j with h|h
 ·obtain ⟨e,rfl⟩:∃ e,j = i + e:=⟨j - i,by omega⟩
  rw [Nat.min_eq_left h,Nat.add_comm i e,Nat.pow_add,← Nat.mul_assoc,Nat.gcd_mul_right]
  congr 1
  exact Nat.Coprime.gcd_mul_right_cancel_right _ (odd_cop ha).symm
 ·obtain ⟨e,rfl⟩:∃ e,i = j + e:=⟨i - j,by omega⟩
  rw [Nat.min_eq_right h,Nat.add_comm j e,Nat.pow_add,← Nat.mul_assoc,Nat.gcd_mul_right]
  congr 1
  exact Nat.Coprime.gcd_mul_right_cancel _ (odd_cop hb).symm
theorem gcd_step {a b d o k:Nat} (hb:b % 2 = 1) (hle:b ≤ a) (hd:d = a - b) (ho:d = o * 2 ^ k):Nat.gcd o b = Nat.gcd a b:=by
 have h1:Nat.gcd d b = Nat.gcd a b:=by rw [hd,Nat.gcd_sub_self_left hle]
 rw [← h1,ho]
 exact (Nat.Coprime.gcd_mul_right_cancel _ (odd_cop hb).symm).symm
theorem be_take_step (A C:List UInt8) (P:List UInt8) (b k:Nat) (x:UInt8) (hP:P[b]? = some x):(A ++ (P.take b ++ List.replicate (k + 1) 0) ++ C).set (A.length + b) x = A ++ (P.take (b + 1) ++ List.replicate k 0) ++ C:=by
 have hb:b < P.length:=(List.getElem?_eq_some_iff.1 hP).1
 have hl:(P.take b).length = b:=by rw [List.length_take]; omega
 rw [List.append_assoc,List.set_append_right _ _ (by omega),Nat.add_sub_cancel_left,List.append_assoc,List.set_append_right _ _ (by omega),hl,Nat.sub_self,List.replicate_succ,List.cons_append,List.set_cons_zero,List.take_add_one,hP]
 simp
theorem be_mod {k n:Nat}:be k (n % 256 ^ k) = be k n:=by rw [be,be,dg_mod (by decide)]
def hb (m i b Y:Nat):List UInt8:=List.replicate (8 * (m - 1 - i)) 0 ++ ((be 8 (Y / 256 ^ (8 * i))).take b ++ List.replicate (8 - b) 0) ++ be (8 * i) Y
theorem hb_len {m i b Y:Nat} (hi:i < m) (hb' : b ≤ 8):(hb m i b Y).length = 8 * m:=by
 simp [hb,be_len]; omega
theorem hb_start {m i Y:Nat} (hi:i < m):hb m i 0 Y = List.replicate (8 * (m - i)) 0 ++ be (8 * i) Y:=by
 rw [hb,List.take_zero,List.nil_append,List.replicate_append_replicate]
 congr 2; omega
theorem hb_end {m i Y:Nat} (hi:i < m):hb m i 8 Y = List.replicate (8 * (m - (i + 1))) 0 ++ be (8 * (i + 1)) Y:=by
 rw [hb,List.take_of_length_le (by rw [be_len]; exact Nat.le_refl _),Nat.sub_self,List.replicate_zero,List.append_nil,List.append_assoc]
 have h:=be_app 8 (8 * i) (Y / 256 ^ (8 * i)) (Y % 256 ^ (8 * i)) (Nat.mod_lt _ (Nat.pow_pos (by decide)))
 rw [Nat.mul_comm (Y / _),Nat.div_add_mod,be_mod] at h
 rw [← h]
 congr 2 <;> omega
theorem hb_step {m i b Y:Nat} (x:UInt8) (hb' : b < 8) (hx:x = UInt8.ofNat (Y / 256 ^ (8 * i) / 2 ^ (56 - 8 * b) % 256)):(hb m i b Y).set (8 * (m - 1 - i) + b) x = hb m i (b + 1) Y:=by
 have hP:(be 8 (Y / 256 ^ (8 * i)))[b]? = some x:=by
  rw [Proofs.YthadehkggddgoaaGreatDoor.be8,hx]
  match b,hb' with
  | 0,_=>rfl
  | 1,_=>rfl
  | 2,_=>rfl
  | 3,_=>rfl
  | 4,_=>rfl
  | 5,_=>rfl
  | 6,_=>rfl
  | 7,_=>rfl
 have h:=be_take_step (List.replicate (8 * (m - 1 - i)) 0) (be (8 * i) Y) (be 8 (Y / 256 ^ (8 * i))) b (7 - b) x hP
 rw [List.length_replicate,show 7 - b + 1 = 8 - b by omega] at h
 rw [hb,h,hb,show 8 - (b + 1) = 7 - b by omega]
theorem val_rep (l:List UInt8) (k:Nat):val (l ++ List.replicate k 0) = val l * 256 ^ k:=by
 induction k with
 | zero=>simp
 | succ k ih =>
  rw [List.replicate_succ', ← List.append_assoc,val_snoc,ih,Nat.pow_succ]
  simp [Nat.mul_assoc]
theorem pow_bytes (k:Nat):val (UInt8.ofNat (2 ^ (k % 8)) :: List.replicate (k / 8) 0) = 2 ^ k:=by
 have h:=val_rep [UInt8.ofNat (2 ^ (k % 8))] (k / 8)
 rw [List.singleton_append] at h
 have h2:2 ^ (k % 8) < 256:=Nat.lt_of_lt_of_le (Nat.pow_lt_pow_right (by decide) (Nat.mod_lt _ (by decide))) (Nat.le_refl (2 ^ 8))
 have h3:val [UInt8.ofNat (2 ^ (k % 8))] = 2 ^ (k % 8):=by
  rw [val_cons]; simp [val]; omega
 rw [h,h3,show (256:Nat) = 2 ^ 8 from rfl,← Nat.pow_mul,← Nat.pow_add,Nat.mod_add_div]
end Go.Num
end
section
set_option linter.unusedVariables false
set_option linter.unusedSimpArgs false
namespace Go.Proofs.YthadehkggddgoaaGreatDoor
open Go Go.Num
theorem enc_ln {x:Nat} {s:ByteArray} (h:s = enc x):(s.size + 7) / 8 = ln x:=by rw [h]; rfl
theorem ln_pos {x:Nat} (h:0 < x):0 < ln x:=by
 apply Nat.pos_of_ne_zero; intro h0
 have:=(ln_le (x:=x) (m:=0)).1 (by omega)
 simp at this; omega
theorem Win.row {n x:Nat} (h:x < W8 ^ n):Win (dg W8 n x) 0 n x :=
 ⟨by rw [dg_len]; omega,by rw [List.drop_zero,List.take_of_length_le (by rw [dg_len]; exact Nat.le_refl _)],h⟩
theorem tz_le {x n : Nat} (h : x < W8 ^ n) : tz x / 64 ≤ n ∧ tz x ≤ 64 * n := by
  rcases Nat.eq_zero_or_pos x with h0 | h0
  · rw [h0, tz]; simp
  · obtain ⟨o, ho, hx⟩ := tz_spec x h0
    have h1 : 2 ^ tz x ≤ x := by conv => rhs; rw [hx]
                                 exact Nat.le_mul_of_pos_left _ (by omega)
    have h2 : W8 ^ n = 2 ^ (64 * n) := by rw [W8e, ← Nat.pow_mul]
    rw [h2] at h
    have h3 := (Nat.pow_lt_pow_iff_right (by decide : 1 < 2)).1 (Nat.lt_of_le_of_lt h1 h)
    omega
structure HS where
 sw:Bool
 ea:List (List AE.AV)
 eb:List (List AE.AV)
 lo:Nat
 n:Nat
 lo' : Nat
 m:Nat
 X:Nat
 Y:Nat
structure HInv (G:Nat) (h:HS):Prop where
 la:∃ L,Win L h.lo h.n h.X ∧ h.ea = ql L
 lb:∃ L,Win L h.lo' h.m h.Y ∧ h.eb = ql L
 hn:h.n = ln h.X
 hm:h.m = ln h.Y
 nb:h.n ≤ 2 ^ 34
 mb:h.m ≤ 2 ^ 34
 odd:h.Y % 2 = 1
 g:Nat.gcd h.X h.Y = G
def wnd (b:Bool) (lo n:Nat):AE.AV:=match b with|false=>.w 0 1 lo n|true=>.w 1 1 lo n
def rws (b:Bool) (ea eb:List (List AE.AV)):List AE.OB:=match b with|false=>[.row 1000072 1 ea,.row 1000072 1 eb]|true=>[.row 1000072 1 eb,.row 1000072 1 ea]
theorem halves_ok (x y:Nat) (hx:0 < x) (hy:0 < y) (s t r:ByteArray) (hs:s = enc x) (ht:t = enc y) (hs2:s.size ≤ 2 ^ 34) (ht2:t.size ≤ 2 ^ 34) (hr:r = enc (Nat.gcd x y)) :
  AE.ACallG GG Tryz.prog 199 [] [.v (.string s),.v (.string t)] [] (.v (.string r)):=by
 refine AE.ACallG.of_walk (fn:=Tryz.f199) (c:=bodyOf Tryz.f199) GG_stays tabOK Tryz.func199 rfl rfl mixed fun A hA X=>?_
 have hW8:W8 = 18446744073709551616:=W8_eq
 obtain ⟨n0,hn0⟩:∃ n,n = ln x:=⟨_,rfl⟩
 obtain ⟨m0,hm0⟩:∃ n,n = ln y:=⟨_,rfl⟩
 have hn36:n0 ≤ 2 ^ 34:=by rw [hn0,← enc_ln hs]; omega
 have hm36:m0 ≤ 2 ^ 34:=by rw [hm0,← enc_ln ht]; omega
 have hxn:x < W8 ^ n0:=by rw [hn0]; exact ln_lt x
 have hym:y < W8 ^ m0:=by rw [hm0]; exact ln_lt y
 obtain ⟨L0,hL0⟩:∃ L,L = dg W8 n0 x:=⟨_,rfl⟩
 obtain ⟨L1,hL1⟩:∃ L,L = dg W8 m0 y:=⟨_,rfl⟩
 obtain ⟨e0,he0⟩:∃ e,e = ql L0:=⟨_,rfl⟩
 obtain ⟨e1,he1⟩:∃ e,e = ql L1:=⟨_,rfl⟩
 have w0:Win L0 0 n0 x:=by rw [hL0]; exact Win.row hxn
 have w1:Win L1 0 m0 y:=by rw [hL1]; exact Win.row hym
 have ka:=limbs_ok s (by omega) x n0 (by rw [hs,bv_enc]) (by rw [hn0,enc_ln hs]) e0 (by rw [he0,hL0])
 have kb:=limbs_ok t (by omega) y m0 (by rw [ht,bv_enc]) (by rw [hm0,enc_ln ht]) e1 (by rw [he1,hL1])
 obtain ⟨k1,hk1⟩:∃ k,k = tz x:=⟨_,rfl⟩
 obtain ⟨k2,hk2⟩:∃ k,k = tz y:=⟨_,rfl⟩
 obtain ⟨z1,hz1⟩:∃ k:Int,k = (k1:Int):=⟨_,rfl⟩
 obtain ⟨z2,hz2⟩:∃ k:Int,k = (k2:Int):=⟨_,rfl⟩
 have kc:=evens_ok L0 0 n0 x w0 (by omega) hx z1 (by rw [hz1,hk1]) e0 he0
 have kd:=evens_ok L1 0 m0 y w1 (by omega) hy z2 (by rw [hz2,hk2]) e1 he1
 obtain ⟨o1,ho1,hx1⟩:=tz_spec x hx
 obtain ⟨o2,ho2,hy1⟩:=tz_spec y hy
 rw [← hk1] at hx1
 rw [← hk2] at hy1
 have hd1:o1 = x / 2 ^ k1:=by rw [hx1,Nat.mul_div_cancel _ (Nat.two_pow_pos _)]
 have hd2:o2 = y / 2 ^ k2:=by rw [hy1,Nat.mul_div_cancel _ (Nat.two_pow_pos _)]
 obtain ⟨t1,t2⟩:=tz_le hxn
 obtain ⟨t3,t4⟩:=tz_le hym
 rw [← hk1] at t1 t2
 rw [← hk2] at t3 t4
 obtain ⟨n1,hn1⟩:∃ n,n = ln o1:=⟨_,rfl⟩
 obtain ⟨m1,hm1⟩:∃ n,n = ln o2:=⟨_,rfl⟩
 obtain ⟨l1,hl1⟩:∃ l,l = 0 + k1 / 64:=⟨_,rfl⟩
 obtain ⟨l2,hl2⟩:∃ l,l = 0 + k2 / 64:=⟨_,rfl⟩
 obtain ⟨La,hLa⟩:∃ L,L = put L0 l1 (dg W8 (n0 - k1 / 64) o1):=⟨_,rfl⟩
 obtain ⟨Lb,hLb⟩:∃ L,L = put L1 l2 (dg W8 (m0 - k2 / 64) o2):=⟨_,rfl⟩
 obtain ⟨ea,hea⟩:∃ e,e = ql La:=⟨_,rfl⟩
 obtain ⟨eb,heb⟩:∃ e,e = ql Lb:=⟨_,rfl⟩
 have ke:=right_ok L0 0 n0 x k1 n1 o1 l1 w0 (by omega) t1 (by omega) z1 hz1 hd1 hn1 hl1 e0 ea he0 (by rw [hea,hLa])
 have kf:=right_ok L1 0 m0 y k2 m1 o2 l2 w1 (by omega) t3 (by omega) z2 hz2 hd2 hm1 hl2 e1 eb he1 (by rw [heb,hLb])
 (repeat' (first|(refine X.g ?_; cbv)|refine X.splitT ?_|refine X.splitF ?_|refine X.sp (fun hc=>?_) (fun hc=>?_)|refine X.needT ?_|refine X.callsA [] ka ?_|refine X.callsA [] kb ?_|refine X.callsGA [0] kc ?_|refine X.callsGA [1] kd ?_|refine X.callsA [0] ke ?_|refine X.callsA [1] kf ?_))
 obtain ⟨G,hG⟩:∃ G,G = Nat.gcd o1 o2:=⟨_,rfl⟩
 have ho1x:o1 ≤ x:=by rw [hd1]; exact Nat.div_le_self _ _
 have ho2y:o2 ≤ y:=by rw [hd2]; exact Nat.div_le_self _ _
 have hstart:HInv G ⟨false,ea,eb,l1,n1,l2,m1,o1,o2⟩:=by
  have wwin:∀ (L:List Nat) (lo n x k o l:Nat),Win L lo n x → k / 64 ≤ n → o = x / 2 ^ k → l = lo + k / 64 → Win (put L l (dg W8 (n - k / 64) o)) l (ln o) o:=fun L lo n x k o l hw hk ho hl=>by
   have h9:=(hw.drop hk).lt
   have how:o < W8 ^ (n - k / 64):=by
    refine Nat.lt_of_le_of_lt ?_ h9
    rw [ho,W8e,← Nat.pow_mul]
    exact Nat.div_le_div_left (Nat.pow_le_pow_right (by decide) (by omega)) (Nat.two_pow_pos _)
   rw [hl]
   exact (put_win (hw.drop hk).len how).less (ln_le.2 how) (ln_le.1 (Nat.le_refl _))
  refine ⟨⟨La,?_,hea⟩,⟨Lb,?_,heb⟩,hn1,hm1,?_,?_,ho2,hG.symm⟩
  ·show Win La l1 n1 o1
   rw [hLa,hn1]; exact wwin L0 0 n0 x k1 o1 l1 w0 t1 hd1 hl1
  ·show Win Lb l2 m1 o2
   rw [hLb,hm1]; exact wwin L1 0 m0 y k2 o2 l2 w1 t3 hd2 hl2
  ·show n1 ≤ 2 ^ 34
   have:=ln_mono ho1x; omega
  ·show m1 ≤ 2 ^ 34
   have:=ln_mono ho2y; omega
 refine X.joins (ι:={ h:HS // HInv G h ∧ (h.X = 0 ∨ (h.X % 2 = 1 ∧ h.n ≤ 1 ∧ h.m ≤ 1)) }) (fun p=>[(5,wnd p.1.sw p.1.lo p.1.n),(6,wnd (!p.1.sw) p.1.lo' p.1.m)]) (fun p=>rws p.1.sw p.1.ea p.1.eb) ?_ fun C hC=>?_
 ·as_aux_lemma =>
  clear hstart ka kb kc kd ke kf
  intro ⟨⟨sw,ea,eb,lo,n,lo', m,X', Y⟩,hI,hdone⟩
  obtain ⟨⟨La,wa,hea⟩,⟨Lb,wb,heb⟩,hn,hm,nb,mb,oddY,hg⟩:=hI
  simp only at wa hea wb heb hn hm nb mb oddY hg hdone
  have hY0:0 < Y:=by omega
  have hG0:0 < G:=by rw [← hg]; exact Nat.gcd_pos_of_pos_right _ hY0
  have hGY:G ≤ Y:=by rw [← hg]; exact Nat.gcd_le_right _ hY0
  obtain ⟨k,hk⟩:∃ k,k = min k1 k2:=⟨_,rfl⟩
  have hGk:Nat.gcd x y = G * 2 ^ k:=by rw [hx1,hy1,gcd_twos ho1 ho2,← hG,hk]
  have hkb:k ≤ 2 ^ 40:=by omega
  have zk:A.imin z1 z2 = (k:Int):=by subst hA; rw [hz1,hz2,hk]; show (if (k2:Int) < (k1:Int) then (k2:Int) else (k1:Int)) = _; split <;> omega
  have zk8:A.bin .quo .i64 (A.imin z1 z2) 8 = ((k / 8:Nat):Int):=quoI hA zk (y:=8) (b:=8) rfl (by omega)
  have zk9:A.bin .add .i64 (A.bin .quo .i64 (A.imin z1 z2) 8) 1 = ((k / 8 + 1:Nat):Int):=addI hA zk8 (y:=1) (b:=1) rfl (by omega)
  have hmk2:AE.MakeR (A.bin .add .i64 (A.bin .quo .i64 (A.imin z1 z2) 8) 1) (A.bin .add .i64 (A.bin .quo .i64 (A.imin z1 z2) 8) 1) 1:=by rw [zk9]; constructor <;> omega
  have zk7:A.bin .rem .i64 (A.imin z1 z2) 8 = ((k % 8:Nat):Int):=remI hA zk (y:=8) (b:=8) rfl
  have hk8n:0 ≤ A.bin .rem .i64 (A.imin z1 z2) 8:=by rw [zk7]; exact Int.natCast_nonneg _
  obtain ⟨sT,hsT⟩:∃ s:ByteArray,s = ⟨(be (8 * m) G).toArray⟩:=⟨_,rfl⟩
  obtain ⟨sP,hsP⟩:∃ s:ByteArray,s = ⟨(UInt8.ofNat (2 ^ (k % 8)) :: List.replicate (k / 8) 0).toArray⟩:=⟨_,rfl⟩
  have hrepP:A.lrep (A.bin .add .i64 (A.bin .quo .i64 (A.imin z1 z2) 8) 1) [.v (.int .u8 0)] = bl (List.replicate (k / 8 + 1) 0):=by
   rw [zk9,← bl_rep]; subst hA; rfl
  have hat0:AE.AtR 0 (A.lrep (A.bin .add .i64 (A.bin .quo .i64 (A.imin z1 z2) 8) 1) [.v (.int .u8 0)]):=⟨by rw [hrepP,bl_len]; simp⟩
  have h8k:k % 8 < 8:=Nat.mod_lt _ (by decide)
  have h2k:2 ^ (k % 8) < 256:=Nat.lt_of_lt_of_le (Nat.pow_lt_pow_right (by decide) h8k) (Nat.le_refl (2 ^ 8))
  have zsh:A.bin .shl .u8 1 (A.bin .rem .i64 (A.imin z1 z2) 8) = (((UInt8.ofNat (2 ^ (k % 8))).toNat:Nat):Int):=by
   rw [zk7]; subst hA
   show IntKind.wrap .u8 ((1:Int) * 2 ^ min (((k % 8:Nat):Int)).toNat 8) = _
   rw [show (((k % 8:Nat):Int)).toNat = k % 8 from rfl,Nat.min_eq_left (by omega),AE.wrap_u8,Int.one_mul]
   have e1:((2:Int) ^ (k % 8)) = ((2 ^ (k % 8):Nat):Int):=by rw [Int.natCast_pow]; rfl
   rw [e1]; simp
  have hsP2:A.lset (A.lrep (A.bin .add .i64 (A.bin .quo .i64 (A.imin z1 z2) 8) 1) [.v (.int .u8 0)]) 0 [.v (.int .u8 (A.bin .shl .u8 1 (A.bin .rem .i64 (A.imin z1 z2) 8)))] = AE.sbytes sP:=by
   rw [zsh,hrepP,lsetE hA,bl_set,List.replicate_succ,List.set_cons_zero]
   exact bl_sbytes (by rw [hsP])
  have kmul:=natMul_ok sT sP (by rw [← size_data,hsT]; simp only [List.toList_toArray]; rw [be_len]; omega) (by rw [← size_data,hsP]; simp; omega) r (by
   have b1:bv sP = 2 ^ k:=by rw [bv,hsP]; simp only [List.toList_toArray]; exact pow_bytes k
   have b2:bv sT = G:=by
    rw [bv,hsT]; simp only [List.toList_toArray]; rw [val_be]
    have:G < W8 ^ m:=Nat.lt_of_le_of_lt hGY wb.lt
    rw [W8,← Nat.pow_mul] at this
    exact Nat.mod_eq_of_lt this
   rw [b1,b2,hr,hGk])
  have z8m:A.bin .mul .i64 8 (Int.ofNat m) = ((8 * m:Nat):Int):=mulI hA (x:=8) (a:=8) rfl (y:=Int.ofNat m) (b:=m) rfl (by omega)
  have hmk:AE.MakeR (A.bin .mul .i64 8 (Int.ofNat m)) (A.bin .mul .i64 8 (Int.ofNat m)) 1:=by rw [z8m]; constructor <;> omega
  obtain ⟨eT,heT⟩:∃ e,e = bl (List.replicate (8 * (m - 0)) 0 ++ be (8 * 0) G):=⟨_,rfl⟩
  have hrep:A.lrep (A.bin .mul .i64 8 (Int.ofNat m)) [.v (.int .u8 0)] = eT:=by
   rw [z8m,heT,Nat.mul_zero,be_zero,List.append_nil,Nat.sub_zero,← bl_rep]; subst hA; rfl
  rcases hdone with hX0|⟨hXo,hn1', hm1'⟩
  ·have c1:A.cmp .eql (Int.ofNat n) 1 = false:=eqF hA (x:=Int.ofNat n) (a:=n) rfl (b:=1) rfl (by rw [hn,hX0,ln,enc_zero]; decide)
   have hYG:Y = G:=by rw [← hg,hX0,Nat.gcd_zero_left]
   obtain ⟨ef,hef0⟩:∃ e,e = eb:=⟨_,rfl⟩
   have hef2:eb = ef:=hef0.symm
   have hef:ef = ql Lb:=by rw [hef0,heb]
   have wf:Win Lb lo' m G:=by rw [← hYG]; exact wb
   cases sw
   ·as_aux_lemma =>
    (repeat' (first|(refine X.g ?_; cbv)|refine X.splitT ?_|refine X.splitF ?_|refine X.sp (fun hc=>?_) (fun hc=>?_)|refine X.needT ?_|refine X.need _ _ _ hmk ?_))
    refine X.carries (ι:={ p:Nat × Int × List (List AE.AV) // p.1 ≤ m ∧ p.2.1 = p.1 ∧ p.2.2 = bl (List.replicate (8 * (m - p.1)) 0 ++ be (8 * p.1) G) }) (fun p=>[(74,.v (.int .i64 p.1.2.1))]) (fun p=>rws false ea ef ++ [.row 5 1 p.1.2.2]) (fun p=>m - p.1.1) ⟨(0,0,eT),Nat.zero_le _,rfl,heT⟩ ?_ fun i B hB=>?_
    ·(cbv <;> (and_intros <;> first|exact hrep|exact hef2|rfl|trivial))
    obtain ⟨⟨i,j,ei⟩,hi,hj,hei⟩:=i
    simp only at hi hj hei
    by_cases h:i < m
    ·have c5:A.cmp .lss j (Int.ofNat m) = true:=ltT hA hj rfl h
     obtain ⟨d,hd⟩:∃ d,d = G / W8 ^ i % W8:=⟨_,rfl⟩
     have hdW:d < W8:=by rw [hd]; exact Nat.mod_lt _ W8pos
     obtain ⟨w,hw⟩:∃ w:Int,w = (d:Int):=⟨_,rfl⟩
     obtain ⟨q,hq⟩:∃ q,q = lo' + i:=⟨_,rfl⟩
     have hcell:ef[q]? = some [.v (.int .u64 w)]:=by rw [hef,hw,hq,hd]; exact ql_get (wf.get h)
     obtain ⟨j', hj'⟩:∃ j' : Int,j' = ((i + 1:Nat):Int):=⟨_,rfl⟩
     have f1:A.bin .add .i64 j 1 = j' := by rw [hj,hj']; exact AE.addN hA (by omega)
     obtain ⟨e', he'⟩:∃ e', e' = bl (List.replicate (8 * (m - (i + 1))) 0 ++ be (8 * (i + 1)) G):=⟨_,rfl⟩
     (repeat' (first|(refine X.g ?_; cbv)|refine X.splitT ?_|refine X.splitF ?_|refine X.sp (fun hc=>?_) (fun hc=>?_)|refine X.needT ?_|refine X.idxw _ _ _ _ _ _ _ _ i q hj h hq ?_|refine X.ldq _ _ _ _ _ _ _ _ _ hcell ?_))
     refine X.carries (ι:={ p:Nat × Int × List (List AE.AV) // p.1 ≤ 8 ∧ p.2.1 = p.1 ∧ p.2.2 = bl (hb m i p.1 G) }) (fun p=>[(79,.v (.int .i64 p.1.2.1))]) (fun p=>rws false ea ef ++ [.row 5 1 p.1.2.2]) (fun p=>8 - p.1.1) ⟨(0,0,ei),Nat.zero_le _,rfl,by rw [hei,← hb_start h]⟩ ?_ fun b C hC=>?_
     ·clear hB
      (cbv <;> (and_intros <;> first|rfl|trivial))
     obtain ⟨⟨b,l,eb2⟩,hb8,hl,heb2⟩:=b
     simp only at hb8 hl heb2
     by_cases h8:b < 8
     ·clear hB
      have c6:A.cmp .lss l 8 = true:=ltT hA hl (b:=8) rfl h8
      obtain ⟨g,hg2⟩:∃ g,g = 8 * (m - 1 - i) + b:=⟨_,rfl⟩
      have zg:A.bin .add .i64 (A.bin .mul .i64 8 (A.bin .sub .i64 (A.bin .sub .i64 (Int.ofNat m) 1) j)) l = (g:Int):=by
       rw [hg2]; exact addI hA (mulI hA (x:=8) (a:=8) rfl (subI hA (subI hA (x:=Int.ofNat m) (a:=m) rfl (y:=1) (b:=1) rfl (by omega) (by omega)) hj (by omega) (by omega)) (by omega)) hl (by omega)
      have z56:A.bin .sub .i64 56 (A.bin .mul .i64 8 l) = ((56 - 8 * b:Nat):Int):=subI hA (x:=56) (a:=56) rfl (mulI hA (x:=8) (a:=8) rfl hl (by omega)) (by omega) (by decide)
      have n56:0 ≤ A.bin .sub .i64 56 (A.bin .mul .i64 8 l):=by rw [z56]; exact Int.natCast_nonneg _
      have hat:AE.AtR g eb2:=⟨by rw [heb2,bl_len,hb_len h hb8]; omega⟩
      obtain ⟨l', hl'⟩:∃ j' : Int,j' = ((b + 1:Nat):Int):=⟨_,rfl⟩
      have g1:A.bin .add .i64 l 1 = l' := by rw [hl,hl']; exact AE.addN hA (by omega)
      obtain ⟨e2,he2⟩:∃ e', e' = bl (hb m i (b + 1) G):=⟨_,rfl⟩
      obtain ⟨u,hu⟩:∃ u:UInt8,u = UInt8.ofNat (G / 256 ^ (8 * i) / 2 ^ (56 - 8 * b) % 256):=⟨_,rfl⟩
      have hv:A.conv .u8 (A.bin .shr .u64 w (A.bin .sub .i64 56 (A.bin .mul .i64 8 l))) = (u.toNat:Int):=by
       rw [cv8 hA (shrU hA hw z56 (by omega)),hu]
       have e3:d / 2 ^ (56 - 8 * b) % 2 ^ 8 = G / 256 ^ (8 * i) / 2 ^ (56 - 8 * b) % 256:=by
        have e4:W8 ^ i = 256 ^ (8 * i):=by rw [W8,← Nat.pow_mul]
        rw [hd,e4]
        generalize G / 256 ^ (8 * i) = v
        have e5:W8 = 2 ^ (56 - 8 * b) * 2 ^ (8 + 8 * b):=by rw [← Nat.pow_add,show 56 - 8 * b + (8 + 8 * b) = 64 by omega]; rfl
        rw [e5,Nat.mod_mul_right_div_self]
        exact Nat.mod_mod_of_dvd _ ⟨2 ^ (8 * b),by rw [Nat.pow_add]⟩
       rw [e3]
       simp
      have g2:A.lset eb2 g [.v (.int .u8 (A.conv .u8 (A.bin .shr .u64 w (A.bin .sub .i64 56 (A.bin .mul .i64 8 l)))))] = e2:=by
       rw [hv,lsetE hA,heb2,bl_set,hg2,hb_step u h8 hu,he2]
      (repeat' (first|(refine X.g ?_; cbv)|refine X.splitT ?_|refine X.splitF ?_|refine X.sp (fun hc=>?_) (fun hc=>?_)|refine X.needT ?_|refine X.need _ _ _ n56 ?_|refine X.need _ _ _ hat ?_|refine X.idxA g hat zg ?_))
      all_goals (refine hC ⟨(b + 1,l', e2),h8,hl', he2⟩ _ (by show 8 - (b + 1) < 8 - b; omega) ?_; clear hC; cbv <;> (and_intros <;> first|exact g1|exact g2|rfl|trivial))
     ·clear hC
      have c6:A.cmp .lss l 8 = false:=ltF hA hl (b:=8) rfl h8
      have hbe:b = 8:=by omega
      have hee:eb2 = e' := by rw [heb2,he', hbe,hb_end h]
      (repeat' (first|(refine X.g ?_; cbv)|refine X.splitT ?_|refine X.splitF ?_|refine X.sp (fun hc=>?_) (fun hc=>?_)|refine X.needT ?_))
      all_goals (refine hB ⟨(i + 1,j', e'),h,hj', he'⟩ _ (by show m - (i + 1) < m - i; omega) ?_; clear hB; cbv <;> (and_intros <;> first|exact f1|exact hee|rfl|trivial))
    ·clear hB
     have c5:A.cmp .lss j (Int.ofNat m) = false:=ltF hA hj rfl h
     have him:i = m:=by omega
     have hee:ei = AE.sbytes sT:=by rw [hei,him,Nat.sub_self]; exact bl_sbytes (by rw [hsT]; simp)
     (repeat' (first|(refine X.g ?_; cbv)|refine X.splitT ?_|refine X.splitF ?_|refine X.sp (fun hc=>?_) (fun hc=>?_)|refine X.needT ?_|refine X.need _ _ _ hmk2 ?_|refine X.need _ _ _ hk8n ?_|refine X.idxA 0 hat0 rfl ?_|refine X.need _ _ _ hat0 ?_|refine X.str _ _ _ _ sT hee ?_|refine X.str _ _ _ _ sP hsP2 ?_|refine X.callsA [] kmul ?_))
     all_goals (refine X.ret _ (X.done rfl ?_); cbv <;> (and_intros <;> first|rfl|trivial))
   ·as_aux_lemma =>
    (repeat' (first|(refine X.g ?_; cbv)|refine X.splitT ?_|refine X.splitF ?_|refine X.sp (fun hc=>?_) (fun hc=>?_)|refine X.needT ?_|refine X.need _ _ _ hmk ?_))
    refine X.carries (ι:={ p:Nat × Int × List (List AE.AV) // p.1 ≤ m ∧ p.2.1 = p.1 ∧ p.2.2 = bl (List.replicate (8 * (m - p.1)) 0 ++ be (8 * p.1) G) }) (fun p=>[(74,.v (.int .i64 p.1.2.1))]) (fun p=>rws true ea ef ++ [.row 5 1 p.1.2.2]) (fun p=>m - p.1.1) ⟨(0,0,eT),Nat.zero_le _,rfl,heT⟩ ?_ fun i B hB=>?_
    ·(cbv <;> (and_intros <;> first|exact hrep|exact hef2|rfl|trivial))
    obtain ⟨⟨i,j,ei⟩,hi,hj,hei⟩:=i
    simp only at hi hj hei
    by_cases h:i < m
    ·have c5:A.cmp .lss j (Int.ofNat m) = true:=ltT hA hj rfl h
     obtain ⟨d,hd⟩:∃ d,d = G / W8 ^ i % W8:=⟨_,rfl⟩
     have hdW:d < W8:=by rw [hd]; exact Nat.mod_lt _ W8pos
     obtain ⟨w,hw⟩:∃ w:Int,w = (d:Int):=⟨_,rfl⟩
     obtain ⟨q,hq⟩:∃ q,q = lo' + i:=⟨_,rfl⟩
     have hcell:ef[q]? = some [.v (.int .u64 w)]:=by rw [hef,hw,hq,hd]; exact ql_get (wf.get h)
     obtain ⟨j', hj'⟩:∃ j' : Int,j' = ((i + 1:Nat):Int):=⟨_,rfl⟩
     have f1:A.bin .add .i64 j 1 = j' := by rw [hj,hj']; exact AE.addN hA (by omega)
     obtain ⟨e', he'⟩:∃ e', e' = bl (List.replicate (8 * (m - (i + 1))) 0 ++ be (8 * (i + 1)) G):=⟨_,rfl⟩
     (repeat' (first|(refine X.g ?_; cbv)|refine X.splitT ?_|refine X.splitF ?_|refine X.sp (fun hc=>?_) (fun hc=>?_)|refine X.needT ?_|refine X.idxw _ _ _ _ _ _ _ _ i q hj h hq ?_|refine X.ldq _ _ _ _ _ _ _ _ _ hcell ?_))
     refine X.carries (ι:={ p:Nat × Int × List (List AE.AV) // p.1 ≤ 8 ∧ p.2.1 = p.1 ∧ p.2.2 = bl (hb m i p.1 G) }) (fun p=>[(79,.v (.int .i64 p.1.2.1))]) (fun p=>rws true ea ef ++ [.row 5 1 p.1.2.2]) (fun p=>8 - p.1.1) ⟨(0,0,ei),Nat.zero_le _,rfl,by rw [hei,← hb_start h]⟩ ?_ fun b C hC=>?_
     ·clear hB
      (cbv <;> (and_intros <;> first|rfl|trivial))
     obtain ⟨⟨b,l,eb2⟩,hb8,hl,heb2⟩:=b
     simp only at hb8 hl heb2
     by_cases h8:b < 8
     ·clear hB
      have c6:A.cmp .lss l 8 = true:=ltT hA hl (b:=8) rfl h8
      obtain ⟨g,hg2⟩:∃ g,g = 8 * (m - 1 - i) + b:=⟨_,rfl⟩
      have zg:A.bin .add .i64 (A.bin .mul .i64 8 (A.bin .sub .i64 (A.bin .sub .i64 (Int.ofNat m) 1) j)) l = (g:Int):=by
       rw [hg2]; exact addI hA (mulI hA (x:=8) (a:=8) rfl (subI hA (subI hA (x:=Int.ofNat m) (a:=m) rfl (y:=1) (b:=1) rfl (by omega) (by omega)) hj (by omega) (by omega)) (by omega)) hl (by omega)
      have z56:A.bin .sub .i64 56 (A.bin .mul .i64 8 l) = ((56 - 8 * b:Nat):Int):=subI hA (x:=56) (a:=56) rfl (mulI hA (x:=8) (a:=8) rfl hl (by omega)) (by omega) (by decide)
      have n56:0 ≤ A.bin .sub .i64 56 (A.bin .mul .i64 8 l):=by rw [z56]; exact Int.natCast_nonneg _
      have hat:AE.AtR g eb2:=⟨by rw [heb2,bl_len,hb_len h hb8]; omega⟩
      obtain ⟨l', hl'⟩:∃ j' : Int,j' = ((b + 1:Nat):Int):=⟨_,rfl⟩
      have g1:A.bin .add .i64 l 1 = l' := by rw [hl,hl']; exact AE.addN hA (by omega)
      obtain ⟨e2,he2⟩:∃ e', e' = bl (hb m i (b + 1) G):=⟨_,rfl⟩
      obtain ⟨u,hu⟩:∃ u:UInt8,u = UInt8.ofNat (G / 256 ^ (8 * i) / 2 ^ (56 - 8 * b) % 256):=⟨_,rfl⟩
      have hv:A.conv .u8 (A.bin .shr .u64 w (A.bin .sub .i64 56 (A.bin .mul .i64 8 l))) = (u.toNat:Int):=by
       rw [cv8 hA (shrU hA hw z56 (by omega)),hu]
       have e3:d / 2 ^ (56 - 8 * b) % 2 ^ 8 = G / 256 ^ (8 * i) / 2 ^ (56 - 8 * b) % 256:=by
        have e4:W8 ^ i = 256 ^ (8 * i):=by rw [W8,← Nat.pow_mul]
        rw [hd,e4]
        generalize G / 256 ^ (8 * i) = v
        have e5:W8 = 2 ^ (56 - 8 * b) * 2 ^ (8 + 8 * b):=by rw [← Nat.pow_add,show 56 - 8 * b + (8 + 8 * b) = 64 by omega]; rfl
        rw [e5,Nat.mod_mul_right_div_self]
        exact Nat.mod_mod_of_dvd _ ⟨2 ^ (8 * b),by rw [Nat.pow_add]⟩
       rw [e3]
       simp
      have g2:A.lset eb2 g [.v (.int .u8 (A.conv .u8 (A.bin .shr .u64 w (A.bin .sub .i64 56 (A.bin .mul .i64 8 l)))))] = e2:=by
       rw [hv,lsetE hA,heb2,bl_set,hg2,hb_step u h8 hu,he2]
      (repeat' (first|(refine X.g ?_; cbv)|refine X.splitT ?_|refine X.splitF ?_|refine X.sp (fun hc=>?_) (fun hc=>?_)|refine X.needT ?_|refine X.need _ _ _ n56 ?_|refine X.need _ _ _ hat ?_|refine X.idxA g hat zg ?_))
      all_goals (refine hC ⟨(b + 1,l', e2),h8,hl', he2⟩ _ (by show 8 - (b + 1) < 8 - b; omega) ?_; clear hC; cbv <;> (and_intros <;> first|exact g1|exact g2|rfl|trivial))
     ·clear hC
      have c6:A.cmp .lss l 8 = false:=ltF hA hl (b:=8) rfl h8
      have hbe:b = 8:=by omega
      have hee:eb2 = e' := by rw [heb2,he', hbe,hb_end h]
      (repeat' (first|(refine X.g ?_; cbv)|refine X.splitT ?_|refine X.splitF ?_|refine X.sp (fun hc=>?_) (fun hc=>?_)|refine X.needT ?_))
      all_goals (refine hB ⟨(i + 1,j', e'),h,hj', he'⟩ _ (by show m - (i + 1) < m - i; omega) ?_; clear hB; cbv <;> (and_intros <;> first|exact f1|exact hee|rfl|trivial))
    ·clear hB
     have c5:A.cmp .lss j (Int.ofNat m) = false:=ltF hA hj rfl h
     have him:i = m:=by omega
     have hee:ei = AE.sbytes sT:=by rw [hei,him,Nat.sub_self]; exact bl_sbytes (by rw [hsT]; simp)
     (repeat' (first|(refine X.g ?_; cbv)|refine X.splitT ?_|refine X.splitF ?_|refine X.sp (fun hc=>?_) (fun hc=>?_)|refine X.needT ?_|refine X.need _ _ _ hmk2 ?_|refine X.need _ _ _ hk8n ?_|refine X.idxA 0 hat0 rfl ?_|refine X.need _ _ _ hat0 ?_|refine X.str _ _ _ _ sT hee ?_|refine X.str _ _ _ _ sP hsP2 ?_|refine X.callsA [] kmul ?_))
     all_goals (refine X.ret _ (X.done rfl ?_); cbv <;> (and_intros <;> first|rfl|trivial))
  ·have hX0:0 < X' := by omega
   have hn1e:n = 1:=by have:=ln_pos hX0; omega
   have hm1e:m = 1:=by have:=ln_pos hY0; omega
   have c1:A.cmp .eql (Int.ofNat n) 1 = true:=eqT hA (x:=Int.ofNat n) (a:=n) rfl (b:=1) rfl hn1e
   have c2:A.cmp .eql (Int.ofNat m) 1 = true:=eqT hA (x:=Int.ofNat m) (a:=m) rfl (b:=1) rfl hm1e
   have hXlt:X' < W8:=by have h9:=wa.lt; rw [hn1e] at h9; simpa using h9
   have hYlt:Y < W8:=by have h9:=wb.lt; rw [hm1e] at h9; simpa using h9
   obtain ⟨zx,hzx⟩:∃ z:Int,z = (X' : Int):=⟨_,rfl⟩
   obtain ⟨zy,hzy⟩:∃ z:Int,z = (Y:Int):=⟨_,rfl⟩
   obtain ⟨zg,hzg⟩:∃ z:Int,z = (G:Int):=⟨_,rfl⟩
   have kcom:=common_ok X' Y (by omega) (by omega) zx zy zg hzx hzy (by rw [hzg,hg])
   have hcx:ea[lo]? = some [.v (.int .u64 zx)]:=by
    rw [hea,hzx]; refine ql_get ?_
    have h9:=wa.get (i:=0) (by omega)
    rw [Nat.add_zero,Nat.pow_zero,Nat.div_one,Nat.mod_eq_of_lt hXlt] at h9; exact h9
   have hcy:eb[lo']? = some [.v (.int .u64 zy)]:=by
    rw [heb,hzy]; refine ql_get ?_
    have h9:=wb.get (i:=0) (by omega)
    rw [Nat.add_zero,Nat.pow_zero,Nat.div_one,Nat.mod_eq_of_lt hYlt] at h9; exact h9
   obtain ⟨Lf,hLf⟩:∃ L,L = put Lb lo' (dg W8 m G):=⟨_,rfl⟩
   obtain ⟨ef,hef⟩:∃ e,e = ql Lf:=⟨_,rfl⟩
   have wlb:=wb.len
   have hatb:AE.AtR lo' eb:=⟨by rw [heb,ql_len]; omega⟩
   have hGW:G < W8 ^ m:=by rw [hm1e,Nat.pow_one]; omega
   have wf:Win Lf lo' m G:=by rw [hLf]; exact put_win wlb hGW
   have hef2:A.lset eb lo' [.v (.int .u64 zg)] = ef:=by
    have h1:=put_set (L:=Lb) (lo:=lo') (i:=0) (d:=G) (ds:=dg W8 m Y) (by rw [dg_len]; exact wlb) (by rw [dg_len]; omega)
    rw [put_self wb,Nat.add_zero] at h1
    have h2:(dg W8 m Y).set 0 G = dg W8 m G:=by
     rw [hm1e,dg,dg,dg,dg,List.set_cons_zero,Nat.mod_eq_of_lt (show G < W8 by omega)]
    rw [lsetE hA,heb,hzg,ql_set,h1,h2,hef,hLf]
   cases sw
   ·as_aux_lemma =>
    (repeat' (first|(refine X.g ?_; cbv)|refine X.splitT ?_|refine X.splitF ?_|refine X.sp (fun hc=>?_) (fun hc=>?_)|refine X.needT ?_|refine X.drawX _ _ _ (by kernel_rfl) ?_|refine X.idxw _ _ _ _ _ _ _ _ 0 lo rfl (show 0 < n by omega) rfl ?_|refine X.idxw _ _ _ _ _ _ _ _ 0 lo' rfl (show 0 < m by omega) rfl ?_|refine X.ldq _ _ _ _ _ _ _ _ _ hcx ?_|refine X.ldq _ _ _ _ _ _ _ _ _ hcy ?_|refine X.need _ _ _ hatb ?_|refine X.callsA [] kcom ?_|refine X.need _ _ _ hmk ?_))
    refine X.carries (ι:={ p:Nat × Int × List (List AE.AV) // p.1 ≤ m ∧ p.2.1 = p.1 ∧ p.2.2 = bl (List.replicate (8 * (m - p.1)) 0 ++ be (8 * p.1) G) }) (fun p=>[(74,.v (.int .i64 p.1.2.1))]) (fun p=>rws false ea ef ++ [.row 5 1 p.1.2.2]) (fun p=>m - p.1.1) ⟨(0,0,eT),Nat.zero_le _,rfl,heT⟩ ?_ fun i B hB=>?_
    ·(cbv <;> (and_intros <;> first|exact hrep|exact hef2|rfl|trivial))
    obtain ⟨⟨i,j,ei⟩,hi,hj,hei⟩:=i
    simp only at hi hj hei
    by_cases h:i < m
    ·have c5:A.cmp .lss j (Int.ofNat m) = true:=ltT hA hj rfl h
     obtain ⟨d,hd⟩:∃ d,d = G / W8 ^ i % W8:=⟨_,rfl⟩
     have hdW:d < W8:=by rw [hd]; exact Nat.mod_lt _ W8pos
     obtain ⟨w,hw⟩:∃ w:Int,w = (d:Int):=⟨_,rfl⟩
     obtain ⟨q,hq⟩:∃ q,q = lo' + i:=⟨_,rfl⟩
     have hcell:ef[q]? = some [.v (.int .u64 w)]:=by rw [hef,hw,hq,hd]; exact ql_get (wf.get h)
     obtain ⟨j', hj'⟩:∃ j' : Int,j' = ((i + 1:Nat):Int):=⟨_,rfl⟩
     have f1:A.bin .add .i64 j 1 = j' := by rw [hj,hj']; exact AE.addN hA (by omega)
     obtain ⟨e', he'⟩:∃ e', e' = bl (List.replicate (8 * (m - (i + 1))) 0 ++ be (8 * (i + 1)) G):=⟨_,rfl⟩
     (repeat' (first|(refine X.g ?_; cbv)|refine X.splitT ?_|refine X.splitF ?_|refine X.sp (fun hc=>?_) (fun hc=>?_)|refine X.needT ?_|refine X.idxw _ _ _ _ _ _ _ _ i q hj h hq ?_|refine X.ldq _ _ _ _ _ _ _ _ _ hcell ?_))
     refine X.carries (ι:={ p:Nat × Int × List (List AE.AV) // p.1 ≤ 8 ∧ p.2.1 = p.1 ∧ p.2.2 = bl (hb m i p.1 G) }) (fun p=>[(79,.v (.int .i64 p.1.2.1))]) (fun p=>rws false ea ef ++ [.row 5 1 p.1.2.2]) (fun p=>8 - p.1.1) ⟨(0,0,ei),Nat.zero_le _,rfl,by rw [hei,← hb_start h]⟩ ?_ fun b C hC=>?_
     ·clear hB
      (cbv <;> (and_intros <;> first|rfl|trivial))
     obtain ⟨⟨b,l,eb2⟩,hb8,hl,heb2⟩:=b
     simp only at hb8 hl heb2
     by_cases h8:b < 8
     ·clear hB
      have c6:A.cmp .lss l 8 = true:=ltT hA hl (b:=8) rfl h8
      obtain ⟨g,hg2⟩:∃ g,g = 8 * (m - 1 - i) + b:=⟨_,rfl⟩
      have zg:A.bin .add .i64 (A.bin .mul .i64 8 (A.bin .sub .i64 (A.bin .sub .i64 (Int.ofNat m) 1) j)) l = (g:Int):=by
       rw [hg2]; exact addI hA (mulI hA (x:=8) (a:=8) rfl (subI hA (subI hA (x:=Int.ofNat m) (a:=m) rfl (y:=1) (b:=1) rfl (by omega) (by omega)) hj (by omega) (by omega)) (by omega)) hl (by omega)
      have z56:A.bin .sub .i64 56 (A.bin .mul .i64 8 l) = ((56 - 8 * b:Nat):Int):=subI hA (x:=56) (a:=56) rfl (mulI hA (x:=8) (a:=8) rfl hl (by omega)) (by omega) (by decide)
      have n56:0 ≤ A.bin .sub .i64 56 (A.bin .mul .i64 8 l):=by rw [z56]; exact Int.natCast_nonneg _
      have hat:AE.AtR g eb2:=⟨by rw [heb2,bl_len,hb_len h hb8]; omega⟩
      obtain ⟨l', hl'⟩:∃ j' : Int,j' = ((b + 1:Nat):Int):=⟨_,rfl⟩
      have g1:A.bin .add .i64 l 1 = l' := by rw [hl,hl']; exact AE.addN hA (by omega)
      obtain ⟨e2,he2⟩:∃ e', e' = bl (hb m i (b + 1) G):=⟨_,rfl⟩
      obtain ⟨u,hu⟩:∃ u:UInt8,u = UInt8.ofNat (G / 256 ^ (8 * i) / 2 ^ (56 - 8 * b) % 256):=⟨_,rfl⟩
      have hv:A.conv .u8 (A.bin .shr .u64 w (A.bin .sub .i64 56 (A.bin .mul .i64 8 l))) = (u.toNat:Int):=by
       rw [cv8 hA (shrU hA hw z56 (by omega)),hu]
       have e3:d / 2 ^ (56 - 8 * b) % 2 ^ 8 = G / 256 ^ (8 * i) / 2 ^ (56 - 8 * b) % 256:=by
        have e4:W8 ^ i = 256 ^ (8 * i):=by rw [W8,← Nat.pow_mul]
        rw [hd,e4]
        generalize G / 256 ^ (8 * i) = v
        have e5:W8 = 2 ^ (56 - 8 * b) * 2 ^ (8 + 8 * b):=by rw [← Nat.pow_add,show 56 - 8 * b + (8 + 8 * b) = 64 by omega]; rfl
        rw [e5,Nat.mod_mul_right_div_self]
        exact Nat.mod_mod_of_dvd _ ⟨2 ^ (8 * b),by rw [Nat.pow_add]⟩
       rw [e3]
       simp
      have g2:A.lset eb2 g [.v (.int .u8 (A.conv .u8 (A.bin .shr .u64 w (A.bin .sub .i64 56 (A.bin .mul .i64 8 l)))))] = e2:=by
       rw [hv,lsetE hA,heb2,bl_set,hg2,hb_step u h8 hu,he2]
      (repeat' (first|(refine X.g ?_; cbv)|refine X.splitT ?_|refine X.splitF ?_|refine X.sp (fun hc=>?_) (fun hc=>?_)|refine X.needT ?_|refine X.need _ _ _ n56 ?_|refine X.need _ _ _ hat ?_|refine X.idxA g hat zg ?_))
      all_goals (refine hC ⟨(b + 1,l', e2),h8,hl', he2⟩ _ (by show 8 - (b + 1) < 8 - b; omega) ?_; clear hC; cbv <;> (and_intros <;> first|exact g1|exact g2|rfl|trivial))
     ·clear hC
      have c6:A.cmp .lss l 8 = false:=ltF hA hl (b:=8) rfl h8
      have hbe:b = 8:=by omega
      have hee:eb2 = e' := by rw [heb2,he', hbe,hb_end h]
      (repeat' (first|(refine X.g ?_; cbv)|refine X.splitT ?_|refine X.splitF ?_|refine X.sp (fun hc=>?_) (fun hc=>?_)|refine X.needT ?_))
      all_goals (refine hB ⟨(i + 1,j', e'),h,hj', he'⟩ _ (by show m - (i + 1) < m - i; omega) ?_; clear hB; cbv <;> (and_intros <;> first|exact f1|exact hee|rfl|trivial))
    ·clear hB
     have c5:A.cmp .lss j (Int.ofNat m) = false:=ltF hA hj rfl h
     have him:i = m:=by omega
     have hee:ei = AE.sbytes sT:=by rw [hei,him,Nat.sub_self]; exact bl_sbytes (by rw [hsT]; simp)
     (repeat' (first|(refine X.g ?_; cbv)|refine X.splitT ?_|refine X.splitF ?_|refine X.sp (fun hc=>?_) (fun hc=>?_)|refine X.needT ?_|refine X.need _ _ _ hmk2 ?_|refine X.need _ _ _ hk8n ?_|refine X.idxA 0 hat0 rfl ?_|refine X.need _ _ _ hat0 ?_|refine X.str _ _ _ _ sT hee ?_|refine X.str _ _ _ _ sP hsP2 ?_|refine X.callsA [] kmul ?_))
     all_goals (refine X.ret _ (X.done rfl ?_); cbv <;> (and_intros <;> first|rfl|trivial))
   ·as_aux_lemma =>
    (repeat' (first|(refine X.g ?_; cbv)|refine X.splitT ?_|refine X.splitF ?_|refine X.sp (fun hc=>?_) (fun hc=>?_)|refine X.needT ?_|refine X.drawX _ _ _ (by kernel_rfl) ?_|refine X.idxw _ _ _ _ _ _ _ _ 0 lo rfl (show 0 < n by omega) rfl ?_|refine X.idxw _ _ _ _ _ _ _ _ 0 lo' rfl (show 0 < m by omega) rfl ?_|refine X.ldq _ _ _ _ _ _ _ _ _ hcx ?_|refine X.ldq _ _ _ _ _ _ _ _ _ hcy ?_|refine X.need _ _ _ hatb ?_|refine X.callsA [] kcom ?_|refine X.need _ _ _ hmk ?_))
    refine X.carries (ι:={ p:Nat × Int × List (List AE.AV) // p.1 ≤ m ∧ p.2.1 = p.1 ∧ p.2.2 = bl (List.replicate (8 * (m - p.1)) 0 ++ be (8 * p.1) G) }) (fun p=>[(74,.v (.int .i64 p.1.2.1))]) (fun p=>rws true ea ef ++ [.row 5 1 p.1.2.2]) (fun p=>m - p.1.1) ⟨(0,0,eT),Nat.zero_le _,rfl,heT⟩ ?_ fun i B hB=>?_
    ·(cbv <;> (and_intros <;> first|exact hrep|exact hef2|rfl|trivial))
    obtain ⟨⟨i,j,ei⟩,hi,hj,hei⟩:=i
    simp only at hi hj hei
    by_cases h:i < m
    ·have c5:A.cmp .lss j (Int.ofNat m) = true:=ltT hA hj rfl h
     obtain ⟨d,hd⟩:∃ d,d = G / W8 ^ i % W8:=⟨_,rfl⟩
     have hdW:d < W8:=by rw [hd]; exact Nat.mod_lt _ W8pos
     obtain ⟨w,hw⟩:∃ w:Int,w = (d:Int):=⟨_,rfl⟩
     obtain ⟨q,hq⟩:∃ q,q = lo' + i:=⟨_,rfl⟩
     have hcell:ef[q]? = some [.v (.int .u64 w)]:=by rw [hef,hw,hq,hd]; exact ql_get (wf.get h)
     obtain ⟨j', hj'⟩:∃ j' : Int,j' = ((i + 1:Nat):Int):=⟨_,rfl⟩
     have f1:A.bin .add .i64 j 1 = j' := by rw [hj,hj']; exact AE.addN hA (by omega)
     obtain ⟨e', he'⟩:∃ e', e' = bl (List.replicate (8 * (m - (i + 1))) 0 ++ be (8 * (i + 1)) G):=⟨_,rfl⟩
     (repeat' (first|(refine X.g ?_; cbv)|refine X.splitT ?_|refine X.splitF ?_|refine X.sp (fun hc=>?_) (fun hc=>?_)|refine X.needT ?_|refine X.idxw _ _ _ _ _ _ _ _ i q hj h hq ?_|refine X.ldq _ _ _ _ _ _ _ _ _ hcell ?_))
     refine X.carries (ι:={ p:Nat × Int × List (List AE.AV) // p.1 ≤ 8 ∧ p.2.1 = p.1 ∧ p.2.2 = bl (hb m i p.1 G) }) (fun p=>[(79,.v (.int .i64 p.1.2.1))]) (fun p=>rws true ea ef ++ [.row 5 1 p.1.2.2]) (fun p=>8 - p.1.1) ⟨(0,0,ei),Nat.zero_le _,rfl,by rw [hei,← hb_start h]⟩ ?_ fun b C hC=>?_
     ·clear hB
      (cbv <;> (and_intros <;> first|rfl|trivial))
     obtain ⟨⟨b,l,eb2⟩,hb8,hl,heb2⟩:=b
     simp only at hb8 hl heb2
     by_cases h8:b < 8
     ·clear hB
      have c6:A.cmp .lss l 8 = true:=ltT hA hl (b:=8) rfl h8
      obtain ⟨g,hg2⟩:∃ g,g = 8 * (m - 1 - i) + b:=⟨_,rfl⟩
      have zg:A.bin .add .i64 (A.bin .mul .i64 8 (A.bin .sub .i64 (A.bin .sub .i64 (Int.ofNat m) 1) j)) l = (g:Int):=by
       rw [hg2]; exact addI hA (mulI hA (x:=8) (a:=8) rfl (subI hA (subI hA (x:=Int.ofNat m) (a:=m) rfl (y:=1) (b:=1) rfl (by omega) (by omega)) hj (by omega) (by omega)) (by omega)) hl (by omega)
      have z56:A.bin .sub .i64 56 (A.bin .mul .i64 8 l) = ((56 - 8 * b:Nat):Int):=subI hA (x:=56) (a:=56) rfl (mulI hA (x:=8) (a:=8) rfl hl (by omega)) (by omega) (by decide)
      have n56:0 ≤ A.bin .sub .i64 56 (A.bin .mul .i64 8 l):=by rw [z56]; exact Int.natCast_nonneg _
      have hat:AE.AtR g eb2:=⟨by rw [heb2,bl_len,hb_len h hb8]; omega⟩
      obtain ⟨l', hl'⟩:∃ j' : Int,j' = ((b + 1:Nat):Int):=⟨_,rfl⟩
      have g1:A.bin .add .i64 l 1 = l' := by rw [hl,hl']; exact AE.addN hA (by omega)
      obtain ⟨e2,he2⟩:∃ e', e' = bl (hb m i (b + 1) G):=⟨_,rfl⟩
      obtain ⟨u,hu⟩:∃ u:UInt8,u = UInt8.ofNat (G / 256 ^ (8 * i) / 2 ^ (56 - 8 * b) % 256):=⟨_,rfl⟩
      have hv:A.conv .u8 (A.bin .shr .u64 w (A.bin .sub .i64 56 (A.bin .mul .i64 8 l))) = (u.toNat:Int):=by
       rw [cv8 hA (shrU hA hw z56 (by omega)),hu]
       have e3:d / 2 ^ (56 - 8 * b) % 2 ^ 8 = G / 256 ^ (8 * i) / 2 ^ (56 - 8 * b) % 256:=by
        have e4:W8 ^ i = 256 ^ (8 * i):=by rw [W8,← Nat.pow_mul]
        rw [hd,e4]
        generalize G / 256 ^ (8 * i) = v
        have e5:W8 = 2 ^ (56 - 8 * b) * 2 ^ (8 + 8 * b):=by rw [← Nat.pow_add,show 56 - 8 * b + (8 + 8 * b) = 64 by omega]; rfl
        rw [e5,Nat.mod_mul_right_div_self]
        exact Nat.mod_mod_of_dvd _ ⟨2 ^ (8 * b),by rw [Nat.pow_add]⟩
       rw [e3]
       simp
      have g2:A.lset eb2 g [.v (.int .u8 (A.conv .u8 (A.bin .shr .u64 w (A.bin .sub .i64 56 (A.bin .mul .i64 8 l)))))] = e2:=by
       rw [hv,lsetE hA,heb2,bl_set,hg2,hb_step u h8 hu,he2]
      (repeat' (first|(refine X.g ?_; cbv)|refine X.splitT ?_|refine X.splitF ?_|refine X.sp (fun hc=>?_) (fun hc=>?_)|refine X.needT ?_|refine X.need _ _ _ n56 ?_|refine X.need _ _ _ hat ?_|refine X.idxA g hat zg ?_))
      all_goals (refine hC ⟨(b + 1,l', e2),h8,hl', he2⟩ _ (by show 8 - (b + 1) < 8 - b; omega) ?_; clear hC; cbv <;> (and_intros <;> first|exact g1|exact g2|rfl|trivial))
     ·clear hC
      have c6:A.cmp .lss l 8 = false:=ltF hA hl (b:=8) rfl h8
      have hbe:b = 8:=by omega
      have hee:eb2 = e' := by rw [heb2,he', hbe,hb_end h]
      (repeat' (first|(refine X.g ?_; cbv)|refine X.splitT ?_|refine X.splitF ?_|refine X.sp (fun hc=>?_) (fun hc=>?_)|refine X.needT ?_))
      all_goals (refine hB ⟨(i + 1,j', e'),h,hj', he'⟩ _ (by show m - (i + 1) < m - i; omega) ?_; clear hB; cbv <;> (and_intros <;> first|exact f1|exact hee|rfl|trivial))
    ·clear hB
     have c5:A.cmp .lss j (Int.ofNat m) = false:=ltF hA hj rfl h
     have him:i = m:=by omega
     have hee:ei = AE.sbytes sT:=by rw [hei,him,Nat.sub_self]; exact bl_sbytes (by rw [hsT]; simp)
     (repeat' (first|(refine X.g ?_; cbv)|refine X.splitT ?_|refine X.splitF ?_|refine X.sp (fun hc=>?_) (fun hc=>?_)|refine X.needT ?_|refine X.need _ _ _ hmk2 ?_|refine X.need _ _ _ hk8n ?_|refine X.idxA 0 hat0 rfl ?_|refine X.need _ _ _ hat0 ?_|refine X.str _ _ _ _ sT hee ?_|refine X.str _ _ _ _ sP hsP2 ?_|refine X.callsA [] kmul ?_))
     all_goals (refine X.ret _ (X.done rfl ?_); cbv <;> (and_intros <;> first|rfl|trivial))
 ·as_aux_lemma =>
  refine X.carries (ι:={ h:HS // HInv G h ∧ h.X % 2 = 1 }) (fun p=>[(5,wnd p.1.sw p.1.lo p.1.n),(6,wnd (!p.1.sw) p.1.lo' p.1.m)]) (fun p=>rws p.1.sw p.1.ea p.1.eb) (fun p=>p.1.X + p.1.Y) ⟨⟨false,ea,eb,l1,n1,l2,m1,o1,o2⟩,hstart,ho1⟩ ?_ fun i B hB=>?_
  ·clear hC
   (cbv <;> (and_intros <;> first|rfl|trivial))
  clear hstart ka kb kc kd ke kf
  obtain ⟨⟨sw,ea,eb,lo,n,lo', m,X', Y⟩,hI,oddX⟩:=i
  obtain ⟨⟨La,wa,hea⟩,⟨Lb,wb,heb⟩,hn,hm,nb,mb,oddY,hg⟩:=hI
  simp only at wa hea wb heb hn hm nb mb oddX oddY hg
  by_cases hc:1 < n ∨ 1 < m
  ·have hcond:(A.cmp .gtr (Int.ofNat n) 1 = true ∨ (A.cmp .gtr (Int.ofNat n) 1 = false ∧ A.cmp .gtr (Int.ofNat m) 1 = true)):=by
    by_cases h9:1 < n
    ·exact .inl (gtT hA (x:=Int.ofNat n) (a:=n) rfl (b:=1) rfl h9)
    ·exact .inr ⟨gtF hA (x:=Int.ofNat n) (a:=n) rfl (b:=1) rfl h9,gtT hA (x:=Int.ofNat m) (a:=m) rfl (b:=1) rfl (by omega)⟩
   by_cases hlt:X' < Y
   ·have kb:=below_ok La Lb lo n X' lo' m Y wa wb hn hm (by omega) (by omega) true (by rw [decide_eq_true hlt]) ea eb hea heb
    obtain ⟨D,hD⟩:∃ D,D = Y - X' := ⟨_,rfl⟩
    obtain ⟨kk,hkk⟩:∃ k,k = ln D:=⟨_,rfl⟩
    obtain ⟨LD,hLD⟩:∃ L,L = put Lb lo' (dg W8 m D):=⟨_,rfl⟩
    obtain ⟨eD,heD⟩:∃ e,e = ql LD:=⟨_,rfl⟩
    have km:=minus_ok Lb La lo' m Y lo n X' D kk wb wa (by omega) (by omega) (by omega) hD hkk eb ea eD heb hea (by rw [heD,hLD])
    have hDw:D < W8 ^ m:=by have:=wb.lt; omega
    have hkkn:kk ≤ m:=by rw [hkk]; exact ln_le.2 hDw
    have wk:Win LD lo' kk D:=by rw [hLD]; exact (put_win wb.len hDw).less hkkn (ln_le.1 (by omega))
    have hDp:0 < D:=by omega
    have hkp:0 < kk:=by rw [hkk]; exact ln_pos hDp
    have c4:A.cmp .eql (Int.ofNat kk) 0 = false:=eqF hA (x:=Int.ofNat kk) (a:=kk) rfl (b:=0) rfl (by omega)
    clear hC
    obtain ⟨q,hq⟩:∃ q,q = tz D:=⟨_,rfl⟩
    obtain ⟨zq,hzq⟩:∃ z:Int,z = (q:Int):=⟨_,rfl⟩
    have ke:=evens_ok LD lo' kk D wk (by omega) hDp zq (by rw [hzq,hq]) eD heD
    obtain ⟨o,ho,hDo⟩:=tz_spec D hDp
    rw [← hq] at hDo
    have hoD:o = D / 2 ^ q:=by rw [hDo,Nat.mul_div_cancel _ (Nat.two_pow_pos _)]
    have hoD2:o ≤ D:=by rw [hoD]; exact Nat.div_le_self _ _
    obtain ⟨u1,u2⟩:=tz_le wk.lt
    rw [← hq] at u1 u2
    obtain ⟨kn,hkn⟩:∃ k,k = ln o:=⟨_,rfl⟩
    have hknk:kn ≤ kk:=by rw [hkn,hkk]; exact ln_mono hoD2
    obtain ⟨l3,hl3⟩:∃ l,l = lo' + q / 64:=⟨_,rfl⟩
    obtain ⟨LR,hLR⟩:∃ L,L = put LD l3 (dg W8 (kk - q / 64) o):=⟨_,rfl⟩
    obtain ⟨eR,heR⟩:∃ e,e = ql LR:=⟨_,rfl⟩
    have kr:=right_ok LD lo' kk D q kn o l3 wk (by omega) u1 (by omega) zq hzq hoD hkn hl3 eD eR heD (by rw [heR,hLR])
    have how:o < W8 ^ (kk - q / 64):=by
     have h9:=(wk.drop u1).lt
     refine Nat.lt_of_le_of_lt ?_ h9
     rw [hoD,W8e,← Nat.pow_mul]
     exact Nat.div_le_div_left (Nat.pow_le_pow_right (by decide) (by omega)) (Nat.two_pow_pos _)
    have wl3:lo' + q / 64 + (kk - q / 64) ≤ LD.length:=(wk.drop u1).len
    have wr:Win LR l3 kn o:=by rw [hLR,hl3]; exact (put_win wl3 how).less (by rw [hkn]; exact ln_le.2 how) (ln_le.1 (by omega))
    have hnew:∀ b:Bool,HInv G ⟨b,eR,ea,l3,kn,lo,n,o,X'⟩:=fun b=>⟨⟨LR,wr,heR⟩,⟨La,wa,hea⟩,hkn,hn,by show kn ≤ 2 ^ 34; omega,by show n ≤ 2 ^ 34; omega,oddX,by show Nat.gcd o X' = G; rw [gcd_step oddX (by omega) hD hDo]; rw [Nat.gcd_comm]; exact hg⟩
    cases sw
    ·rcases hcond with ⟨c1⟩|⟨c1,c2⟩
     all_goals (repeat' (first|(refine X.g ?_; cbv)|refine X.splitT ?_|refine X.splitF ?_|refine X.sp (fun hc=>?_) (fun hc=>?_)|refine X.needT ?_|refine X.callsA [0,1] kb ?_|refine X.callsA [1,0] kb ?_|refine X.callsA [0,1] km ?_|refine X.callsA [1,0] km ?_|refine X.callsGA [0] ke ?_|refine X.callsGA [1] ke ?_|refine X.callsA [0] kr ?_|refine X.callsA [1] kr ?_))
     all_goals (refine hB ⟨⟨true,eR,ea,l3,kn,lo,n,o,X'⟩,hnew true,ho⟩ _ (by show o + X' < X' + Y; omega) ?_; clear hB; cbv <;> (and_intros <;> first|rfl|trivial))
    ·rcases hcond with ⟨c1⟩|⟨c1,c2⟩
     all_goals (repeat' (first|(refine X.g ?_; cbv)|refine X.splitT ?_|refine X.splitF ?_|refine X.sp (fun hc=>?_) (fun hc=>?_)|refine X.needT ?_|refine X.callsA [0,1] kb ?_|refine X.callsA [1,0] kb ?_|refine X.callsA [0,1] km ?_|refine X.callsA [1,0] km ?_|refine X.callsGA [0] ke ?_|refine X.callsGA [1] ke ?_|refine X.callsA [0] kr ?_|refine X.callsA [1] kr ?_))
     all_goals (refine hB ⟨⟨false,eR,ea,l3,kn,lo,n,o,X'⟩,hnew false,ho⟩ _ (by show o + X' < X' + Y; omega) ?_; clear hB; cbv <;> (and_intros <;> first|rfl|trivial))
   ·have kb:=below_ok La Lb lo n X' lo' m Y wa wb hn hm (by omega) (by omega) false (by rw [decide_eq_false hlt]) ea eb hea heb
    by_cases hz:X' = Y
    ·as_aux_lemma =>
     obtain ⟨D,hD⟩:∃ D,D = X' - Y:=⟨_,rfl⟩
     obtain ⟨kk,hkk⟩:∃ k,k = ln D:=⟨_,rfl⟩
     obtain ⟨LD,hLD⟩:∃ L,L = put La lo (dg W8 n D):=⟨_,rfl⟩
     obtain ⟨eD,heD⟩:∃ e,e = ql LD:=⟨_,rfl⟩
     have km:=minus_ok La Lb lo n X' lo' m Y D kk wa wb (by omega) (by omega) (by omega) hD hkk ea eb eD hea heb (by rw [heD,hLD])
     have hDw:D < W8 ^ n:=by have:=wa.lt; omega
     have hkkn:kk ≤ n:=by rw [hkk]; exact ln_le.2 hDw
     have wk:Win LD lo kk D:=by rw [hLD]; exact (put_win wa.len hDw).less hkkn (ln_le.1 (by omega))
     have hD0:D = 0:=by omega
     have c4:A.cmp .eql (Int.ofNat kk) 0 = true:=eqT hA (x:=Int.ofNat kk) (a:=kk) rfl (b:=0) rfl (by rw [hkk,hD0,ln,enc_zero]; rfl)
     clear hB
     have hnew:∀ b:Bool,HInv G ⟨b,eD,eb,lo,kk,lo', m,D,Y⟩:=fun b=>⟨⟨LD,wk,heD⟩,⟨Lb,wb,heb⟩,hkk,hm,by show kk ≤ 2 ^ 34; omega,by show m ≤ 2 ^ 34; omega,oddY,by show Nat.gcd D Y = G; rw [hD,Nat.gcd_sub_self_left (by omega)]; exact hg⟩
     cases sw
     ·rcases hcond with ⟨c1⟩|⟨c1,c2⟩
      all_goals (repeat' (first|(refine X.g ?_; cbv)|refine X.splitT ?_|refine X.splitF ?_|refine X.sp (fun hc=>?_) (fun hc=>?_)|refine X.needT ?_|refine X.callsA [0,1] kb ?_|refine X.callsA [1,0] kb ?_|refine X.callsA [0,1] km ?_|refine X.callsA [1,0] km ?_))
      all_goals (refine hC ⟨⟨false,eD,eb,lo,kk,lo', m,D,Y⟩,hnew false,.inl hD0⟩ _ ?_; clear hC; cbv <;> (and_intros <;> first|rfl|trivial))
     ·rcases hcond with ⟨c1⟩|⟨c1,c2⟩
      all_goals (repeat' (first|(refine X.g ?_; cbv)|refine X.splitT ?_|refine X.splitF ?_|refine X.sp (fun hc=>?_) (fun hc=>?_)|refine X.needT ?_|refine X.callsA [0,1] kb ?_|refine X.callsA [1,0] kb ?_|refine X.callsA [0,1] km ?_|refine X.callsA [1,0] km ?_))
      all_goals (refine hC ⟨⟨true,eD,eb,lo,kk,lo', m,D,Y⟩,hnew true,.inl hD0⟩ _ ?_; clear hC; cbv <;> (and_intros <;> first|rfl|trivial))
    ·as_aux_lemma =>
     obtain ⟨D,hD⟩:∃ D,D = X' - Y:=⟨_,rfl⟩
     obtain ⟨kk,hkk⟩:∃ k,k = ln D:=⟨_,rfl⟩
     obtain ⟨LD,hLD⟩:∃ L,L = put La lo (dg W8 n D):=⟨_,rfl⟩
     obtain ⟨eD,heD⟩:∃ e,e = ql LD:=⟨_,rfl⟩
     have km:=minus_ok La Lb lo n X' lo' m Y D kk wa wb (by omega) (by omega) (by omega) hD hkk ea eb eD hea heb (by rw [heD,hLD])
     have hDw:D < W8 ^ n:=by have:=wa.lt; omega
     have hkkn:kk ≤ n:=by rw [hkk]; exact ln_le.2 hDw
     have wk:Win LD lo kk D:=by rw [hLD]; exact (put_win wa.len hDw).less hkkn (ln_le.1 (by omega))
     have hDp:0 < D:=by omega
     have hkp:0 < kk:=by rw [hkk]; exact ln_pos hDp
     have c4:A.cmp .eql (Int.ofNat kk) 0 = false:=eqF hA (x:=Int.ofNat kk) (a:=kk) rfl (b:=0) rfl (by omega)
     clear hC
     obtain ⟨q,hq⟩:∃ q,q = tz D:=⟨_,rfl⟩
     obtain ⟨zq,hzq⟩:∃ z:Int,z = (q:Int):=⟨_,rfl⟩
     have ke:=evens_ok LD lo kk D wk (by omega) hDp zq (by rw [hzq,hq]) eD heD
     obtain ⟨o,ho,hDo⟩:=tz_spec D hDp
     rw [← hq] at hDo
     have hoD:o = D / 2 ^ q:=by rw [hDo,Nat.mul_div_cancel _ (Nat.two_pow_pos _)]
     have hoD2:o ≤ D:=by rw [hoD]; exact Nat.div_le_self _ _
     obtain ⟨u1,u2⟩:=tz_le wk.lt
     rw [← hq] at u1 u2
     obtain ⟨kn,hkn⟩:∃ k,k = ln o:=⟨_,rfl⟩
     have hknk:kn ≤ kk:=by rw [hkn,hkk]; exact ln_mono hoD2
     obtain ⟨l3,hl3⟩:∃ l,l = lo + q / 64:=⟨_,rfl⟩
     obtain ⟨LR,hLR⟩:∃ L,L = put LD l3 (dg W8 (kk - q / 64) o):=⟨_,rfl⟩
     obtain ⟨eR,heR⟩:∃ e,e = ql LR:=⟨_,rfl⟩
     have kr:=right_ok LD lo kk D q kn o l3 wk (by omega) u1 (by omega) zq hzq hoD hkn hl3 eD eR heD (by rw [heR,hLR])
     have how:o < W8 ^ (kk - q / 64):=by
      have h9:=(wk.drop u1).lt
      refine Nat.lt_of_le_of_lt ?_ h9
      rw [hoD,W8e,← Nat.pow_mul]
      exact Nat.div_le_div_left (Nat.pow_le_pow_right (by decide) (by omega)) (Nat.two_pow_pos _)
     have wl3:lo + q / 64 + (kk - q / 64) ≤ LD.length:=(wk.drop u1).len
     have wr:Win LR l3 kn o:=by rw [hLR,hl3]; exact (put_win wl3 how).less (by rw [hkn]; exact ln_le.2 how) (ln_le.1 (by omega))
     have hnew:∀ b:Bool,HInv G ⟨b,eR,eb,l3,kn,lo', m,o,Y⟩:=fun b=>⟨⟨LR,wr,heR⟩,⟨Lb,wb,heb⟩,hkn,hm,by show kn ≤ 2 ^ 34; omega,by show m ≤ 2 ^ 34; omega,oddY,by show Nat.gcd o Y = G; rw [gcd_step oddY (by omega) hD hDo]; exact hg⟩
     cases sw
     ·rcases hcond with ⟨c1⟩|⟨c1,c2⟩
      all_goals (repeat' (first|(refine X.g ?_; cbv)|refine X.splitT ?_|refine X.splitF ?_|refine X.sp (fun hc=>?_) (fun hc=>?_)|refine X.needT ?_|refine X.callsA [0,1] kb ?_|refine X.callsA [1,0] kb ?_|refine X.callsA [0,1] km ?_|refine X.callsA [1,0] km ?_|refine X.callsGA [0] ke ?_|refine X.callsGA [1] ke ?_|refine X.callsA [0] kr ?_|refine X.callsA [1] kr ?_))
      all_goals (refine hB ⟨⟨false,eR,eb,l3,kn,lo', m,o,Y⟩,hnew false,ho⟩ _ (by show o + Y < X' + Y; omega) ?_; clear hB; cbv <;> (and_intros <;> first|rfl|trivial))
     ·rcases hcond with ⟨c1⟩|⟨c1,c2⟩
      all_goals (repeat' (first|(refine X.g ?_; cbv)|refine X.splitT ?_|refine X.splitF ?_|refine X.sp (fun hc=>?_) (fun hc=>?_)|refine X.needT ?_|refine X.callsA [0,1] kb ?_|refine X.callsA [1,0] kb ?_|refine X.callsA [0,1] km ?_|refine X.callsA [1,0] km ?_|refine X.callsGA [0] ke ?_|refine X.callsGA [1] ke ?_|refine X.callsA [0] kr ?_|refine X.callsA [1] kr ?_))
      all_goals (refine hB ⟨⟨true,eR,eb,l3,kn,lo', m,o,Y⟩,hnew true,ho⟩ _ (by show o + Y < X' + Y; omega) ?_; clear hB; cbv <;> (and_intros <;> first|rfl|trivial))
  ·clear hB
   have c1:A.cmp .gtr (Int.ofNat n) 1 = false:=gtF hA (x:=Int.ofNat n) (a:=n) rfl (b:=1) rfl (by omega)
   have c2:A.cmp .gtr (Int.ofNat m) 1 = false:=gtF hA (x:=Int.ofNat m) (a:=m) rfl (b:=1) rfl (by omega)
   have hnew:∀ b:Bool,HInv G ⟨b,ea,eb,lo,n,lo', m,X', Y⟩:=fun b=>⟨⟨La,wa,hea⟩,⟨Lb,wb,heb⟩,hn,hm,nb,mb,oddY,hg⟩
   cases sw
   ·(repeat' (first|(refine X.g ?_; cbv)|refine X.splitT ?_|refine X.splitF ?_|refine X.sp (fun hc=>?_) (fun hc=>?_)|refine X.needT ?_))
    all_goals (refine hC ⟨⟨false,ea,eb,lo,n,lo', m,X', Y⟩,hnew false,.inr ⟨oddX,by show n ≤ 1; omega,by show m ≤ 1; omega⟩⟩ _ ?_; clear hC; cbv <;> (and_intros <;> first|rfl|trivial))
   ·(repeat' (first|(refine X.g ?_; cbv)|refine X.splitT ?_|refine X.splitF ?_|refine X.sp (fun hc=>?_) (fun hc=>?_)|refine X.needT ?_))
    all_goals (refine hC ⟨⟨true,ea,eb,lo,n,lo', m,X', Y⟩,hnew true,.inr ⟨oddX,by show n ≤ 1; omega,by show m ≤ 1; omega⟩⟩ _ ?_; clear hC; cbv <;> (and_intros <;> first|rfl|trivial))
end Go.Proofs.YthadehkggddgoaaGreatDoor
end
