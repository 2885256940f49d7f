/- Contracts: rat.Add, Sub, Div, Cmp, Min, Max, Small. Contract: rat.Small. -/
import Derived.Test.YthadehkggddgoaaGreatDoorZRatB
set_option maxRecDepth 100000
set_option maxHeartbeats 0
section
set_option linter.unusedVariables false
set_option linter.unusedSimpArgs false
namespace Go.Proofs.YthadehkggddgoaaGreatDoor
open Go Go.Num
theorem v_size {q:Q} {x:Rat} {k:Nat} (h1:q.sz ≤ k) (hx:x = q.v):(enc x.num.natAbs).size ≤ k + 1 ∧ (enc x.den).size ≤ k + 1:=by
 subst hx
 have:=q.rs
 exact ⟨Nat.le_trans (rs_num _) (by omega),Nat.le_trans (rs_den _) (by omega)⟩
theorem signed_val (neg minus:Bool) (a b:Nat):sg (if neg = minus ∨ b ≤ a then neg else minus) (if neg = minus then a + b else if b ≤ a then a - b else b - a) = sg neg a + sg minus b:=by
 by_cases h:neg = minus
 ·rw [if_pos (.inl h),if_pos h,← h,sg_add_same]
 ·rw [if_neg h]
  have hm:minus = !neg:=by cases neg <;> cases minus <;> simp_all
  by_cases hb:b ≤ a
  ·rw [if_pos (.inr hb),if_pos hb,hm,sg_sub_ge neg hb]
  ·rw [if_neg (fun hh=>hh.elim h hb),if_neg hb,hm,sg_sub_le neg (by omega)]
theorem ratAdd_ok (a b:Q) (h1:a.sz ≤ 2 ^ 32) (h2:b.sz ≤ 2 ^ 32) (r:Q) (hr:r = Q.of (a.v + b.v)):AE.ACallG GG Tryz.prog 16 [] [.a a.c,.a b.c] [] (.a r.c):=by
 refine AE.ACallG.of_walk (fn:=Tryz.f16) (c:=bodyOf Tryz.f16) GG_stays tabOK Tryz.func16 rfl rfl mixed fun A hA X=>?_
 obtain ⟨f,hf⟩:∃ f,f = Q.of a.v:=⟨_,rfl⟩
 obtain ⟨g,hg⟩:∃ f,f = Q.of b.v:=⟨_,rfl⟩
 have k1:=fit_ok a (by omega) f hf
 have k2:=fit_ok b (by omega) g hg
 obtain ⟨za1,za2⟩:=v_size h1 (x:=a.v) rfl
 obtain ⟨zb1,zb2⟩:=v_size h2 (x:=b.v) rfl
 have fn:f.num = enc a.v.num.natAbs:=by rw [hf]; rfl
 have fd:f.den = enc a.v.den:=by rw [hf]; rfl
 have gn:g.num = enc b.v.num.natAbs:=by rw [hg]; rfl
 have gd:g.den = enc b.v.den:=by rw [hg]; rfl
 have sf:sg f.neg a.v.num.natAbs = a.v.num:=by rw [hf]; exact sg_num _
 have sG:sg g.neg b.v.num.natAbs = b.v.num:=by rw [hg]; exact sg_num _
 by_cases hd:a.v.den = b.v.den
 ·have c1:A.scmp .eql f.den g.den = true:=by rw [c_seql hA,fd,gd,hd,decide_eq_true rfl]
  obtain ⟨m,hm⟩:∃ m,m = if f.neg = g.neg then a.v.num.natAbs + b.v.num.natAbs else if b.v.num.natAbs ≤ a.v.num.natAbs then a.v.num.natAbs - b.v.num.natAbs else b.v.num.natAbs - a.v.num.natAbs:=⟨_,rfl⟩
  obtain ⟨n,hn⟩:∃ n,n = if f.neg = g.neg ∨ b.v.num.natAbs ≤ a.v.num.natAbs then f.neg else g.neg:=⟨_,rfl⟩
  obtain ⟨sm,hsm⟩:∃ sm,sm = enc m:=⟨_,rfl⟩
  have k3:=signed_ok f.neg g.neg a.v.num.natAbs b.v.num.natAbs f.num g.num fn gn (by rw [fn]; omega) (by rw [gn]; omega) n m sm hsm hn hm
  have hmz:sm.size ≤ 2 ^ 34:=by
   have h3:=enc_add_size a.v.num.natAbs b.v.num.natAbs
   have h4:sm.size ≤ (enc (a.v.num.natAbs + b.v.num.natAbs)).size:=by
    rw [hsm,enc_size]
    refine Nat.lt_of_le_of_lt ?_ (enc_size.1 (Nat.le_refl _))
    rw [hm]; split
    ·exact Nat.le_refl _
    ·split <;> omega
   omega
  have k4:=made_ok n m a.v.den a.v.den_nz sm f.den hsm fd hmz (by rw [fd]; omega) r (by rw [hr,hm,hn,signed_val,sf,sG,add_same hd rfl])
  (refine X.g ?_; cbv)
  refine X.drawX _ _ _ (by kernel_rfl) ?_
  (repeat' (first|(refine X.g ?_; cbv)|refine X.splitT ?_|refine X.splitF ?_|refine X.sp (fun hc=>?_) (fun hc=>?_)|refine X.needT ?_|refine X.fork _ _ ?_ ?_|refine X.callsGA [] k1 ?_|refine X.callsGA [] k2 ?_|refine X.callsA [] k3 ?_|refine X.callsGA [] k4 ?_))
  all_goals (refine X.ret _ (X.done rfl ?_); cbv <;> (and_intros <;> first|rfl|trivial))
 ·have c1:A.scmp .eql f.den g.den = false:=by rw [c_seql hA,fd,gd,decide_eq_false (fun h=>hd (enc_inj h))]
  obtain ⟨u,hu⟩:∃ u,u = a.v.num.natAbs * b.v.den:=⟨_,rfl⟩
  obtain ⟨w,hw⟩:∃ u,u = b.v.num.natAbs * a.v.den:=⟨_,rfl⟩
  obtain ⟨su,hsu⟩:∃ s,s = enc u:=⟨_,rfl⟩
  obtain ⟨sw,hsw⟩:∃ s,s = enc w:=⟨_,rfl⟩
  obtain ⟨sd,hsd⟩:∃ s,s = enc (a.v.den * b.v.den):=⟨_,rfl⟩
  obtain ⟨m,hm⟩:∃ m,m = if f.neg = g.neg then u + w else if w ≤ u then u - w else w - u:=⟨_,rfl⟩
  obtain ⟨n,hn⟩:∃ n,n = if f.neg = g.neg ∨ w ≤ u then f.neg else g.neg:=⟨_,rfl⟩
  obtain ⟨sm,hsm⟩:∃ sm,sm = enc m:=⟨_,rfl⟩
  have zu:su.size ≤ 2 ^ 33 + 2:=by rw [hsu,hu]; exact Nat.le_trans (enc_mul_size _ _) (by omega)
  have zw:sw.size ≤ 2 ^ 33 + 2:=by rw [hsw,hw]; exact Nat.le_trans (enc_mul_size _ _) (by omega)
  have zd:sd.size ≤ 2 ^ 33 + 2:=by rw [hsd]; exact Nat.le_trans (enc_mul_size _ _) (by omega)
  have k3:=natMul_ok f.num g.den (by rw [fn]; omega) (by rw [gd]; omega) su (by rw [hsu,hu,fn,gd,bv_enc,bv_enc])
  have k4:=natMul_ok g.num f.den (by rw [gn]; omega) (by rw [fd]; omega) sw (by rw [hsw,hw,gn,fd,bv_enc,bv_enc])
  have k5:=natMul_ok f.den g.den (by rw [fd]; omega) (by rw [gd]; omega) sd (by rw [hsd,fd,gd,bv_enc,bv_enc])
  have k6:=signed_ok f.neg g.neg u w su sw hsu hsw (by omega) (by omega) n m sm hsm hn hm
  have hmz:sm.size ≤ 2 ^ 34:=by
   have h3:=enc_add_size u w
   have h4:sm.size ≤ (enc (u + w)).size:=by
    rw [hsm,enc_size]
    refine Nat.lt_of_le_of_lt ?_ (enc_size.1 (Nat.le_refl _))
    rw [hm]; split
    ·exact Nat.le_refl _
    ·split <;> omega
   rw [← hsu,← hsw] at h3
   omega
  have k7:=made_ok n m (a.v.den * b.v.den) (Nat.mul_ne_zero a.v.den_nz b.v.den_nz) sm sd hsm hsd hmz (by omega) r (by rw [hr,hm,hn,signed_val,hu,hw,sg_mul,sg_mul,sf,sG,add_diff rfl])
  (refine X.g ?_; cbv)
  refine X.drawX _ _ _ (by kernel_rfl) ?_
  (repeat' (first|(refine X.g ?_; cbv)|refine X.splitT ?_|refine X.splitF ?_|refine X.sp (fun hc=>?_) (fun hc=>?_)|refine X.needT ?_|refine X.fork _ _ ?_ ?_|refine X.callsGA [] k1 ?_|refine X.callsGA [] k2 ?_))
  all_goals refine X.drawX _ _ _ (by kernel_rfl) (X.frzB 0 _ _ (Nat.zero_le _) (X.frzB 1 _ _ (Nat.zero_le _) ?_))
  all_goals (repeat' (first|(refine X.g ?_; cbv)|refine X.splitT ?_|refine X.splitF ?_|refine X.sp (fun hc=>?_) (fun hc=>?_)|refine X.needT ?_|refine X.callsA [] k3 ?_|refine X.callsA [] k4 ?_|refine X.callsA [] k5 ?_|refine X.callsA [] k6 ?_|refine X.callsGA [] k7 ?_))
  all_goals (refine X.ret _ (X.done rfl ?_); cbv <;> (and_intros <;> first|rfl|trivial))
theorem ratSub_ok (a b:Q) (h1:a.sz ≤ 2 ^ 32) (h2:b.sz < 2 ^ 32) (r:Q) (hr:r = Q.of (a.v - b.v)):AE.ACallG GG Tryz.prog 96 [] [.a a.c,.a b.c] [] (.a r.c):=by
 refine AE.ACallG.of_walk (fn:=Tryz.f96) (c:=bodyOf Tryz.f96) GG_stays tabOK Tryz.func96 rfl rfl mixed fun A hA X=>?_
 obtain ⟨g,hg⟩:∃ f,f = Q.of (-b.v):=⟨_,rfl⟩
 have k1:=ratNeg_ok b (by omega) g hg
 have hz:=b.rs
 have k2:=ratAdd_ok a g h1 (by rw [hg,sz_of,rs_neg]; omega) r (by rw [hr,hg,Q.v_of,Rat.sub_eq_add_neg])
 (refine X.g ?_; cbv)
 refine X.drawX _ _ _ (by kernel_rfl) (X.frzB 0 _ _ (Nat.zero_le _) (X.frzB 1 _ _ (Nat.zero_le _) ?_))
 (repeat' (first|(refine X.g ?_; cbv)|refine X.splitT ?_|refine X.splitF ?_|refine X.sp (fun hc=>?_) (fun hc=>?_)|refine X.needT ?_|refine X.callsGA [] k1 ?_|refine X.callsGA [] k2 ?_))
 all_goals (refine X.ret _ (X.done rfl ?_); cbv <;> (and_intros <;> first|rfl|trivial))
theorem div_mk {a b:Rat} (hb:b ≠ 0):mkRat (sg ((Q.of a).neg != (Q.of b).neg) (a.num.natAbs * b.den)) (a.den * b.num.natAbs) = a / b:=by
 have hbn:b.num ≠ 0:=fun h=>hb (Rat.num_eq_zero.1 h)
 have e1:sg ((Q.of a).neg != (Q.of b).neg) (a.num.natAbs * b.den) = sg (Q.of a).neg a.num.natAbs * sg (Q.of b).neg b.den:=sg_mul2 _ _ _ _
 rw [e1,sg_num,Rat.div_def,Rat.inv_def]
 conv=>rhs; rw [← Rat.num_divInt_den a]
 rw [Rat.divInt_mul_divInt]
 have hneg:(Q.of b).neg = decide (b.num < 0):=rfl
 rw [hneg]
 by_cases h:b.num < 0
 ·rw [decide_eq_true h]
  have e2:(a.den:Int) * b.num = -((a.den * b.num.natAbs:Nat):Int):=by
   have:b.num = -((b.num.natAbs:Nat):Int):=by omega
   conv=>lhs; rw [this]
   rw [Int.mul_neg,Int.natCast_mul]
  rw [e2,Rat.divInt_neg', Rat.divInt_ofNat]
  simp [sg,Int.mul_neg]
 ·rw [decide_eq_false h]
  have e2:(a.den:Int) * b.num = ((a.den * b.num.natAbs:Nat):Int):=by
   have:b.num = ((b.num.natAbs:Nat):Int):=by omega
   conv=>lhs; rw [this]
   rw [Int.natCast_mul]
  rw [e2,Rat.divInt_ofNat]
  simp [sg]
def Q.nil:Q:=⟨false,⟨⟨[]⟩⟩,⟨⟨[]⟩⟩⟩
theorem ratDiv_ok (a b:Q) (h1:a.sz ≤ 2 ^ 32) (h2:b.sz ≤ 2 ^ 32) (r:Q) (e:Int) (hr:r = if b.v = 0 then Q.nil else Q.of (a.v / b.v)) (he:e = if b.v = 0 then 12 else 0):AE.ACallG GG Tryz.prog 175 [] [.a a.c,.a b.c] [] (.t [.a r.c,.v (.int .i64 e)]):=by
 refine AE.ACallG.of_walk (fn:=Tryz.f175) (c:=bodyOf Tryz.f175) GG_stays tabOK Tryz.func175 rfl rfl mixed fun A hA X=>?_
 obtain ⟨f,hf⟩:∃ f,f = Q.of a.v:=⟨_,rfl⟩
 obtain ⟨g,hg⟩:∃ f,f = Q.of b.v:=⟨_,rfl⟩
 have k1:=fit_ok a (by omega) f hf
 have k2:=fit_ok b (by omega) g hg
 by_cases hb:b.v = 0
 ·have c1:A.scmp .eql g.num ⟨⟨[]⟩⟩ = true:=by rw [c_seql hA,hg,decide_eq_true (Q.num_nil.2 hb)]
  rw [if_pos hb] at hr he
  subst hr; subst he
  (refine X.g ?_; cbv)
  refine X.drawX _ _ _ (by kernel_rfl) ?_
  (repeat' (first|(refine X.g ?_; cbv)|refine X.splitT ?_|refine X.splitF ?_|refine X.sp (fun hc=>?_) (fun hc=>?_)|refine X.needT ?_|refine X.fork _ _ ?_ ?_|refine X.callsGA [] k1 ?_|refine X.callsGA [] k2 ?_))
  all_goals (refine X.ret _ (X.done rfl ?_); cbv <;> (and_intros <;> first|rfl|trivial))
 ·have c1:A.scmp .eql g.num ⟨⟨[]⟩⟩ = false:=by rw [c_seql hA,hg,decide_eq_false (fun h=>hb (Q.num_nil.1 h))]
  rw [if_neg hb] at hr he
  subst he
  obtain ⟨za1,za2⟩:=v_size h1 (x:=a.v) rfl
  obtain ⟨zb1,zb2⟩:=v_size h2 (x:=b.v) rfl
  have fn:f.num = enc a.v.num.natAbs:=by rw [hf]; rfl
  have fd:f.den = enc a.v.den:=by rw [hf]; rfl
  have gn:g.num = enc b.v.num.natAbs:=by rw [hg]; rfl
  have gd:g.den = enc b.v.den:=by rw [hg]; rfl
  obtain ⟨n,hn⟩:∃ n,n = enc (a.v.num.natAbs * b.v.den):=⟨_,rfl⟩
  obtain ⟨d,hd⟩:∃ n,n = enc (a.v.den * b.v.num.natAbs):=⟨_,rfl⟩
  have k3:=natMul_ok f.num g.den (by rw [fn]; omega) (by rw [gd]; omega) n (by rw [hn,fn,gd,bv_enc,bv_enc])
  have k4:=natMul_ok f.den g.num (by rw [fd]; omega) (by rw [gn]; omega) d (by rw [hd,fd,gn,bv_enc,bv_enc])
  have hneg:A.bcmp .neq f.neg g.neg = (f.neg != g.neg):=AE.c_bne hA _ _
  have hb0:b.v.num.natAbs ≠ 0:=fun h=>hb (Rat.num_eq_zero.1 (by omega))
  have k5:=made_ok (A.bcmp .neq f.neg g.neg) (a.v.num.natAbs * b.v.den) (a.v.den * b.v.num.natAbs) (Nat.mul_ne_zero a.v.den_nz hb0) n d hn hd
   (by rw [hn]; exact Nat.le_trans (enc_mul_size _ _) (by omega)) (by rw [hd]; exact Nat.le_trans (enc_mul_size _ _) (by omega)) r (by rw [hneg,hf,hg,div_mk hb,hr])
  (refine X.g ?_; cbv)
  refine X.drawX _ _ _ (by kernel_rfl) ?_
  (repeat' (first|(refine X.g ?_; cbv)|refine X.splitT ?_|refine X.splitF ?_|refine X.sp (fun hc=>?_) (fun hc=>?_)|refine X.needT ?_|refine X.fork _ _ ?_ ?_|refine X.callsGA [] k1 ?_|refine X.callsGA [] k2 ?_))
  all_goals refine X.drawX _ _ _ (by kernel_rfl) (X.frzB 0 _ _ (Nat.zero_le _) (X.frzB 1 _ _ (Nat.zero_le _) ?_))
  all_goals (repeat' (first|(refine X.g ?_; cbv)|refine X.splitT ?_|refine X.splitF ?_|refine X.sp (fun hc=>?_) (fun hc=>?_)|refine X.needT ?_|refine X.callsA [] k3 ?_|refine X.callsA [] k4 ?_|refine X.callsGA [] k5 ?_))
  all_goals (refine X.ret _ (X.done rfl ?_); cbv <;> (and_intros <;> first|rfl|trivial))
theorem cmpN_eq (x y:Nat):cmpN x y = cmp2 x y:=by
 unfold cmpN cmp2
 by_cases h1:x < y
 ·rw [if_pos h1,if_pos (by omega)]
 ·by_cases h2:y < x
  ·rw [if_neg h1,if_pos h2,if_neg (by omega),if_pos (by omega)]
  ·rw [if_neg h1,if_neg h2,if_neg (by omega),if_neg (by omega)]
theorem cmp2_bd (x y:Int):-1 ≤ cmp2 x y ∧ cmp2 x y ≤ 1:=by unfold cmp2; split <;> (try split) <;> omega
theorem ratCmp_ok (a b:Q) (h1:a.sz ≤ 2 ^ 32) (h2:b.sz ≤ 2 ^ 32) (r:Int) (hr:r = cmpR a.v b.v):AE.ACallG GG Tryz.prog 33 [] [.a a.c,.a b.c] [] (.v (.int .i64 r)):=by
 refine AE.ACallG.of_walk (fn:=Tryz.f33) (c:=bodyOf Tryz.f33) GG_stays tabOK Tryz.func33 rfl rfl mixed fun A hA X=>?_
 obtain ⟨f,hf⟩:∃ f,f = Q.of a.v:=⟨_,rfl⟩
 obtain ⟨g,hg⟩:∃ f,f = Q.of b.v:=⟨_,rfl⟩
 have k1:=fit_ok a (by omega) f hf
 have k2:=fit_ok b (by omega) g hg
 by_cases hn:f.neg = g.neg
 ·have c1:A.bcmp .neq f.neg g.neg = false:=by rw [AE.c_bne hA,hn]; simp
  obtain ⟨za1,za2⟩:=v_size h1 (x:=a.v) rfl
  obtain ⟨zb1,zb2⟩:=v_size h2 (x:=b.v) rfl
  have fn:f.num = enc a.v.num.natAbs:=by rw [hf]; rfl
  have fd:f.den = enc a.v.den:=by rw [hf]; rfl
  have gn:g.num = enc b.v.num.natAbs:=by rw [hg]; rfl
  have gd:g.den = enc b.v.den:=by rw [hg]; rfl
  obtain ⟨u,hu⟩:∃ n,n = enc (a.v.num.natAbs * b.v.den):=⟨_,rfl⟩
  obtain ⟨w,hw⟩:∃ n,n = enc (b.v.num.natAbs * a.v.den):=⟨_,rfl⟩
  obtain ⟨z,hz⟩:∃ z:Int,z = cmpN (a.v.num.natAbs * b.v.den) (b.v.num.natAbs * a.v.den):=⟨_,rfl⟩
  have k3:=natMul_ok f.num g.den (by rw [fn]; omega) (by rw [gd]; omega) u (by rw [hu,fn,gd,bv_enc,bv_enc])
  have k4:=natMul_ok g.num f.den (by rw [gn]; omega) (by rw [fd]; omega) w (by rw [hw,gn,fd,bv_enc,bv_enc])
  have k5:=cmp_ok u w z (by rw [hz,hu,hw,bv_enc,bv_enc])
  have hs:=cmpR_same (a:=a.v) (b:=b.v) (by rw [← hf,← hg]; exact hn)
  rw [← hr,← cmpN_eq,← hz,← hf] at hs
  have hbd:=cmp2_bd ((a.v.num.natAbs * b.v.den:Nat):Int) ((b.v.num.natAbs * a.v.den:Nat):Int)
  rw [← cmpN_eq,← hz] at hbd
  have e1:f.neg = true → A.un .neg .i64 z = r:=fun h=>by
   rw [if_pos h] at hs
   subst hA
   rw [hs]
   exact (AE.wrap_i64 (n:=0 - z) (by omega) (by omega)).trans (by omega)
  have e2:f.neg = false → z = r:=fun h=>by rw [h] at hs; exact hs.symm
  (refine X.g ?_; cbv)
  refine X.drawX _ _ _ (by kernel_rfl) ?_
  (repeat' (first|(refine X.g ?_; cbv)|refine X.splitT ?_|refine X.splitF ?_|refine X.sp (fun hc=>?_) (fun hc=>?_)|refine X.needT ?_|refine X.fork _ _ ?_ ?_|refine X.callsGA [] k1 ?_|refine X.callsGA [] k2 ?_))
  all_goals refine X.drawX _ _ _ (by kernel_rfl) (X.frzB 0 _ _ (Nat.zero_le _) (X.frzB 1 _ _ (Nat.zero_le _) ?_))
  all_goals (repeat' (first|(refine X.g ?_; cbv)|refine X.splitT ?_|refine X.splitF ?_|refine X.sp (fun hc=>?_) (fun hc=>?_)|refine X.needT ?_|refine X.callsA [] k3 ?_|refine X.callsA [] k4 ?_|refine X.callsA [] k5 ?_))
  all_goals (refine X.ret _ (X.done rfl ?_); cbv <;> (and_intros <;> first|exact e1 (by assumption)|exact e2 (by assumption)|rfl|trivial))
 ·have c1:A.bcmp .neq f.neg g.neg = true:=by rw [AE.c_bne hA]; simpa using hn
  have hs:=cmpR_diff (a:=a.v) (b:=b.v) (by rw [← hf,← hg]; exact hn)
  rw [← hr,← hf] at hs
  have e1:f.neg = true → -1 = r:=fun h=>by rw [if_pos h] at hs; exact hs.symm
  have e2:f.neg = false → 1 = r:=fun h=>by rw [h] at hs; exact hs.symm
  (refine X.g ?_; cbv)
  refine X.drawX _ _ _ (by kernel_rfl) ?_
  (repeat' (first|(refine X.g ?_; cbv)|refine X.splitT ?_|refine X.splitF ?_|refine X.sp (fun hc=>?_) (fun hc=>?_)|refine X.needT ?_|refine X.fork _ _ ?_ ?_|refine X.callsGA [] k1 ?_|refine X.callsGA [] k2 ?_))
  all_goals (refine X.ret _ (X.done rfl ?_); cbv <;> (and_intros <;> first|exact e1 (by assumption)|exact e2 (by assumption)|rfl|trivial))
def minR (a b:Rat):Rat:=if a ≤ b then a else b
def maxR (a b:Rat):Rat:=if b ≤ a then a else b
theorem ratMin_ok (a b:Q) (h1:a.sz ≤ 2 ^ 32) (h2:b.sz ≤ 2 ^ 32) (r:Q) (hr:r = Q.of (minR a.v b.v)):AE.ACallG GG Tryz.prog 98 [] [.a a.c,.a b.c] [] (.a r.c):=by
 refine AE.ACallG.of_walk (fn:=Tryz.f98) (c:=bodyOf Tryz.f98) GG_stays tabOK Tryz.func98 rfl rfl mixed fun A hA X=>?_
 obtain ⟨z,hz⟩:∃ z,z = cmpR a.v b.v:=⟨_,rfl⟩
 have k1:=ratCmp_ok a b h1 h2 z hz
 by_cases h:a.v ≤ b.v
 ·have c1:A.cmp .leq z 0 = true:=by rw [AE.c_leq hA]; exact decide_eq_true (by rw [hz]; exact cmpR_le.2 h)
  have k2:=fit_ok a (by omega) r (by rw [hr,minR,if_pos h])
  (repeat' (first|(refine X.g ?_; cbv)|refine X.splitT ?_|refine X.splitF ?_|refine X.sp (fun hc=>?_) (fun hc=>?_)|refine X.callsGA [] k1 ?_|refine X.callsGA [] k2 ?_|refine X.needT ?_))
  all_goals (refine X.ret _ (X.done rfl ?_); cbv <;> (and_intros <;> first|rfl|trivial))
 ·have c1:A.cmp .leq z 0 = false:=by rw [AE.c_leq hA]; exact decide_eq_false (by rw [hz]; exact fun hh=>h (cmpR_le.1 hh))
  have k2:=fit_ok b (by omega) r (by rw [hr,minR,if_neg h])
  (repeat' (first|(refine X.g ?_; cbv)|refine X.splitT ?_|refine X.splitF ?_|refine X.sp (fun hc=>?_) (fun hc=>?_)|refine X.callsGA [] k1 ?_|refine X.callsGA [] k2 ?_|refine X.needT ?_))
  all_goals (refine X.ret _ (X.done rfl ?_); cbv <;> (and_intros <;> first|rfl|trivial))
theorem ratMax_ok (a b:Q) (h1:a.sz ≤ 2 ^ 32) (h2:b.sz ≤ 2 ^ 32) (r:Q) (hr:r = Q.of (maxR a.v b.v)):AE.ACallG GG Tryz.prog 78 [] [.a a.c,.a b.c] [] (.a r.c):=by
 refine AE.ACallG.of_walk (fn:=Tryz.f78) (c:=bodyOf Tryz.f78) GG_stays tabOK Tryz.func78 rfl rfl mixed fun A hA X=>?_
 obtain ⟨z,hz⟩:∃ z,z = cmpR a.v b.v:=⟨_,rfl⟩
 have k1:=ratCmp_ok a b h1 h2 z hz
 by_cases h:b.v ≤ a.v
 ·have c1:A.cmp .geq z 0 = true:=by rw [AE.c_geq hA]; exact decide_eq_true (by rw [hz]; exact cmpR_ge.2 h)
  have k2:=fit_ok a (by omega) r (by rw [hr,maxR,if_pos h])
  (repeat' (first|(refine X.g ?_; cbv)|refine X.splitT ?_|refine X.splitF ?_|refine X.sp (fun hc=>?_) (fun hc=>?_)|refine X.callsGA [] k1 ?_|refine X.callsGA [] k2 ?_|refine X.needT ?_))
  all_goals (refine X.ret _ (X.done rfl ?_); cbv <;> (and_intros <;> first|rfl|trivial))
 ·have c1:A.cmp .geq z 0 = false:=by rw [AE.c_geq hA]; exact decide_eq_false (by rw [hz]; exact fun hh=>h (cmpR_ge.1 hh))
  have k2:=fit_ok b (by omega) r (by rw [hr,maxR,if_neg h])
  (repeat' (first|(refine X.g ?_; cbv)|refine X.splitT ?_|refine X.splitF ?_|refine X.sp (fun hc=>?_) (fun hc=>?_)|refine X.callsGA [] k1 ?_|refine X.callsGA [] k2 ?_|refine X.needT ?_))
  all_goals (refine X.ret _ (X.done rfl ?_); cbv <;> (and_intros <;> first|rfl|trivial))
def Q.Small (q:Q):Prop:=q.Good ∧ bv q.num ≤ 1000000 ∧ bv q.den ≤ 1000
instance (q:Q):Decidable q.Small:=by unfold Q.Small; infer_instance
end Go.Proofs.YthadehkggddgoaaGreatDoor
end
section
set_option linter.unusedVariables false
set_option linter.unusedSimpArgs false
namespace Go.Proofs.YthadehkggddgoaaGreatDoor
open Go Go.Num
theorem Q.Small.size {q:Q} (h:q.Small):q.num.size ≤ 3 ∧ q.den.size ≤ 2:=by
 obtain ⟨⟨g1,g2,_⟩,h1,h2⟩:=h
 have e1:(enc (bv q.num)).size ≤ 3:=enc_size.2 (Nat.lt_of_le_of_lt h1 (by decide))
 have e2:(enc (bv q.den)).size ≤ 2:=enc_size.2 (Nat.lt_of_le_of_lt h2 (by decide))
 rw [enc_bv g1] at e1
 rw [enc_bv g2] at e2
 exact ⟨e1,e2⟩
theorem cmpN_le {x y:Nat}:cmpN x y ≤ 0 ↔ x ≤ y:=by
 unfold cmpN
 split
 ·exact ⟨fun _=>by omega,fun _=>by decide⟩
 ·split
  ·exact ⟨fun h=>absurd h (by decide),fun h=>by omega⟩
  ·exact ⟨fun _=>by omega,fun _=>by decide⟩
theorem small_ok (q:Q) (h:q.sz ≤ 2 ^ 34) (r:Bool) (hr:r = decide q.Small):AE.ACallG GG Tryz.prog 151 [] [.a q.c] [] (.b r):=by
 refine AE.ACallG.of_walk (fn:=Tryz.f151) (c:=bodyOf Tryz.f151) GG_stays tabOK Tryz.func151 rfl rfl mixed fun A hA X=>?_
 have hbad:¬ q.Small → false = r:=fun h=>by rw [hr,decide_eq_false h]
 by_cases h1:q.num.size ≤ 3
 case neg =>
  have c1:A.cmp .leq (A.slen q.num) 3 = false:=leF hA (slen hA q.num) (b:=3) rfl h1
  have hb:=hbad fun h=>h1 h.size.1
  (repeat' (first|(refine X.g ?_; cbv)|refine X.splitT ?_|refine X.splitF ?_|refine X.sp (fun hc=>?_) (fun hc=>?_)|refine X.needT ?_|refine X.drawX _ _ _ (by kernel_rfl) (X.frzB 0 _ _ (Nat.zero_le _) ?_)))
  all_goals (refine X.ret _ (X.done rfl ?_); cbv <;> (and_intros <;> first|exact hb|rfl|trivial))
 have c1:A.cmp .leq (A.slen q.num) 3 = true:=leT hA (slen hA q.num) (b:=3) rfl h1
 by_cases h2:q.den.size ≤ 2
 case neg =>
  have c2:A.cmp .leq (A.slen q.den) 2 = false:=leF hA (slen hA q.den) (b:=2) rfl h2
  have hb:=hbad fun h=>h2 h.size.2
  (repeat' (first|(refine X.g ?_; cbv)|refine X.splitT ?_|refine X.splitF ?_|refine X.sp (fun hc=>?_) (fun hc=>?_)|refine X.needT ?_|refine X.drawX _ _ _ (by kernel_rfl) (X.frzB 0 _ _ (Nat.zero_le _) ?_)))
  all_goals (refine X.ret _ (X.done rfl ?_); cbv <;> (and_intros <;> first|exact hb|rfl|trivial))
 have c2:A.cmp .leq (A.slen q.den) 2 = true:=leT hA (slen hA q.den) (b:=2) rfl h2
 obtain ⟨g,hg⟩:∃ g,g = decide q.Good:=⟨_,rfl⟩
 have k1:=good_ok q h g hg
 by_cases h3:q.Good
 case neg =>
  have c3:g = false:=by rw [hg,decide_eq_false h3]
  have hb:=hbad fun h=>h3 h.1
  (repeat' (first|(refine X.g ?_; cbv)|refine X.splitT ?_|refine X.splitF ?_|refine X.sp (fun hc=>?_) (fun hc=>?_)|refine X.needT ?_|refine X.drawX _ _ _ (by kernel_rfl) (X.frzB 0 _ _ (Nat.zero_le _) ?_)|refine X.callsGA [] k1 ?_))
  all_goals (refine X.ret _ (X.done rfl ?_); cbv <;> (and_intros <;> first|exact hb|rfl|trivial))
 have c3:g = true:=by rw [hg,decide_eq_true h3]
 obtain ⟨m,hm⟩:∃ m,m = enc 1000000:=⟨_,rfl⟩
 obtain ⟨m', hm'⟩:∃ m,m = enc 1000:=⟨_,rfl⟩
 have k2:=natOf_ok 1000000 (by decide) m hm
 have k3:=natOf_ok 1000 (by decide) m' hm'
 obtain ⟨z,hz⟩:∃ z,z = cmpN (bv q.num) 1000000:=⟨_,rfl⟩
 obtain ⟨z', hz'⟩:∃ z,z = cmpN (bv q.den) 1000:=⟨_,rfl⟩
 have k4:=cmp_ok q.num m z (by rw [hz,hm,bv_enc])
 have k5:=cmp_ok q.den m' z' (by rw [hz', hm', bv_enc])
 by_cases h4:bv q.num ≤ 1000000
 case neg =>
  have c4:A.cmp .leq z 0 = false:=by rw [AE.c_leq hA]; exact decide_eq_false (by rw [hz]; exact fun hh=>h4 (cmpN_le.1 hh))
  have hb:=hbad fun h=>h4 h.2.1
  (repeat' (first|(refine X.g ?_; cbv)|refine X.splitT ?_|refine X.splitF ?_|refine X.sp (fun hc=>?_) (fun hc=>?_)|refine X.needT ?_|refine X.drawX _ _ _ (by kernel_rfl) (X.frzB 0 _ _ (Nat.zero_le _) ?_)|refine X.callsGA [] k1 ?_|refine X.callsA [] k2 ?_|refine X.callsA [] k3 ?_|refine X.callsA [] k4 ?_|refine X.callsA [] k5 ?_))
  all_goals (refine X.ret _ (X.done rfl ?_); cbv <;> (and_intros <;> first|exact hb|rfl|trivial))
 have c4:A.cmp .leq z 0 = true:=by rw [AE.c_leq hA]; exact decide_eq_true (by rw [hz]; exact cmpN_le.2 h4)
 have e1:A.cmp .leq z' 0 = r:=by
  rw [AE.c_leq hA,hr,hz']
  congr 1
  exact propext ⟨fun hh=>⟨h3,h4,cmpN_le.1 hh⟩,fun hh=>cmpN_le.2 hh.2.2⟩
 (repeat' (first|(refine X.g ?_; cbv)|refine X.splitT ?_|refine X.splitF ?_|refine X.sp (fun hc=>?_) (fun hc=>?_)|refine X.needT ?_|refine X.drawX _ _ _ (by kernel_rfl) (X.frzB 0 _ _ (Nat.zero_le _) ?_)|refine X.callsGA [] k1 ?_|refine X.callsA [] k2 ?_|refine X.callsA [] k3 ?_|refine X.callsA [] k4 ?_|refine X.callsA [] k5 ?_))
 all_goals (refine X.ret _ (X.done rfl ?_); cbv <;> (and_intros <;> first|exact e1|rfl|trivial))
end Go.Proofs.YthadehkggddgoaaGreatDoor
end
