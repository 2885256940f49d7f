/- Contracts: turn.fit, Cos, Sin; vec.Turn; frame.Put. Contracts: slices.Clone at the program's types, works.Copy, as values that are only read (written by tools/gencopy.py). Contract: the law WorksChecks. Contract: the law WorksChecks. Works of a small bulk: few elements, short encodings. Contracts: slices.Clone at more types; slices.IndexFunc and ContainsFunc of frames and numbers. -/
import Derived.Test.YthadehkggddgoaaGreatDoorZRefA
import Derived.Test.YthadehkggddgoaaGreatDoorZArm
import Derived.Test.YthadehkggddgoaaGreatDoorZLoop
import Derived.Test.YthadehkggddgoaaGreatDoorZRatB
import Derived.Test.YthadehkggddgoaaGreatDoorZMakeD
import Derived.Test.YthadehkggddgoaaGreatDoorZPlain
import Derived.Test.YthadehkggddgoaaGreatDoorZRefB
section
set_option maxRecDepth 100000
set_option maxHeartbeats 0
set_option linter.unusedVariables false
set_option linter.unusedSimpArgs false
namespace Go.Proofs.YthadehkggddgoaaGreatDoor
open Go Go.Num
def Tn.fit (t:Tn):Tn:=if t.half then ⟨true,Q.of 0⟩ else ⟨false,Q.of t.t.v⟩
def Tn.tan (t:Tn):Rat:=if t.half then 0 else t.t.v
theorem Tn.fit_t (t:Tn):t.fit.t = Q.of t.tan:=by unfold Tn.fit Tn.tan; split <;> rfl
theorem Tn.fit_half (t:Tn):t.fit.half = t.half:=by unfold Tn.fit; split <;> simp_all
def Tn.cos (t:Tn):Rat:=if t.half then -1 else (1 - t.tan * t.tan) / (1 + t.tan * t.tan)
def Tn.sin (t:Tn):Rat:=(t.tan + t.tan) / (1 + t.tan * t.tan)
theorem sq_nonneg (r:Rat):0 ≤ r * r:=by
 rcases Rat.le_total (a:=0) (b:=r) with h|h
 ·exact Rat.mul_nonneg h h
 ·have h2:0 ≤ -r:=by have:=Rat.neg_le_neg h; simpa using this
  have:=Rat.mul_nonneg h2 h2
  rwa [Rat.neg_mul,Rat.mul_neg,Rat.neg_neg] at this
theorem one_sq_ne (r:Rat):1 + r * r ≠ 0:=by
 intro h
 have h1:=sq_nonneg r
 have h2:(1:Rat) ≤ 1 + r * r:=by
  have:=(Rat.add_le_add_left (c:=1)).2 h1
  rwa [Rat.add_zero] at this
 rw [h] at h2
 exact absurd h2 (by decide +kernel)
theorem rs1:rs 1 ≤ 1:=rs_le.2 ⟨by decide,by decide⟩
theorem rsm1:rs (-1) ≤ 1:=rs_le.2 ⟨by decide,by decide⟩
theorem rs_inv {b:Rat} (hb:b ≠ 0):rs b⁻¹ ≤ rs b:=by
 obtain ⟨h1,h2⟩:=rs_le.1 (Nat.le_refl (rs b))
 have hn:b.num ≠ 0:=fun h=>hb (Rat.num_eq_zero.1 h)
 refine rs_le.2 ⟨?_,?_⟩
 ·rw [Rat.num_inv,Int.natAbs_mul,Int.natAbs_natCast]
  have:b.num.sign.natAbs = 1:=Int.natAbs_sign_of_ne_zero hn
  rw [this,Nat.one_mul]; exact h2
 ·rw [Rat.den_inv,if_neg hn]; exact h1
theorem rs_div {a b:Rat} (hb:b ≠ 0):rs (a / b) ≤ rs a + rs b:=by
 rw [Rat.div_def]
 have:=rs_mul a b⁻¹
 have:=rs_inv hb
 omega
theorem Tn.rs_tan (t:Tn):rs t.tan ≤ t.t.sz + 1:=by
 unfold Tn.tan
 split
 ·have:=rs0; omega
 ·exact t.t.rs
theorem Tn.rs_cos (t:Tn):rs t.cos ≤ 4 * t.t.sz + 20:=by
 unfold Tn.cos
 split
 ·have:=rsm1; omega
 ·have h1:=t.rs_tan
  have h2:=rs_mul t.tan t.tan
  have h3:=rs_sub 1 (t.tan * t.tan)
  have h4:=rs_add 1 (t.tan * t.tan)
  have h5:=rs_div (a:=1 - t.tan * t.tan) (one_sq_ne t.tan)
  have:=rs1
  omega
theorem Tn.rs_sin (t:Tn):rs t.sin ≤ 4 * t.t.sz + 20:=by
 unfold Tn.sin
 have h1:=t.rs_tan
 have h2:=rs_mul t.tan t.tan
 have h3:=rs_add t.tan t.tan
 have h4:=rs_add 1 (t.tan * t.tan)
 have h5:=rs_div (a:=t.tan + t.tan) (one_sq_ne t.tan)
 have:=rs1
 omega
theorem turnHalf_ok (r:Tn) (hr:r = ⟨true,Q.of 0⟩):AE.ACallG GG Tryz.prog 176 [] [] [] (.a r.c):=by
 obtain ⟨p,hp⟩:∃ p,p = Q.of 0:=⟨_,rfl⟩
 rw [← hp] at hr
 subst hr
 refine AE.ACallG.of_walk (fn:=Tryz.f176) (c:=bodyOf Tryz.f176) GG_stays tabOK Tryz.func176 rfl rfl mixed fun A hA X=>?_
 have k1:=ratOf_ok 0 (by decide) (by decide) p hp
 (repeat' (first|(refine X.g ?_; cbv)|refine X.splitT ?_|refine X.splitF ?_|refine X.sp (fun hc=>?_) (fun hc=>?_)|refine X.callsGA [] k1 ?_|refine X.needT ?_))
 all_goals (refine X.ret _ (X.done rfl ?_); cbv <;> (and_intros <;> first|rfl|trivial))
theorem turnFit_ok (t:Tn) (ht:t.t.sz ≤ 2 ^ 32) (r:Tn) (hr:r = t.fit):AE.ACallG GG Tryz.prog 173 [] [.a t.c] [] (.a r.c):=by
 refine AE.ACallG.of_walk (fn:=Tryz.f173) (c:=bodyOf Tryz.f173) GG_stays tabOK Tryz.func173 rfl rfl mixed fun A hA X=>?_
 obtain ⟨half,q⟩:=t
 simp only at ht
 cases half
 ·have k1:=turnOf_ok q ht r (by rw [hr]; rfl)
  obtain ⟨h,p⟩:=r
  (repeat' (first|(refine X.g ?_; cbv)|refine X.splitT ?_|refine X.splitF ?_|refine X.sp (fun hc=>?_) (fun hc=>?_)|refine X.callsGA [] k1 ?_|refine X.needT ?_))
  all_goals (refine X.ret _ (X.done rfl ?_); cbv <;> (and_intros <;> first|rfl|trivial))
 ·have k1:=turnHalf_ok r (by rw [hr]; rfl)
  obtain ⟨h,p⟩:=r
  (repeat' (first|(refine X.g ?_; cbv)|refine X.splitT ?_|refine X.splitF ?_|refine X.sp (fun hc=>?_) (fun hc=>?_)|refine X.callsGA [] k1 ?_|refine X.needT ?_))
  all_goals (refine X.ret _ (X.done rfl ?_); cbv <;> (and_intros <;> first|rfl|trivial))
theorem turnCos_ok (t:Tn) (ht:t.t.sz ≤ 2 ^ 28) (r:Q) (hr:r = Q.of t.cos):AE.ACallG GG Tryz.prog 177 [] [.a t.c] [] (.a r.c):=by
 refine AE.ACallG.of_walk (fn:=Tryz.f177) (c:=bodyOf Tryz.f177) GG_stays tabOK Tryz.func177 rfl rfl mixed fun A hA X=>?_
 obtain ⟨f,hf⟩:∃ f,f = t.fit:=⟨_,rfl⟩
 have k1:=turnFit_ok t (by omega) f hf
 have e1:f.t = Q.of t.tan:=by rw [hf,Tn.fit_t]
 have e2:f.half = t.half:=by rw [hf,Tn.fit_half]
 have z0:=t.rs_tan
 obtain ⟨half,q⟩:=f
 simp only at e1 e2
 have zq:q.sz ≤ 2 ^ 28 + 1:=by rw [e1,sz_of]; omega
 cases half
 ·have hc:t.cos = (1 - t.tan * t.tan) / (1 + t.tan * t.tan):=by rw [Tn.cos,← e2]; rfl
  obtain ⟨one,hone⟩:∃ q,q = Q.of 1:=⟨_,rfl⟩
  obtain ⟨sq,hsq⟩:∃ q,q = Q.of (t.tan * t.tan):=⟨_,rfl⟩
  obtain ⟨u,hu⟩:∃ q,q = Q.of (1 - t.tan * t.tan):=⟨_,rfl⟩
  obtain ⟨v,hv⟩:∃ q,q = Q.of (1 + t.tan * t.tan):=⟨_,rfl⟩
  have r1:=rs1
  have r2:=rs_mul t.tan t.tan
  have r3:=rs_sub 1 (t.tan * t.tan)
  have r4:=rs_add 1 (t.tan * t.tan)
  have z1:sq.sz ≤ 2 ^ 30:=by rw [hsq,sz_of]; omega
  have z2:u.sz ≤ 2 ^ 31:=by rw [hu,sz_of]; omega
  have z3:v.sz ≤ 2 ^ 31:=by rw [hv,sz_of]; omega
  have z4:one.sz ≤ 1:=by rw [hone,sz_of]; exact r1
  have k2:=ratMul_ok q q (by omega) (by omega) sq (by rw [hsq,e1,Q.v_of])
  have k3:=ratOf_ok 1 (by decide) (by decide) one hone
  have k4:=ratSub_ok one sq (by omega) (by omega) u (by rw [hu,hone,hsq,Q.v_of,Q.v_of])
  have k5:=ratAdd_ok one sq (by omega) (by omega) v (by rw [hv,hone,hsq,Q.v_of,Q.v_of])
  have hv0:¬ v.v = 0:=by rw [hv,Q.v_of]; exact one_sq_ne _
  have k6:=ratDiv_ok u v (by omega) (by omega) r 0 (by rw [if_neg hv0,hr,hc,hu,hv,Q.v_of,Q.v_of]) (by rw [if_neg hv0])
  (repeat' (first|(refine X.g ?_; cbv)|refine X.splitT ?_|refine X.splitF ?_|refine X.sp (fun hc=>?_) (fun hc=>?_)|refine X.needT ?_|refine X.fork _ _ ?_ ?_|refine X.callsGA [] k1 ?_|refine X.callsGA [] k2 ?_|refine X.callsGA [] k3 ?_|refine X.callsGA [] k4 ?_|refine X.callsGA [] k5 ?_|refine X.callsGA [] k6 ?_|refine X.drawX _ _ _ (by kernel_rfl) (X.frzB 2 _ _ (Nat.zero_le _) ?_)))
  all_goals (refine X.ret _ (X.done rfl ?_); cbv <;> (and_intros <;> first|rfl|trivial))
 ·have hc:t.cos = -1:=by rw [Tn.cos,← e2]; rfl
  have k2:=ratOf_ok (-1) (by decide) (by decide) r (by rw [hr,hc]; rfl)
  (repeat' (first|(refine X.g ?_; cbv)|refine X.splitT ?_|refine X.splitF ?_|refine X.sp (fun hc=>?_) (fun hc=>?_)|refine X.needT ?_|refine X.callsGA [] k1 ?_|refine X.callsGA [] k2 ?_))
  all_goals (refine X.ret _ (X.done rfl ?_); cbv <;> (and_intros <;> first|rfl|trivial))
theorem turnSin_ok (t:Tn) (ht:t.t.sz ≤ 2 ^ 28) (r:Q) (hr:r = Q.of t.sin):AE.ACallG GG Tryz.prog 178 [] [.a t.c] [] (.a r.c):=by
 refine AE.ACallG.of_walk (fn:=Tryz.f178) (c:=bodyOf Tryz.f178) GG_stays tabOK Tryz.func178 rfl rfl mixed fun A hA X=>?_
 obtain ⟨f,hf⟩:∃ f,f = t.fit:=⟨_,rfl⟩
 have k1:=turnFit_ok t (by omega) f hf
 have e1:f.t = Q.of t.tan:=by rw [hf,Tn.fit_t]
 have z0:=t.rs_tan
 obtain ⟨half,q⟩:=f
 simp only at e1
 have zq:q.sz ≤ 2 ^ 28 + 1:=by rw [e1,sz_of]; omega
 obtain ⟨one,hone⟩:∃ q,q = Q.of 1:=⟨_,rfl⟩
 obtain ⟨sq,hsq⟩:∃ q,q = Q.of (t.tan * t.tan):=⟨_,rfl⟩
 obtain ⟨u,hu⟩:∃ q,q = Q.of (t.tan + t.tan):=⟨_,rfl⟩
 obtain ⟨v,hv⟩:∃ q,q = Q.of (1 + t.tan * t.tan):=⟨_,rfl⟩
 have r1:=rs1
 have r2:=rs_mul t.tan t.tan
 have r3:=rs_add t.tan t.tan
 have r4:=rs_add 1 (t.tan * t.tan)
 have z1:sq.sz ≤ 2 ^ 30:=by rw [hsq,sz_of]; omega
 have z2:u.sz ≤ 2 ^ 31:=by rw [hu,sz_of]; omega
 have z3:v.sz ≤ 2 ^ 31:=by rw [hv,sz_of]; omega
 have z4:one.sz ≤ 1:=by rw [hone,sz_of]; exact r1
 have k2:=ratMul_ok q q (by omega) (by omega) sq (by rw [hsq,e1,Q.v_of])
 have k3:=ratOf_ok 1 (by decide) (by decide) one hone
 have k4:=ratAdd_ok q q (by omega) (by omega) u (by rw [hu,e1,Q.v_of])
 have k5:=ratAdd_ok one sq (by omega) (by omega) v (by rw [hv,hone,hsq,Q.v_of,Q.v_of])
 have hv0:¬ v.v = 0:=by rw [hv,Q.v_of]; exact one_sq_ne _
 have k6:=ratDiv_ok u v (by omega) (by omega) r 0 (by rw [if_neg hv0,hr,Tn.sin,hu,hv,Q.v_of,Q.v_of]) (by rw [if_neg hv0])
 (repeat' (first|(refine X.g ?_; cbv)|refine X.splitT ?_|refine X.splitF ?_|refine X.sp (fun hc=>?_) (fun hc=>?_)|refine X.needT ?_|refine X.fork _ _ ?_ ?_|refine X.callsGA [] k1 ?_|refine X.callsGA [] k2 ?_|refine X.callsGA [] k3 ?_|refine X.callsGA [] k4 ?_|refine X.callsGA [] k5 ?_|refine X.callsGA [] k6 ?_|refine X.drawX _ _ _ (by kernel_rfl) (X.frzB 0 _ _ (Nat.zero_le _) ?_)))
 all_goals (refine X.ret _ (X.done rfl ?_); cbv <;> (and_intros <;> first|rfl|trivial))
def RV.turn (p:RV) (t:Tn):RV:=⟨p.x * t.cos - p.y * t.sin,p.x * t.sin + p.y * t.cos⟩
theorem rvTurn_rs (p:RV) (t:Tn):(p.turn t).rs ≤ 2 * p.rs + 8 * t.t.sz + 50:=by
 have h1:=t.rs_cos
 have h2:=t.rs_sin
 have a1:=rs_mul p.x t.cos
 have a2:=rs_mul p.y t.sin
 have a3:=rs_mul p.x t.sin
 have a4:=rs_mul p.y t.cos
 have a5:=rs_sub (p.x * t.cos) (p.y * t.sin)
 have a6:=rs_add (p.x * t.sin) (p.y * t.cos)
 simp only [RV.turn,RV.rs]
 omega
theorem vecTurn_ok (p:V2) (hp:p.sz ≤ 2 ^ 28) (t:Tn) (ht:t.t.sz ≤ 2 ^ 26) (r:V2) (hr:r = V2.of (p.v.turn t)):AE.ACallG GG Tryz.prog 110 [] [.a p.c,.a t.c] [] (.a r.c):=by
 refine AE.ACallG.of_walk (fn:=Tryz.f110) (c:=bodyOf Tryz.f110) GG_stays tabOK Tryz.func110 rfl rfl mixed fun A hA X=>?_
 obtain ⟨x,y⟩:=p
 simp only [V2.sz] at hp
 have h1:=t.rs_cos
 have h2:=t.rs_sin
 have hx:=x.rs
 have hy:=y.rs
 have a1:=rs_mul x.v t.cos
 have a2:=rs_mul y.v t.sin
 have a3:=rs_mul x.v t.sin
 have a4:=rs_mul y.v t.cos
 obtain ⟨c,hc⟩:∃ q,q = Q.of t.cos:=⟨_,rfl⟩
 obtain ⟨s,hs⟩:∃ q,q = Q.of t.sin:=⟨_,rfl⟩
 obtain ⟨m1,hm1⟩:∃ q,q = Q.of (x.v * t.cos):=⟨_,rfl⟩
 obtain ⟨m2,hm2⟩:∃ q,q = Q.of (y.v * t.sin):=⟨_,rfl⟩
 obtain ⟨m3,hm3⟩:∃ q,q = Q.of (x.v * t.sin):=⟨_,rfl⟩
 obtain ⟨m4,hm4⟩:∃ q,q = Q.of (y.v * t.cos):=⟨_,rfl⟩
 obtain ⟨u,hu⟩:∃ q,q = Q.of (x.v * t.cos - y.v * t.sin):=⟨_,rfl⟩
 obtain ⟨v,hv⟩:∃ q,q = Q.of (x.v * t.sin + y.v * t.cos):=⟨_,rfl⟩
 have hr2:r = ⟨u,v⟩:=by rw [hr,hu,hv]; rfl
 subst hr2
 have zc:c.sz ≤ 2 ^ 29:=by rw [hc,sz_of]; omega
 have zs:s.sz ≤ 2 ^ 29:=by rw [hs,sz_of]; omega
 have z1:m1.sz ≤ 2 ^ 30:=by rw [hm1,sz_of]; omega
 have z2:m2.sz ≤ 2 ^ 30:=by rw [hm2,sz_of]; omega
 have z3:m3.sz ≤ 2 ^ 30:=by rw [hm3,sz_of]; omega
 have z4:m4.sz ≤ 2 ^ 30:=by rw [hm4,sz_of]; omega
 have k1:=turnCos_ok t (by omega) c hc
 have k2:=turnSin_ok t (by omega) s hs
 have k3:=ratMul_ok x c (by omega) (by omega) m1 (by rw [hm1,hc,Q.v_of])
 have k4:=ratMul_ok y s (by omega) (by omega) m2 (by rw [hm2,hs,Q.v_of])
 have k5:=ratMul_ok x s (by omega) (by omega) m3 (by rw [hm3,hs,Q.v_of])
 have k6:=ratMul_ok y c (by omega) (by omega) m4 (by rw [hm4,hc,Q.v_of])
 have k7:=ratSub_ok m1 m2 (by omega) (by omega) u (by rw [hu,hm1,hm2,Q.v_of,Q.v_of])
 have k8:=ratAdd_ok m3 m4 (by omega) (by omega) v (by rw [hv,hm3,hm4,Q.v_of,Q.v_of])
 clear hm1 hm2 hm3 hm4 hu hv hc hs hr
 (refine X.g ?_; cbv)
 apply shareG X
 ·intro hs
  refine X.drawX _ _ _ (by kernel_rfl) (X.frzB 1 _ _ (Nat.zero_le _) ?_)
  (repeat' (first|(refine X.g ?_; cbv)|refine X.splitT ?_|refine X.splitF ?_|refine X.sp (fun hc=>?_) (fun hc=>?_)|refine X.needT ?_|refine X.fork _ _ ?_ ?_|refine X.callsGA [] k1 ?_|refine X.callsGA [] k2 ?_))
  all_goals exact hs
 refine X.drawX _ _ _ (by kernel_rfl) (X.frzB 0 _ _ (Nat.zero_le _) (X.frzB 3 _ _ (Nat.zero_le _) ?_))
 (repeat' (first|(refine X.g ?_; cbv)|refine X.splitT ?_|refine X.splitF ?_|refine X.sp (fun hc=>?_) (fun hc=>?_)|refine X.needT ?_|refine X.fork _ _ ?_ ?_|refine X.callsGA [] k3 ?_|refine X.callsGA [] k4 ?_|refine X.callsGA [] k5 ?_|refine X.callsGA [] k6 ?_|refine X.callsGA [] k7 ?_|refine X.callsGA [] k8 ?_))
 all_goals (refine X.ret _ (X.done rfl ?_); cbv <;> (and_intros <;> first|rfl|trivial))
def Fr.put (f:Fr) (p:RV):RV:=f.at_.v.add (p.turn f.turn)
theorem framePut_ok (f:Fr) (hf:f.le (2 ^ 26)) (p:V2) (hp:p.sz ≤ 2 ^ 28) (r:V2) (hr:r = V2.of (f.put p.v)):AE.ACallG GG Tryz.prog 42 [] [.a f.c,.a p.c] [] (.a r.c):=by
 refine AE.ACallG.of_walk (fn:=Tryz.f42) (c:=bodyOf Tryz.f42) GG_stays tabOK Tryz.func42 rfl rfl mixed fun A hA X=>?_
 obtain ⟨f1,f2⟩:=hf
 obtain ⟨u,hu⟩:∃ u,u = V2.of (p.v.turn f.turn):=⟨_,rfl⟩
 have k1:=vecTurn_ok p hp f.turn f2 u hu
 have h1:=rvTurn_rs p.v f.turn
 have h2:=p.rs
 have k2:=vecAdd_ok f.at_ u (by omega) (by rw [hu,V2.sz_of]; omega) r (by rw [hr,hu,V2.v_of]; rfl)
 obtain ⟨⟨x,y⟩,half,t⟩:=f
 (refine X.g ?_; cbv)
 refine X.drawX _ _ _ (by kernel_rfl) (X.frzB 0 _ _ (Nat.zero_le _) (X.frzB 1 _ _ (Nat.zero_le _) ?_))
 (repeat' (first|(refine X.g ?_; cbv)|refine X.splitT ?_|refine X.splitF ?_|refine X.sp (fun hc=>?_) (fun hc=>?_)|refine X.needT ?_|refine X.fork _ _ ?_ ?_|refine X.callsGA [] k1 ?_|refine X.callsGA [] k2 ?_))
 all_goals (refine X.ret _ (X.done rfl ?_); cbv <;> (and_intros <;> first|rfl|trivial))
end Go.Proofs.YthadehkggddgoaaGreatDoor
end
section
section
section
section
set_option linter.unusedVariables false
set_option linter.unusedSimpArgs false
namespace Go.Proofs.YthadehkggddgoaaGreatDoor
open Go Go.Num
theorem grow0 {A:AE.Ari} (hA:A = AE.std) {es:List (List AE.AV)} {n:Nat} (h:es.length ≤ n) {b:Nat} (hb:n * b ≤ 140737488355328) (hn:n < 2 ^ 60):AE.GrowR (A.llen []) (A.llen es) b:=by
 have h1:A.llen [] = 0:=by subst hA; rfl
 have h2:A.llen es = (es.length:Int):=llen hA es
 have h3:es.length * b ≤ n * b:=Nat.mul_le_mul_right _ h
 constructor
 ·rw [h1,h2]; omega
 ·rw [h1,h2]
  have:((0 + (es.length:Int)) * (b:Int)) = ((es.length * b:Nat):Int):=by rw [Int.natCast_mul,Int.zero_add]
  rw [this]; omega
structure Wk.Few (w:Wk):Prop where
 arms:w.arms.length ≤ 2 ^ 30
 links:∀ a ∈ w.arms,a.links.length ≤ 2 ^ 30 ∧ ∀ k ∈ a.links,k.shape.length ≤ 2 ^ 30
 walls:w.walls.length ≤ 2 ^ 30 ∧ ∀ l ∈ w.walls,l.length ≤ 2 ^ 30
 parts:w.parts.length ≤ 2 ^ 30 ∧ ∀ p ∈ w.parts,p.shape.length ≤ 2 ^ 30
 slots:w.slots.length ≤ 2 ^ 30
 gates:w.gates.length ≤ 2 ^ 30
end Go.Proofs.YthadehkggddgoaaGreatDoor
end
section
set_option maxRecDepth 100000
set_option maxHeartbeats 0
section
set_option linter.unusedVariables false
set_option linter.unusedSimpArgs false
namespace Go.Proofs.YthadehkggddgoaaGreatDoor
open Go Go.Num
theorem plain_ok (w:Wk) (s:Ss) (hw:w = works0) (hs:s = firstS works0):AE.ACallG GG Tryz.prog 115 [] [] [] (.t [.a w.c,.a s.c]):=by
 refine AE.ACallG.of_walk (fn:=Tryz.f115) (c:=bodyOf Tryz.f115) GG_stays tabOK Tryz.func115 rfl rfl mixed fun A hA X=>?_
 have k1:=makeWorks0_ok w hw
 have k2:=refFirst_ok w (by
  rw [hw]; intro a ha
  have h:a = arm0:=by simpa [works0] using ha
  subst h
  rw [arm0_eq]
  refine ⟨by decide,fun k hk=>?_⟩
  have h2:k = link0:=by simpa using hk
  subst h2
  obtain ⟨_,h3,h4,_⟩:=link0_le
  exact ⟨by omega,by omega⟩) (by rw [hw]; exact ⟨by decide,by decide,by decide,by decide⟩) s (by rw [hs,hw])
 (repeat' (first|(refine X.g ?_; cbv)|refine X.splitT ?_|refine X.splitF ?_|refine X.sp (fun hc=>?_) (fun hc=>?_)|refine X.needT ?_|refine X.callsA [] k1 ?_|refine X.callsGA [] k2 ?_|refine X.drawX _ _ _ (by kernel_rfl) (X.frzB 2 _ _ (Nat.zero_le _) ?_)|fail))
 all_goals (refine X.ret _ (X.done rfl ?_); cbv <;> (and_intros <;> first|rfl|trivial))
end Go.Proofs.YthadehkggddgoaaGreatDoor
end
section
set_option linter.unusedVariables false
set_option linter.unusedSimpArgs false
namespace Go.Proofs.YthadehkggddgoaaGreatDoor
open Go Go.Num
end Go.Proofs.YthadehkggddgoaaGreatDoor
end
end
end
section
set_option linter.unusedVariables false
set_option linter.unusedSimpArgs false
namespace Go.Proofs.YthadehkggddgoaaGreatDoor
open Go
theorem Wk.few_wt (w:Wk) {n:Nat} (h:w.wt ≤ n) (hn:n ≤ 2 ^ 28):w.Few:=by
 obtain ⟨h1,h2,h3,h4,h5,h6⟩:=w.parts_wt h
 have:=lw_len Ar.wt1 w.arms; have:=lw_len (lw1 V2.wt) w.walls; have:=lw_len Pt.wt1 w.parts; have:=lw_len Sl.wt1 w.slots; have:=lw_len Gt.wt1 w.gates
 refine ⟨by omega,fun a ha=>?_,⟨by omega,fun l hl=>?_⟩,⟨by omega,fun p hp=>?_⟩,by omega,by omega⟩
 ·have h7:=lw_mem (ρ:=Ar.wt) ha
  simp only [Ar.wt] at h7
  have:=lw_len Lk.wt1 a.links
  refine ⟨by omega,fun k hk=>?_⟩
  have h8:=lw_mem (ρ:=Lk.wt) hk
  simp only [Lk.wt] at h8
  have:=lw_len V2.wt1 k.shape
  omega
 ·have h7:=lw_mem (ρ:=lw V2.wt) hl
  have:=lw_len V2.wt1 l
  omega
 ·have h7:=lw_mem (ρ:=Pt.wt) hp
  simp only [Pt.wt] at h7
  have:=lw_len V2.wt1 p.shape
  omega
theorem Wk.Few.low {w:Wk} (h:w.Few):w.Low:=by
 have h1:=h.arms; have h2:=h.slots; have h3:=h.gates
 obtain ⟨h4,h5⟩:=h.walls
 obtain ⟨h6,h7⟩:=h.parts
 refine ⟨by omega,fun a ha=>?_,⟨by omega,fun l hl=>?_⟩,⟨by omega,fun p hp=>?_⟩,by omega,by omega⟩
 ·obtain ⟨h8,h9⟩:=h.links a ha
  exact ⟨by omega,fun k hk=>by have:=h9 k hk; omega⟩
 ·have:=h5 l hl; omega
 ·have:=h7 p hp; omega
theorem app_sz (a b:ByteArray):(a ++ b).size = a.size + b.size:=ByteArray.size_append
theorem textS_size (s:ByteArray):(textS s).size ≤ 10 + s.size:=by
 have:=natS_size s.size
 rw [textS,app_sz]; omega
theorem Q.S_size (q:Q):q.S.size ≤ 32 * q.wt:=by
 have:=textS_size q.num; have:=textS_size q.den
 rw [Q.S,app_sz,app_sz,boolS_size,Q.wt]; omega
theorem V2.S_size (p:V2):p.S.size ≤ 32 * p.wt:=by
 have:=p.x.S_size; have:=p.y.S_size
 rw [V2.S,app_sz,V2.wt]; omega
theorem Fr.S_size (p:Fr):p.S.size ≤ 33 * p.wt:=by
 have:=p.at_.S_size; have:=p.turn.t.S_size; have:=p.turn.t.wt1
 rw [Fr.S,app_sz,app_sz,boolS_size,Fr.wt,Tn.wt]; omega
theorem fold_size {α : Type} {f:α → ByteArray} {ρ : α → Nat} (h:∀ a,(f a).size ≤ 64 * ρ a):∀ (l:List α) (b:ByteArray),(l.foldl (fun acc x=>acc ++ f x) b).size ≤ b.size + 64 * (l.map ρ).sum
 | [],b=>by simp
 | x :: l,b=>by
  have h1:=fold_size h l (b ++ f x)
  have h2:=h x
  rw [app_sz] at h1
  simp only [List.foldl_cons,List.map_cons,List.sum_cons]
  omega
theorem lsS_size {α : Type} {f:α → ByteArray} {ρ : α → Nat} (h:∀ a,(f a).size ≤ 64 * ρ a) (l:List α):(lsS f l).size ≤ 64 * lw ρ l:=by
 have h1:=fold_size h (l.take l.length) (natS l.length)
 have h2:=natS_size l.length
 rw [lsS,upS,lw]
 rw [List.take_length] at h1 ⊢
 omega
theorem V2.S_size' (p:V2):p.S.size ≤ 64 * p.wt:=by have:=p.S_size; omega
theorem Lk.S_size (p:Lk):p.S.size ≤ 64 * p.wt:=by
 have:=p.length.S_size; have:=p.low.S_size; have:=p.high.S_size; have:=p.speed.S_size; have:=p.brake.S_size
 have:=lsS_size V2.S_size' p.shape
 rw [Lk.S,app_sz,app_sz,app_sz,app_sz,app_sz,Lk.wt]; omega
theorem Ar.S_size (p:Ar):p.S.size ≤ 64 * p.wt:=by
 have:=textS_size p.name; have:=p.base.S_size; have:=lsS_size Lk.S_size p.links; have:=p.base.wt1
 rw [Ar.S,app_sz,app_sz,Ar.wt]; omega
theorem Pt.S_size (p:Pt):p.S.size ≤ 64 * p.wt:=by
 have:=textS_size p.name; have:=p.grasp.S_size; have:=lsS_size V2.S_size' p.shape; have:=p.grasp.wt1
 rw [Pt.S,app_sz,app_sz,Pt.wt]; omega
theorem Sl.S_size (p:Sl):p.S.size ≤ 64 * p.wt:=by
 have:=textS_size p.name; have:=p.frame.S_size; have:=p.within.S_size; have:=p.frame.wt1
 rw [Sl.S,app_sz,app_sz,Sl.wt]; omega
theorem Gt.S_size (p:Gt):p.S.size ≤ 64 * p.wt:=by
 have:=textS_size p.name; have:=p.zone.low.S_size; have:=p.zone.high.S_size; have:=p.zone.low.wt1
 rw [Gt.S,app_sz,app_sz,Gt.wt,Bx.wt]; omega
theorem Wk.S_size (w:Wk):w.S.size ≤ 64 * w.wt + 2:=by
 have:=lsS_size Ar.S_size w.arms; have:=lsS_size (f:=fun l=>lsS V2.S l) (lsS_size V2.S_size') w.walls; have:=lsS_size Pt.S_size w.parts; have:=lsS_size Sl.S_size w.slots; have:=lsS_size Gt.S_size w.gates
 rw [Wk.S,app_sz,app_sz,app_sz,app_sz,app_sz,Wk.wt]
 have:(⟨⟨[71,49]⟩⟩:ByteArray).size = 2:=rfl
 omega
end Go.Proofs.YthadehkggddgoaaGreatDoor
end
end
section
set_option maxRecDepth 100000
set_option maxHeartbeats 0
set_option linter.unusedVariables false
set_option linter.unusedSimpArgs false
namespace Go.Proofs.YthadehkggddgoaaGreatDoor
open Go Go.Num
theorem cloneRat_ok (es:List (List AE.AV)) (hl:es.length ≤ 2 ^ 30):AE.ACall Tryz.prog 80 [] [.l 3 es] [] (.l 3 es):=by
 refine AE.ACall.of_walk (fn:=Tryz.f80) (c:=bodyOf Tryz.f80) tabOK Tryz.func80 rfl rfl mixed fun A hA X=>?_
 have hg:=grow0 hA hl (b:=40) (by decide) (by decide)
 have e1:A.lapp [] es = es:=by subst hA; rfl
 (refine X.g ?_; cbv)
 refine X.coin _ _ _ _ _ (fun b hb=>?_)
 cases b
 ·(repeat' (first|(refine X.g ?_; cbv)|refine X.splitT ?_|refine X.splitF ?_|refine X.sp (fun hc=>?_) (fun hc=>?_)|refine X.needT ?_|refine X.need _ _ _ hg ?_))
  all_goals (refine X.ret _ (X.frz 0 _ _ (X.done rfl ?_)); cbv <;> (and_intros <;> first|exact e1|rfl|trivial))
 ·have e2:=hb rfl
  (repeat' (first|(refine X.g ?_; cbv)|refine X.splitT ?_|refine X.splitF ?_|refine X.sp (fun hc=>?_) (fun hc=>?_)|refine X.needT ?_))
  all_goals (refine X.ret _ (X.done rfl ?_); cbv <;> (and_intros <;> first|exact e2|rfl|trivial))
theorem idxFrame_ok (l:List Fr) (hl:l.length < 2 ^ 40) (es:List (List AE.AV)) (hes:es = lsAv Fr.c l) (fn:Nat) (p:Fr → Bool) (each:∀ y ∈ l,∀ b,b = p y → AE.ACallG GG Tryz.prog (fn % 1000000) [] [.a (Fr.c y)] [] (.b b)) (r:Int) (hr:r = idxB p l):AE.ACallG GG Tryz.prog 168 [] [.l 10 es,.f fn []] [] (.v (.int .i64 r)):=by
 refine AE.ACallG.of_walk (fn:=Tryz.f168) (c:=bodyOf Tryz.f168) GG_stays tabOK Tryz.func168 rfl rfl mixed fun A hA X=>?_
 (repeat' (first|(refine X.g ?_; cbv)|refine X.splitT ?_|refine X.splitF ?_|refine X.sp (fun hc=>?_) (fun hc=>?_)|refine X.needT ?_))
 refine rangeL0 X hA hes (by omega) (fun i=>∀ x ∈ l.take i,p x = false) (fun z _=>[(8,.v (.int .i64 z))]) (fun x h=>by simp at h) ?_ (fun i z y hz hy he c3 hI B hB=>?_) (fun z c3 hI B=>?_)
 ·(cbv <;> (and_intros <;> first|rfl|trivial))
 ·obtain ⟨b,hb⟩:∃ b,b = p y:=⟨_,rfl⟩
  have k1:=each y (List.mem_of_getElem? hy) b hb
  clear each
  cases hb' : b
  ·have hI' := take_all hI hy (by rw [← hb,hb'])
   (repeat' (first|(refine X.g ?_; cbv)|refine X.splitT ?_|refine X.splitF ?_|refine X.sp (fun hc=>?_) (fun hc=>?_)|refine X.needT ?_|refine X.idx _ _ _ _ _ _ _ _ he hz ?_|refine X.callsGA [] k1 ?_))
   all_goals (refine hB hI' _ ?_; clear hB; (cbv <;> (and_intros <;> first|rfl|trivial)))
  ·have e1:z = r:=by rw [hr,idx_hit hI hy (by rw [← hb,hb']),hz]
   clear hB
   (repeat' (first|(refine X.g ?_; cbv)|refine X.splitT ?_|refine X.splitF ?_|refine X.sp (fun hc=>?_) (fun hc=>?_)|refine X.needT ?_|refine X.idx _ _ _ _ _ _ _ _ he hz ?_|refine X.callsGA [] k1 ?_))
   all_goals (refine X.ret _ (X.done rfl ?_); cbv <;> (and_intros <;> first|exact e1|rfl|trivial))
 ·rw [List.take_length] at hI
  have e1:-1 = r:=by rw [hr,idx_none hI]
  (repeat' (first|(refine X.g ?_; cbv)|refine X.splitT ?_|refine X.splitF ?_|refine X.sp (fun hc=>?_) (fun hc=>?_)|refine X.needT ?_))
  all_goals (refine X.ret _ (X.done rfl ?_); cbv <;> (and_intros <;> first|exact e1|rfl|trivial))
theorem hasFrame_ok (l:List Fr) (hl:l.length < 2 ^ 40) (es:List (List AE.AV)) (hes:es = lsAv Fr.c l) (fn:Nat) (p:Fr → Bool) (each:∀ y ∈ l,∀ b,b = p y → AE.ACallG GG Tryz.prog (fn % 1000000) [] [.a (Fr.c y)] [] (.b b)) (r:Bool) (hr:r = l.any p):AE.ACallG GG Tryz.prog 101 [] [.l 10 es,.f fn []] [] (.b r):=by
 refine AE.ACallG.of_walk (fn:=Tryz.f101) (c:=bodyOf Tryz.f101) GG_stays tabOK Tryz.func101 rfl rfl mixed fun A hA X=>?_
 obtain ⟨z,hz⟩:∃ z,z = idxB p l:=⟨_,rfl⟩
 have k1:=idxFrame_ok l hl es hes fn p each z hz
 clear each
 have e1:A.cmp .geq z 0 = r:=by rw [AE.c_geq hA,hr,hz,idx_ge]
 (repeat' (first|(refine X.g ?_; cbv)|refine X.splitT ?_|refine X.splitF ?_|refine X.sp (fun hc=>?_) (fun hc=>?_)|refine X.callsGA [] k1 ?_|refine X.needT ?_))
 all_goals (refine X.ret _ (X.done rfl ?_); cbv <;> (and_intros <;> first|exact e1|rfl|trivial))
theorem idxRat_ok (l:List Q) (hl:l.length < 2 ^ 40) (es:List (List AE.AV)) (hes:es = lsAv Q.c l) (fn:Nat) (p:Q → Bool) (each:∀ y ∈ l,∀ b,b = p y → AE.ACallG GG Tryz.prog (fn % 1000000) [] [.a (Q.c y)] [] (.b b)) (r:Int) (hr:r = idxB p l):AE.ACallG GG Tryz.prog 119 [] [.l 3 es,.f fn []] [] (.v (.int .i64 r)):=by
 refine AE.ACallG.of_walk (fn:=Tryz.f119) (c:=bodyOf Tryz.f119) GG_stays tabOK Tryz.func119 rfl rfl mixed fun A hA X=>?_
 (repeat' (first|(refine X.g ?_; cbv)|refine X.splitT ?_|refine X.splitF ?_|refine X.sp (fun hc=>?_) (fun hc=>?_)|refine X.needT ?_))
 refine rangeL0 X hA hes (by omega) (fun i=>∀ x ∈ l.take i,p x = false) (fun z _=>[(8,.v (.int .i64 z))]) (fun x h=>by simp at h) ?_ (fun i z y hz hy he c3 hI B hB=>?_) (fun z c3 hI B=>?_)
 ·(cbv <;> (and_intros <;> first|rfl|trivial))
 ·obtain ⟨b,hb⟩:∃ b,b = p y:=⟨_,rfl⟩
  have k1:=each y (List.mem_of_getElem? hy) b hb
  clear each
  cases hb' : b
  ·have hI' := take_all hI hy (by rw [← hb,hb'])
   (repeat' (first|(refine X.g ?_; cbv)|refine X.splitT ?_|refine X.splitF ?_|refine X.sp (fun hc=>?_) (fun hc=>?_)|refine X.needT ?_|refine X.idx _ _ _ _ _ _ _ _ he hz ?_|refine X.callsGA [] k1 ?_))
   all_goals (refine hB hI' _ ?_; clear hB; (cbv <;> (and_intros <;> first|rfl|trivial)))
  ·have e1:z = r:=by rw [hr,idx_hit hI hy (by rw [← hb,hb']),hz]
   clear hB
   (repeat' (first|(refine X.g ?_; cbv)|refine X.splitT ?_|refine X.splitF ?_|refine X.sp (fun hc=>?_) (fun hc=>?_)|refine X.needT ?_|refine X.idx _ _ _ _ _ _ _ _ he hz ?_|refine X.callsGA [] k1 ?_))
   all_goals (refine X.ret _ (X.done rfl ?_); cbv <;> (and_intros <;> first|exact e1|rfl|trivial))
 ·rw [List.take_length] at hI
  have e1:-1 = r:=by rw [hr,idx_none hI]
  (repeat' (first|(refine X.g ?_; cbv)|refine X.splitT ?_|refine X.splitF ?_|refine X.sp (fun hc=>?_) (fun hc=>?_)|refine X.needT ?_))
  all_goals (refine X.ret _ (X.done rfl ?_); cbv <;> (and_intros <;> first|exact e1|rfl|trivial))
theorem hasRat_ok (l:List Q) (hl:l.length < 2 ^ 40) (es:List (List AE.AV)) (hes:es = lsAv Q.c l) (fn:Nat) (p:Q → Bool) (each:∀ y ∈ l,∀ b,b = p y → AE.ACallG GG Tryz.prog (fn % 1000000) [] [.a (Q.c y)] [] (.b b)) (r:Bool) (hr:r = l.any p):AE.ACallG GG Tryz.prog 47 [] [.l 3 es,.f fn []] [] (.b r):=by
 refine AE.ACallG.of_walk (fn:=Tryz.f47) (c:=bodyOf Tryz.f47) GG_stays tabOK Tryz.func47 rfl rfl mixed fun A hA X=>?_
 obtain ⟨z,hz⟩:∃ z,z = idxB p l:=⟨_,rfl⟩
 have k1:=idxRat_ok l hl es hes fn p each z hz
 clear each
 have e1:A.cmp .geq z 0 = r:=by rw [AE.c_geq hA,hr,hz,idx_ge]
 (repeat' (first|(refine X.g ?_; cbv)|refine X.splitT ?_|refine X.splitF ?_|refine X.sp (fun hc=>?_) (fun hc=>?_)|refine X.callsGA [] k1 ?_|refine X.needT ?_))
 all_goals (refine X.ret _ (X.done rfl ?_); cbv <;> (and_intros <;> first|exact e1|rfl|trivial))
end Go.Proofs.YthadehkggddgoaaGreatDoor
end
end
