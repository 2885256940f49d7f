/- Contracts: turn.opposite, turn.Then, turn.Back, frame.Then, frame.Back. -/
import Derived.Test.YthadehkggddgoaaGreatDoorZFuncsB
set_option maxRecDepth 100000
set_option maxHeartbeats 0
set_option linter.unusedVariables false
set_option linter.unusedSimpArgs false
namespace Go.Proofs.YthadehkggddgoaaGreatDoor
open Go Go.Num
def oppT (x:Rat):Tn:=if x = 0 then ⟨true,Q.of 0⟩ else ⟨false,Q.of (-1 / x)⟩
def thenT (a b:Tn):Tn:=if a.half then (if b.half then ⟨false,Q.of 0⟩ else oppT b.t.v) else if b.half then oppT a.t.v else if 1 - a.t.v * b.t.v = 0 then ⟨true,Q.of 0⟩ else ⟨false,Q.of ((a.t.v + b.t.v) / (1 - a.t.v * b.t.v))⟩
def backT (a:Tn):Tn:=⟨a.half,Q.of (-a.tan)⟩
def Fr.then_ (a b:Fr):Fr:=⟨V2.of (a.put b.at_.v),thenT a.turn b.turn⟩
def RV.neg (p:RV):RV:=⟨0 - p.x,0 - p.y⟩
def Fr.back (a:Fr):Fr:=⟨V2.of ((a.at_.v.neg).turn (backT a.turn)),backT a.turn⟩
theorem turnOpp_ok (t:Tn) (ht:t.t.sz ≤ 2 ^ 30) (r:Tn) (hr:r = oppT t.t.v):AE.ACallG GG Tryz.prog 174 [] [.a t.c] [] (.a r.c):=by
 obtain ⟨half,q⟩:=t
 simp only at ht hr
 refine AE.ACallG.of_walk (fn:=Tryz.f174) (c:=bodyOf Tryz.f174) GG_stays tabOK Tryz.func174 rfl rfl mixed fun A hA X=>?_
 obtain ⟨m,hm⟩:∃ x,x = Q.of ((-1:Int):Rat):=⟨_,rfl⟩
 have zm:m.sz ≤ 1:=by rw [hm,sz_of]; exact rsm1
 have k1:=ratOf_ok (-1) (by decide) (by decide) m hm
 by_cases h0:q.v = 0
 ·have k2:=ratDiv_ok m q (by omega) (by omega) Q.nil 12 (by rw [if_pos h0]) (by rw [if_pos h0])
  have k3:=turnHalf_ok r (by rw [hr,oppT,if_pos h0])
  have c0:A.cmp .neq 12 0 = true:=by rw [AE.c_neq hA]; rfl
  obtain ⟨rh,rt⟩:=r
  clear hr hm
  (repeat' (first|(refine X.g ?_; cbv)|refine X.splitT ?_|refine X.splitF ?_|refine X.sp (fun hc=>?_) (fun hc=>?_)|refine X.needT ?_|refine X.drawX _ _ _ (by kernel_rfl) (X.frzB 0 _ _ (Nat.zero_le _) ?_)|refine X.fork _ _ ?_ ?_|refine X.callsGA [] k1 ?_|refine X.callsGA [] k2 ?_|refine X.callsGA [] k3 ?_|fail))
  all_goals (refine X.ret _ (X.done rfl ?_); cbv <;> (and_intros <;> first|rfl|trivial))
 ·obtain ⟨p,hp⟩:∃ x,x = Q.of (-1 / q.v):=⟨_,rfl⟩
  have k2:=ratDiv_ok m q (by omega) (by omega) p 0 (by rw [if_neg h0,hp,hm,Q.v_of]; rfl) (by rw [if_neg h0])
  have zq:=q.rs
  have zp:p.sz ≤ 2 ^ 32:=by
   rw [hp,sz_of]
   have:=rs_div (a:=(-1:Rat)) h0
   have h1:rs (-1:Rat) ≤ 1:=rsm1
   omega
  have k3:=turnOf_ok p zp r (by rw [hr,oppT,if_neg h0,hp,Q.v_of])
  have c0:A.cmp .neq 0 0 = false:=by rw [AE.c_neq hA]; rfl
  obtain ⟨rh,rt⟩:=r
  clear hr hm hp
  (repeat' (first|(refine X.g ?_; cbv)|refine X.splitT ?_|refine X.splitF ?_|refine X.sp (fun hc=>?_) (fun hc=>?_)|refine X.needT ?_|refine X.drawX _ _ _ (by kernel_rfl) (X.frzB 0 _ _ (Nat.zero_le _) ?_)|refine X.fork _ _ ?_ ?_|refine X.callsGA [] k1 ?_|refine X.callsGA [] k2 ?_|refine X.callsGA [] k3 ?_|fail))
  all_goals (refine X.ret _ (X.done rfl ?_); cbv <;> (and_intros <;> first|rfl|trivial))
theorem turnThen_ok (a b:Tn) (ha:a.t.sz ≤ 2 ^ 28) (hb:b.t.sz ≤ 2 ^ 28) (r:Tn) (hr:r = thenT a b):AE.ACallG GG Tryz.prog 108 [] [.a a.c,.a b.c] [] (.a r.c):=by
 obtain ⟨f,hf⟩:∃ f,f = a.fit:=⟨_,rfl⟩
 obtain ⟨g,hg⟩:∃ g,g = b.fit:=⟨_,rfl⟩
 have k1:=turnFit_ok a (by omega) f hf
 have k2:=turnFit_ok b (by omega) g hg
 have e1:f.half = a.half:=by rw [hf,Tn.fit_half]
 have e2:g.half = b.half:=by rw [hg,Tn.fit_half]
 have e3:a.half = false → f.t.v = a.t.v:=fun h=>by rw [hf,Tn.fit_t,Q.v_of,Tn.tan,if_neg (by rw [h]; simp)]
 have e4:b.half = false → g.t.v = b.t.v:=fun h=>by rw [hg,Tn.fit_t,Q.v_of,Tn.tan,if_neg (by rw [h]; simp)]
 have z1:f.t.sz ≤ 2 ^ 29:=by rw [hf,Tn.fit_t,sz_of]; have:=a.rs_tan; omega
 have z2:g.t.sz ≤ 2 ^ 29:=by rw [hg,Tn.fit_t,sz_of]; have:=b.rs_tan; omega
 clear hf hg
 obtain ⟨ah,at_⟩:=a
 obtain ⟨bh,bt⟩:=b
 obtain ⟨fh,ft⟩:=f
 obtain ⟨gh,gt⟩:=g
 simp only at e1 e2 e3 e4 z1 z2 ha hb
 subst e1; subst e2
 obtain ⟨rh,rt⟩:=r
 refine AE.ACallG.of_walk (fn:=Tryz.f108) (c:=bodyOf Tryz.f108) GG_stays tabOK Tryz.func108 rfl rfl mixed fun A hA X=>?_
 have c0:A.cmp .neq 0 0 = false:=by rw [AE.c_neq hA]; rfl
 have c12:A.cmp .neq 12 0 = true:=by rw [AE.c_neq hA]; rfl
 cases fh
 ·cases gh
  ·have e3:=e3 rfl
   have e4:=e4 rfl
   have b1:=ft.rs
   have b2:=gt.rs
   have b3:=rs_add ft.v gt.v
   have b4:=rs_mul ft.v gt.v
   have b5:rs (1 - ft.v * gt.v) ≤ rs (1:Rat) + rs (ft.v * gt.v) + 1:=rs_sub 1 _
   have b6:rs (1:Rat) ≤ 1:=rs1
   obtain ⟨su,hsu⟩:∃ x,x = Q.of (ft.v + gt.v):=⟨_,rfl⟩
   obtain ⟨one,hone⟩:∃ x,x = Q.of ((1:Int):Rat):=⟨_,rfl⟩
   obtain ⟨mu,hmu⟩:∃ x,x = Q.of (ft.v * gt.v):=⟨_,rfl⟩
   obtain ⟨di,hdi⟩:∃ x,x = Q.of (1 - ft.v * gt.v):=⟨_,rfl⟩
   have s1:su.sz ≤ 2 ^ 31:=by rw [hsu,sz_of]; omega
   have s2:one.sz ≤ 1:=by rw [hone,sz_of]; exact rs1
   have s3:mu.sz ≤ 2 ^ 31:=by rw [hmu,sz_of]; omega
   have s4:di.sz ≤ 2 ^ 31:=by rw [hdi,sz_of]; omega
   have k3:=ratAdd_ok ft gt (by omega) (by omega) su hsu
   have k4:=ratOf_ok 1 (by decide) (by decide) one hone
   have k5:=ratMul_ok ft gt (by omega) (by omega) mu hmu
   have k6:=ratSub_ok one mu (by omega) (by omega) di (by rw [hdi,hone,hmu,Q.v_of,Q.v_of]; rfl)
   by_cases h0:1 - ft.v * gt.v = 0
   ·have k7:=ratDiv_ok su di (by omega) (by omega) Q.nil 12 (by rw [if_pos (by rw [hdi,Q.v_of]; exact h0)]) (by rw [if_pos (by rw [hdi,Q.v_of]; exact h0)])
    have k8:=turnHalf_ok ⟨rh,rt⟩ (by rw [hr,thenT]; simp only [Bool.false_eq_true,if_false]; rw [← e3,← e4,if_pos h0])
    clear hr hsu hone hmu hdi e3 e4
    (refine X.g ?_; cbv)
    apply shareG X
    ·intro hs
     refine X.drawX _ _ _ (by kernel_rfl) ?_
     (repeat' (first|(refine X.g ?_; cbv)|refine X.splitT ?_|refine X.splitF ?_|refine X.sp (fun hc=>?_) (fun hc=>?_)|refine X.needT ?_|refine X.fork _ _ ?_ ?_|refine X.callsGA [] k1 ?_|refine X.callsGA [] k2 ?_|fail))
     all_goals (refine X.drawX _ _ _ (by kernel_rfl) (X.frzB 0 _ _ (Nat.zero_le _) (X.frzB 1 _ _ (Nat.zero_le _) ?_)); (refine X.g ?_; cbv); exact hs)
    (repeat' (first|(refine X.g ?_; cbv)|refine X.splitT ?_|refine X.splitF ?_|refine X.sp (fun hc=>?_) (fun hc=>?_)|refine X.needT ?_|refine X.fork _ _ ?_ ?_|refine X.callsGA [] k3 ?_|refine X.callsGA [] k4 ?_|refine X.callsGA [] k5 ?_|refine X.callsGA [] k6 ?_|refine X.callsGA [] k7 ?_|refine X.callsGA [] k8 ?_|fail))
    all_goals (refine X.ret _ (X.done rfl ?_); cbv <;> (and_intros <;> first|rfl|trivial))
   ·obtain ⟨p,hp⟩:∃ x,x = Q.of ((ft.v + gt.v) / (1 - ft.v * gt.v)):=⟨_,rfl⟩
    have b7:=rs_div (a:=ft.v + gt.v) h0
    have k7:=ratDiv_ok su di (by omega) (by omega) p 0 (by rw [if_neg (by rw [hdi,Q.v_of]; exact h0),hp,hsu,hdi,Q.v_of,Q.v_of]) (by rw [if_neg (by rw [hdi,Q.v_of]; exact h0)])
    have k8:=turnOf_ok p (by rw [hp,sz_of]; omega) ⟨rh,rt⟩ (by rw [hr,thenT]; simp only [Bool.false_eq_true,if_false]; rw [← e3,← e4,if_neg h0,hp,Q.v_of])
    clear hr hsu hone hmu hdi hp e3 e4
    (refine X.g ?_; cbv)
    apply shareG X
    ·intro hs
     refine X.drawX _ _ _ (by kernel_rfl) ?_
     (repeat' (first|(refine X.g ?_; cbv)|refine X.splitT ?_|refine X.splitF ?_|refine X.sp (fun hc=>?_) (fun hc=>?_)|refine X.needT ?_|refine X.fork _ _ ?_ ?_|refine X.callsGA [] k1 ?_|refine X.callsGA [] k2 ?_|fail))
     all_goals (refine X.drawX _ _ _ (by kernel_rfl) (X.frzB 0 _ _ (Nat.zero_le _) (X.frzB 1 _ _ (Nat.zero_le _) ?_)); (refine X.g ?_; cbv); exact hs)
    (repeat' (first|(refine X.g ?_; cbv)|refine X.splitT ?_|refine X.splitF ?_|refine X.sp (fun hc=>?_) (fun hc=>?_)|refine X.needT ?_|refine X.fork _ _ ?_ ?_|refine X.callsGA [] k3 ?_|refine X.callsGA [] k4 ?_|refine X.callsGA [] k5 ?_|refine X.callsGA [] k6 ?_|refine X.callsGA [] k7 ?_|refine X.callsGA [] k8 ?_|fail))
    all_goals (refine X.ret _ (X.done rfl ?_); cbv <;> (and_intros <;> first|rfl|trivial))
  ·have e3:=e3 rfl
   have k3:=turnOpp_ok ⟨false,ft⟩ (by show ft.sz ≤ _; omega) ⟨rh,rt⟩ (by rw [hr,thenT]; simp only [Bool.false_eq_true,if_false,if_true]; rw [← e3])
   clear hr e3 e4
   (repeat' (first|(refine X.g ?_; cbv)|refine X.splitT ?_|refine X.splitF ?_|refine X.sp (fun hc=>?_) (fun hc=>?_)|refine X.needT ?_|refine X.drawX _ _ _ (by kernel_rfl) ?_|refine X.fork _ _ ?_ ?_|refine X.callsGA [] k1 ?_|refine X.callsGA [] k2 ?_|refine X.callsGA [] k3 ?_|fail))
   all_goals (refine X.ret _ (X.done rfl ?_); cbv <;> (and_intros <;> first|rfl|trivial))
 ·cases gh
  ·have e4:=e4 rfl
   have k3:=turnOpp_ok ⟨false,gt⟩ (by show gt.sz ≤ _; omega) ⟨rh,rt⟩ (by rw [hr,thenT]; simp only [Bool.false_eq_true,if_false,if_true]; rw [← e4])
   clear hr e3 e4
   (repeat' (first|(refine X.g ?_; cbv)|refine X.splitT ?_|refine X.splitF ?_|refine X.sp (fun hc=>?_) (fun hc=>?_)|refine X.needT ?_|refine X.drawX _ _ _ (by kernel_rfl) ?_|refine X.fork _ _ ?_ ?_|refine X.callsGA [] k1 ?_|refine X.callsGA [] k2 ?_|refine X.callsGA [] k3 ?_|fail))
   all_goals (refine X.ret _ (X.done rfl ?_); cbv <;> (and_intros <;> first|rfl|trivial))
  ·obtain ⟨z,hz⟩:∃ x,x = Q.of ((0:Int):Rat):=⟨_,rfl⟩
   have k3:=ratOf_ok 0 (by decide) (by decide) z hz
   have k4:=turnOf_ok z (by rw [hz,sz_of]; have:rs ((0:Int):Rat) ≤ 1:=rs0; omega) ⟨rh,rt⟩ (by rw [hr,thenT,hz,Q.v_of]; rfl)
   clear hr hz e3 e4
   (repeat' (first|(refine X.g ?_; cbv)|refine X.splitT ?_|refine X.splitF ?_|refine X.sp (fun hc=>?_) (fun hc=>?_)|refine X.needT ?_|refine X.drawX _ _ _ (by kernel_rfl) ?_|refine X.fork _ _ ?_ ?_|refine X.callsGA [] k1 ?_|refine X.callsGA [] k2 ?_|refine X.callsGA [] k3 ?_|refine X.callsGA [] k4 ?_|fail))
   all_goals (refine X.ret _ (X.done rfl ?_); cbv <;> (and_intros <;> first|rfl|trivial))
theorem turnBack_ok (t:Tn) (ht:t.t.sz ≤ 2 ^ 30) (r:Tn) (hr:r = backT t):AE.ACallG GG Tryz.prog 109 [] [.a t.c] [] (.a r.c):=by
 obtain ⟨f,hf⟩:∃ f,f = t.fit:=⟨_,rfl⟩
 have k1:=turnFit_ok t (by omega) f hf
 have e1:f.half = t.half:=by rw [hf,Tn.fit_half]
 have e2:f.t = Q.of t.tan:=by rw [hf,Tn.fit_t]
 have z0:=t.rs_tan
 have z1:f.t.sz ≤ 2 ^ 31:=by rw [e2,sz_of]; omega
 obtain ⟨n,hn⟩:∃ n,n = Q.of (-t.tan):=⟨_,rfl⟩
 have k2:=ratNeg_ok f.t (by omega) n (by rw [hn,e2,Q.v_of])
 have hr:r = ⟨f.half,n⟩:=by rw [hr,backT,e1,hn]
 subst hr
 obtain ⟨th,tt⟩:=t
 obtain ⟨fh,ft⟩:=f
 clear hf hn e1 e2
 refine AE.ACallG.of_walk (fn:=Tryz.f109) (c:=bodyOf Tryz.f109) GG_stays tabOK Tryz.func109 rfl rfl mixed fun A hA X=>?_
 (repeat' (first|(refine X.g ?_; cbv)|refine X.splitT ?_|refine X.splitF ?_|refine X.sp (fun hc=>?_) (fun hc=>?_)|refine X.needT ?_|refine X.callsGA [] k1 ?_|refine X.callsGA [] k2 ?_|fail))
 all_goals (refine X.ret _ (X.done rfl ?_); cbv <;> (and_intros <;> first|rfl|trivial))
theorem field_tan (x1 y1 x2 y2:Rat) (h1:y1 ≠ 0) (h2:y2 ≠ 0) (h:1 - x1 / y1 * (x2 / y2) ≠ 0):(x1 / y1 + x2 / y2) / (1 - x1 / y1 * (x2 / y2)) = (x1 * y2 + x2 * y1) / (y1 * y2 - x1 * x2):=by
 have h3:y1 * y2 - x1 * x2 ≠ 0:=by
  intro h4; apply h; grind
 grind
theorem rs_quot (N D:Int) (hD:D ≠ 0) {k:Nat} (h1:N.natAbs < 256 ^ k) (h2:D.natAbs < 256 ^ k):rs ((N:Rat) / (D:Rat)) ≤ k:=by
 rcases Int.lt_or_gt_of_ne hD with h|h
 ·have e:(N:Rat) / (D:Rat) = mkRat (-N) D.natAbs:=by
   rw [Rat.mkRat_eq_div]
   have:((D.natAbs:Nat):Rat) = -(D:Rat):=by
    have h3:((D.natAbs:Nat):Int) = -D:=by omega
    have h4:(((D.natAbs:Nat):Int):Rat) = ((-D:Int):Rat):=by rw [h3]
    rw [Rat.intCast_neg] at h4
    exact h4
   rw [this,Rat.intCast_neg]
   have hd:(D:Rat) ≠ 0:=by
    intro h5; exact hD (by exact_mod_cast h5)
   grind
  rw [e]
  exact rs_mk (by omega) (by rw [Int.natAbs_neg]; exact h1) h2
 ·have e:(N:Rat) / (D:Rat) = mkRat N D.natAbs:=by
   rw [Rat.mkRat_eq_div]
   have h3:((D.natAbs:Nat):Int) = D:=by omega
   have h4:(((D.natAbs:Nat):Int):Rat) = ((D:Int):Rat):=by rw [h3]
   have:((D.natAbs:Nat):Rat) = (D:Rat):=h4
   rw [this]
  rw [e]
  exact rs_mk (by omega) h1 h2
theorem rs_tan_add (a b:Rat) (h:1 - a * b ≠ 0):rs ((a + b) / (1 - a * b)) ≤ rs a + rs b + 1:=by
 obtain ⟨a1,a2⟩:=rs_le.1 (Nat.le_refl (rs a))
 obtain ⟨b1,b2⟩:=rs_le.1 (Nat.le_refl (rs b))
 have ea:(a.num:Rat) / ((a.den:Int):Rat) = a:=by
  have h:=Rat.mkRat_self a
  rw [Rat.mkRat_eq_div] at h
  exact h
 have eb:(b.num:Rat) / ((b.den:Int):Rat) = b:=by
  have h:=Rat.mkRat_self b
  rw [Rat.mkRat_eq_div] at h
  exact h
 have ya:((a.den:Int):Rat) ≠ 0:=by
  intro h5; exact a.den_nz (by exact_mod_cast h5)
 have yb:((b.den:Int):Rat) ≠ 0:=by
  intro h5; exact b.den_nz (by exact_mod_cast h5)
 have e:=field_tan a.num (a.den:Int) b.num (b.den:Int) ya yb (by rw [ea,eb]; exact h)
 rw [ea,eb] at e
 have eN:(a.num:Rat) * ((b.den:Int):Rat) + (b.num:Rat) * ((a.den:Int):Rat) = ((a.num * b.den + b.num * a.den:Int):Rat):=by
  rw [Rat.intCast_add,Rat.intCast_mul,Rat.intCast_mul]
 have eD:((a.den:Int):Rat) * ((b.den:Int):Rat) - (a.num:Rat) * (b.num:Rat) = ((a.den * b.den - a.num * b.num:Int):Rat):=by
  rw [Rat.intCast_sub,Rat.intCast_mul,Rat.intCast_mul]
 rw [e,eN,eD]
 have m1:=mul_lt_pow a1 b2
 have m2:=mul_lt_pow b1 a2
 have m3:=mul_lt_pow a2 b2
 have m4:=mul_lt_pow a1 b1
 rw [Nat.add_comm (rs b)] at m2
 have h4:256 ^ (rs a + rs b + 1) = 256 ^ (rs a + rs b) * 256:=Nat.pow_succ ..
 refine rs_quot _ _ ?_ ?_ ?_
 ·intro h0
  apply h
  have h6:((a.den:Int):Rat) * ((b.den:Int):Rat) - (a.num:Rat) * (b.num:Rat) = 0:=by rw [eD,h0]; rfl
  rw [← ea,← eb]
  grind
 ·have:=Int.natAbs_add_le (a.num * (b.den:Int)) (b.num * (a.den:Int))
  rw [Int.natAbs_mul,Int.natAbs_mul,Int.natAbs_natCast,Int.natAbs_natCast] at this
  omega
 ·have:=Int.natAbs_sub_le ((a.den:Int) * (b.den:Int)) (a.num * b.num)
  rw [Int.natAbs_mul,Int.natAbs_mul,Int.natAbs_natCast,Int.natAbs_natCast] at this
  omega
theorem thenT_sz (a b:Tn):(thenT a b).t.sz ≤ a.t.sz + b.t.sz + 4:=by
 have h0:(Q.of 0).sz ≤ 1:=by rw [sz_of]; exact rs0
 have ho:∀ t:Tn,(oppT t.t.v).t.sz ≤ t.t.sz + 2:=fun t=>by
  unfold oppT
  split
  ·show (Q.of 0).sz ≤ _; omega
  ·rename_i h
   show (Q.of _).sz ≤ _
   rw [sz_of]
   have:=rs_div (a:=(-1:Rat)) h
   have h1:rs (-1:Rat) ≤ 1:=rsm1
   have:=t.t.rs
   omega
 unfold thenT
 split
 ·split
  ·show (Q.of 0).sz ≤ _; omega
  ·have:=ho b; omega
 ·split
  ·have:=ho a; omega
  ·split
   ·show (Q.of 0).sz ≤ _; omega
   ·rename_i h
    show (Q.of _).sz ≤ _
    rw [sz_of]
    have b1:=a.t.rs
    have b2:=b.t.rs
    have b3:=rs_tan_add a.t.v b.t.v h
    omega
theorem frameThen_ok (a b:Fr) (ha:a.le (2 ^ 26)) (hb:b.le (2 ^ 26)) (r:Fr) (hr:r = a.then_ b):AE.ACallG GG Tryz.prog 38 [] [.a a.c,.a b.c] [] (.a r.c):=by
 obtain ⟨p,hp⟩:∃ p,p = V2.of (a.put b.at_.v):=⟨_,rfl⟩
 obtain ⟨t,ht⟩:∃ t,t = thenT a.turn b.turn:=⟨_,rfl⟩
 have k1:=framePut_ok a ha b.at_ (by have:=hb.1; omega) p hp
 have k2:=turnThen_ok a.turn b.turn (by have:=ha.2; omega) (by have:=hb.2; omega) t ht
 have hr:r = ⟨p,t⟩:=by rw [hr,Fr.then_,hp,ht]
 subst hr
 clear hp ht ha hb
 obtain ⟨⟨ax,ay⟩,ah,at_⟩:=a
 obtain ⟨⟨bx,by_⟩,bh,bt⟩:=b
 obtain ⟨px,py⟩:=p
 obtain ⟨th,tt⟩:=t
 refine AE.ACallG.of_walk (fn:=Tryz.f38) (c:=bodyOf Tryz.f38) GG_stays tabOK Tryz.func38 rfl rfl mixed fun A hA X=>?_
 (refine X.g ?_; cbv)
 refine X.drawX _ _ _ (by kernel_rfl) (X.frzB 0 _ _ (Nat.zero_le _) (X.frzB 1 _ _ (Nat.zero_le _) ?_))
 (repeat' (first|(refine X.g ?_; cbv)|refine X.splitT ?_|refine X.splitF ?_|refine X.sp (fun hc=>?_) (fun hc=>?_)|refine X.needT ?_|refine X.fork _ _ ?_ ?_|refine X.callsGA [] k1 ?_|refine X.callsGA [] k2 ?_|fail))
 all_goals (refine X.ret _ (X.done rfl ?_); cbv <;> (and_intros <;> first|rfl|trivial))
theorem frameBack_ok (a:Fr) (ha:a.le (2 ^ 24)) (r:Fr) (hr:r = a.back):AE.ACallG GG Tryz.prog 39 [] [.a a.c] [] (.a r.c):=by
 obtain ⟨t,ht⟩:∃ t,t = backT a.turn:=⟨_,rfl⟩
 obtain ⟨ha1,ha2⟩:=ha
 have zt:t.t.sz ≤ 2 ^ 25:=by rw [ht]; show (Q.of _).sz ≤ _; rw [sz_of,rs_neg]; have:=a.turn.rs_tan; omega
 obtain ⟨z,hz⟩:∃ z,z = frame0:=⟨_,rfl⟩
 have k1:=turnBack_ok a.turn (by omega) t ht
 have k2:=frameZero_ok z hz
 have h1:=a.at_.rs
 obtain ⟨d,hd⟩:∃ d,d = V2.of a.at_.v.neg:=⟨_,rfl⟩
 have zz:z.at_.sz ≤ 1:=by rw [hz]; show max (Q.of 0).sz (Q.of 0).sz ≤ 1; rw [sz_of]; have:=rs0; omega
 have e0:z.at_.v = ⟨0,0⟩:=by rw [hz]; show (⟨(Q.of 0).v,(Q.of 0).v⟩:RV) = _; rw [Q.v_of]
 have k3:=vecSub_ok z.at_ a.at_ (by omega) (by omega) d (by rw [hd,e0]; rfl)
 have zd:d.sz ≤ 2 ^ 26:=by
  rw [hd,V2.sz_of]
  show max (rs (0 - a.at_.v.x)) (rs (0 - a.at_.v.y)) ≤ _
  have g1:=rs_sub 0 a.at_.v.x
  have g2:=rs_sub 0 a.at_.v.y
  have g0:rs (0:Rat) ≤ 1:=rs0
  have g3:a.at_.v.rs = max (rs a.at_.v.x) (rs a.at_.v.y):=rfl
  omega
 obtain ⟨p,hp⟩:∃ p,p = V2.of ((a.at_.v.neg).turn t):=⟨_,rfl⟩
 have k4:=vecTurn_ok d (by omega) t (by omega) p (by rw [hp,hd,V2.v_of])
 have hr:r = ⟨p,t⟩:=by rw [hr,Fr.back,hp,ht]
 subst hr
 clear hp hd hz e0 ht
 obtain ⟨⟨ax,ay⟩,ah,at_⟩:=a
 obtain ⟨⟨zx,zy⟩,zh,zt'⟩:=z
 obtain ⟨th,tt⟩:=t
 obtain ⟨px,py⟩:=p
 obtain ⟨dx,dy⟩:=d
 refine AE.ACallG.of_walk (fn:=Tryz.f39) (c:=bodyOf Tryz.f39) GG_stays tabOK Tryz.func39 rfl rfl mixed fun A hA X=>?_
 (repeat' (first|(refine X.g ?_; cbv)|refine X.splitT ?_|refine X.splitF ?_|refine X.sp (fun hc=>?_) (fun hc=>?_)|refine X.needT ?_|refine X.callsGA [] k1 ?_|fail))
 refine X.drawX _ _ _ (by kernel_rfl) (X.frzB 0 _ _ (Nat.zero_le _) (X.frzB 2 _ _ (Nat.zero_le _) ?_))
 (repeat' (first|(refine X.g ?_; cbv)|refine X.splitT ?_|refine X.splitF ?_|refine X.sp (fun hc=>?_) (fun hc=>?_)|refine X.needT ?_|refine X.fork _ _ ?_ ?_|refine X.callsGA [] k2 ?_|refine X.callsGA [] k3 ?_|refine X.callsGA [] k4 ?_|fail))
 all_goals (refine X.ret _ (X.done rfl ?_); cbv <;> (and_intros <;> first|rfl|trivial))
end Go.Proofs.YthadehkggddgoaaGreatDoor
