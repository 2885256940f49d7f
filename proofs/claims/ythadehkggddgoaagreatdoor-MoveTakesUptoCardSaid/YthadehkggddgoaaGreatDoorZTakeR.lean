/- Contract: gantref2.Take. -/
import Derived.Test.YthadehkggddgoaaGreatDoorZTakeB
import Derived.Test.YthadehkggddgoaaGreatDoorZRState
set_option maxRecDepth 100000
set_option maxHeartbeats 0
set_option linter.unusedVariables false
set_option linter.unusedSimpArgs false
namespace Go.Proofs.YthadehkggddgoaaGreatDoor
open Go Go.Num
theorem refTakeBad_ok (w:Wk) (hw:w.Le) (s:Ss) (hs:s.Le) (n p:Int) (rd:Int) (hrd:rd = readyC w s n) (e:Int) (he:e = takeC w s n p) (hb:rd ≠ 0 ∨ p < 0 ∨ (w.parts.length:Int) ≤ p ∨ 0 ≤ (asAt s n).holds ∨ hasPart s p = true):AE.ACallG GG Tryz.prog 64 [] [.a w.c,.a s.c,.v (.int .i64 n),.v (.int .i64 p)] [] (.t [.a Ss.nil.c,.v (.int .i64 e)]):=by
 obtain ⟨st,hst⟩:∃ e,e = stateC w s:=⟨_,rfl⟩
 have k1:=refState_ok w hw s hs st hst
 rw [takeC,← hrd] at he
 rw [readyC,← hst] at hrd
 have hal:st = 0 → s.arms.length = w.arms.length:=fun h=>(stateC_opens (h ▸ hst).symm).2.2.1
 obtain ⟨na,hna⟩:∃ k:Int,k = (w.arms.length:Int):=⟨_,rfl⟩
 rw [← hna] at hrd
 have hgx:st = 0 → 0 ≤ n → n < na → ∃ i:Nat,n = i ∧ s.arms[i]? = some (asAt s n):=fun h h1 h2=>by
  have hx:=hal h
  refine ⟨n.toNat,by omega,?_⟩
  rw [asAt]
  exact getD_some (by omega) _
 obtain ⟨mv,hmv⟩:∃ b,b = movB (asAt s n):=⟨_,rfl⟩
 rw [← hmv] at hrd
 have hsa:=hs.arms
 have k2:st = 0 → 0 ≤ n → n < na → AE.ACallG GG Tryz.prog 134 [] [.a (asAt s n).c] [] (.b mv):=fun h h1 h2=>by
  obtain ⟨i,_,hg⟩:=hgx h h1 h2
  obtain ⟨_,x2,_,x4⟩:=hsa _ (List.mem_of_getElem? hg)
  exact refMoves_ok _ ⟨fun q hq=>by have:=x2 q hq; omega,x4⟩ mv hmv
 have hls:=hs.narms
 obtain ⟨hv,hhv⟩:∃ b,b = hasPart s p:=⟨_,rfl⟩
 rw [← hhv] at he hb
 rw [hasPart] at hhv
 obtain ⟨x,hx⟩:∃ x,x = asAt s n:=⟨_,rfl⟩
 rw [← hx] at he hb hgx k2
 generalize farB _ = far at he
 clear hx hw hs hst hal hsa hmv
 obtain ⟨arms,walls,parts,slots,gates,walk⟩:=w
 obtain ⟨tick,xs,fs,ps,os⟩:=s
 simp only at he hb hgx hhv hls hna
 obtain ⟨ea,hea⟩:∃ es,es = lsAv Ar.c arms:=⟨_,rfl⟩
 obtain ⟨ew,hew⟩:∃ es,es = lsAv wallC walls:=⟨_,rfl⟩
 obtain ⟨ep,hep⟩:∃ es,es = lsAv Pt.c parts:=⟨_,rfl⟩
 obtain ⟨es,hes⟩:∃ es,es = lsAv Sl.c slots:=⟨_,rfl⟩
 obtain ⟨eg,heg⟩:∃ es,es = lsAv Gt.c gates:=⟨_,rfl⟩
 obtain ⟨ex,hex⟩:∃ es,es = lsAv As.c xs:=⟨_,rfl⟩
 obtain ⟨ef,hef⟩:∃ es,es = lsAv Fr.c fs:=⟨_,rfl⟩
 obtain ⟨ev,hev⟩:∃ es,es = lsAv V2.c ps:=⟨_,rfl⟩
 obtain ⟨eo,heo⟩:∃ es,es = lsAv boolC os:=⟨_,rfl⟩
 obtain ⟨np,hnp⟩:∃ k:Int,k = (parts.length:Int):=⟨_,rfl⟩
 rw [← hnp] at he hb
 rw [Ss.nil_t]
 simp only [Wk.c,Ss.c,← hea,← hew,← hep,← hes,← heg,← hex,← hef,← hev,← heo] at k1 ⊢
 clear hew hes heg hef hev heo
 refine AE.ACallG.of_walk (fn:=Tryz.f64) (c:=bodyOf Tryz.f64) GG_stays tabOK Tryz.func64 rfl rfl mixed fun A hA X=>?_
 have lp:A.llen ep = np:=by rw [llen hA,hep,lsAv_len,hnp]
 have la:A.llen ea = na:=by rw [llen hA,hea,lsAv_len,hna]
 clear hep hnp hea hna
 by_cases h0:st = 0
 rotate_left
 ·have c0:A.cmp .neq st 0 = true:=by rw [AE.c_neq hA]; simpa using h0
  have r1:rd = st:=by rw [hrd,readyI,if_pos h0]
  have e1:st = e:=by rw [he,takeI,r1,if_pos h0]
  clear k2
  (repeat' (first|(refine X.g ?_; cbv)|refine X.splitT ?_|refine X.splitF ?_|refine X.sp (fun hc=>?_) (fun hc=>?_)|refine X.needT ?_|refine X.callsGA [] k1 ?_|fail))
  all_goals (refine X.ret _ (X.done rfl ?_); cbv <;> (and_intros <;> first|exact e1|rfl|trivial))
 subst h0
 have c0:A.cmp .neq 0 0 = false:=by rw [AE.c_neq hA]; rfl
 rw [readyI,if_neg (fun h=>h rfl)] at hrd
 by_cases h1:n < 0 ∨ na ≤ n
 ·have r1:rd = 1:=by rw [hrd,if_pos h1]
  have e1:1 = e:=by rw [he,takeI,r1,if_pos (by decide)]
  clear k2
  by_cases h2:n < 0
  ·have c1:A.cmp .lss n 0 = true:=by rw [AE.c_lss hA]; exact decide_eq_true h2
   (repeat' (first|(refine X.g ?_; cbv)|refine X.splitT ?_|refine X.splitF ?_|refine X.sp (fun hc=>?_) (fun hc=>?_)|refine X.needT ?_|refine X.callsGA [] k1 ?_|fail))
   all_goals (refine X.ret _ (X.done rfl ?_); cbv <;> (and_intros <;> first|exact e1|rfl|trivial))
  ·have c1:A.cmp .lss n 0 = false:=by rw [AE.c_lss hA]; exact decide_eq_false h2
   have c2:A.cmp .geq n (A.llen ea) = true:=by rw [AE.c_geq hA,la]; exact decide_eq_true (by omega)
   (repeat' (first|(refine X.g ?_; cbv)|refine X.splitT ?_|refine X.splitF ?_|refine X.sp (fun hc=>?_) (fun hc=>?_)|refine X.needT ?_|refine X.callsGA [] k1 ?_|fail))
   all_goals (refine X.ret _ (X.done rfl ?_); cbv <;> (and_intros <;> first|exact e1|rfl|trivial))
 have c1:A.cmp .lss n 0 = false:=by rw [AE.c_lss hA]; exact decide_eq_false (by omega)
 have c2:A.cmp .geq n (A.llen ea) = false:=by rw [AE.c_geq hA,la]; exact decide_eq_false (by omega)
 rw [if_neg h1] at hrd
 obtain ⟨i,hi,hgi⟩:=hgx rfl (by omega) (by omega)
 have hxi:ex[i]? = some x.c:=by rw [hex]; exact lsAv_get hgi
 have k2:=k2 rfl (by omega) (by omega)
 clear hgx
 obtain ⟨xq,xv,xp,xh⟩:=x
 obtain ⟨eq,heq⟩:∃ es,es = lsAv Q.c xq:=⟨_,rfl⟩
 obtain ⟨ev', hev'⟩:∃ es,es = lsAv Q.c xv:=⟨_,rfl⟩
 simp only [As.c,← heq,← hev'] at hxi k2 he hb
 clear heq hev'
 cases mv
 rotate_left
 ·have r1:rd = 7:=by rw [hrd,if_pos rfl]
  have e1:7 = e:=by rw [he,takeI,r1,if_pos (by decide)]
  (repeat' (first|(refine X.g ?_; cbv)|refine X.splitT ?_|refine X.splitF ?_|refine X.sp (fun hc=>?_) (fun hc=>?_)|refine X.needT ?_|refine X.callsGA [] k1 ?_|refine X.callsGA [] k2 ?_|refine X.idx _ _ _ _ _ _ _ _ hxi hi ?_|fail))
  all_goals (refine X.ret _ (X.done rfl ?_); cbv <;> (and_intros <;> first|exact e1|rfl|trivial))
 have r1:rd = 0:=by rw [hrd,if_neg (by decide)]
 rw [takeI,r1,if_neg (fun h=>h rfl)] at he
 rw [r1] at hb
 clear r1 hrd
 by_cases h1:p < 0 ∨ np ≤ p
 ·have e1:1 = e:=by rw [he,if_pos h1]
  by_cases h2:p < 0
  ·have c1:A.cmp .lss p 0 = true:=by rw [AE.c_lss hA]; exact decide_eq_true h2
   (repeat' (first|(refine X.g ?_; cbv)|refine X.splitT ?_|refine X.splitF ?_|refine X.sp (fun hc=>?_) (fun hc=>?_)|refine X.needT ?_|refine X.callsGA [] k1 ?_|refine X.callsGA [] k2 ?_|refine X.idx _ _ _ _ _ _ _ _ hxi hi ?_|fail))
   all_goals (refine X.ret _ (X.done rfl ?_); cbv <;> (and_intros <;> first|exact e1|rfl|trivial))
  ·have c1:A.cmp .lss p 0 = false:=by rw [AE.c_lss hA]; exact decide_eq_false h2
   have c2:A.cmp .geq p (A.llen ep) = true:=by rw [AE.c_geq hA,lp]; exact decide_eq_true (by omega)
   (repeat' (first|(refine X.g ?_; cbv)|refine X.splitT ?_|refine X.splitF ?_|refine X.sp (fun hc=>?_) (fun hc=>?_)|refine X.needT ?_|refine X.callsGA [] k1 ?_|refine X.callsGA [] k2 ?_|refine X.idx _ _ _ _ _ _ _ _ hxi hi ?_|fail))
   all_goals (refine X.ret _ (X.done rfl ?_); cbv <;> (and_intros <;> first|exact e1|rfl|trivial))
 have c1:A.cmp .lss p 0 = false:=by rw [AE.c_lss hA]; exact decide_eq_false (by omega)
 have c2:A.cmp .geq p (A.llen ep) = false:=by rw [AE.c_geq hA,lp]; exact decide_eq_false (by omega)
 rw [if_neg h1] at he
 have h3:0 ≤ xh ∨ hv = true:=by rcases hb with h|h|h|h|h; exact absurd rfl h; omega; omega; exact .inl h; exact .inr h
 have e1:7 = e:=by rw [he,if_pos h3]
 (repeat' (first|(refine X.g ?_; cbv)|refine X.splitT ?_|refine X.splitF ?_|refine X.sp (fun hc=>?_) (fun hc=>?_)|refine X.needT ?_|refine X.callsGA [] k1 ?_|refine X.callsGA [] k2 ?_|refine X.idx _ _ _ _ _ _ _ _ hxi hi ?_|fail))
 clear k1 k2 he hb
 refine rangeL0 X hA hex (by omega) (fun t=>∀ k y,k < t → xs[k]? = some y → y.holds ≠ p ∧ ((k:Int) = n → y.holds < 0)) (fun z _=>[(58,.v (.int .i64 z))]) (fun k y h=>by omega) ?_ (fun t z y hz hy hye c9 hI B hB=>?_) (fun z c9 hI B=>?_)
 ·(cbv <;> (and_intros <;> first|rfl|trivial))
 ·obtain ⟨yq,yv,yp,yh⟩:=y
  obtain ⟨eq1,heq1⟩:∃ es,es = lsAv Q.c yq:=⟨_,rfl⟩
  obtain ⟨ev1,hev1⟩:∃ es,es = lsAv Q.c yv:=⟨_,rfl⟩
  simp only [As.c,← heq1,← hev1] at hye
  clear heq1 hev1
  by_cases h5:yh = p
  ·have d1:A.cmp .eql yh p = true:=by rw [AE.c_eql hA]; exact decide_eq_true h5
   clear hB
   (repeat' (first|(refine X.g ?_; cbv)|refine X.splitT ?_|refine X.splitF ?_|refine X.sp (fun hc=>?_) (fun hc=>?_)|refine X.needT ?_|refine X.idx _ _ _ _ _ _ _ _ hye hz ?_|fail))
   all_goals (refine X.ret _ (X.done rfl ?_); cbv <;> (and_intros <;> first|exact e1|rfl|trivial))
  have d1:A.cmp .eql yh p = false:=by rw [AE.c_eql hA]; exact decide_eq_false h5
  by_cases h6:z = n
  ·have d2:A.cmp .eql z n = true:=by rw [AE.c_eql hA]; exact decide_eq_true h6
   by_cases h7:0 ≤ yh
   ·have d3:A.cmp .geq yh 0 = true:=by rw [AE.c_geq hA]; exact decide_eq_true h7
    clear hB
    (repeat' (first|(refine X.g ?_; cbv)|refine X.splitT ?_|refine X.splitF ?_|refine X.sp (fun hc=>?_) (fun hc=>?_)|refine X.needT ?_|refine X.idx _ _ _ _ _ _ _ _ hye hz ?_|fail))
    all_goals (refine X.ret _ (X.done rfl ?_); cbv <;> (and_intros <;> first|exact e1|rfl|trivial))
   ·have d3:A.cmp .geq yh 0 = false:=by rw [AE.c_geq hA]; exact decide_eq_false h7
    have hI' : ∀ k y,k < t + 1 → xs[k]? = some y → y.holds ≠ p ∧ ((k:Int) = n → y.holds < 0):=fun k y' hk hk2=>by
     by_cases h8:k < t
     ·exact hI k y' h8 hk2
     ·have:k = t:=by omega
      subst this
      rw [hy] at hk2; cases hk2
      exact ⟨h5,fun _=>by show yh < 0; omega⟩
    (repeat' (first|(refine X.g ?_; cbv)|refine X.splitT ?_|refine X.splitF ?_|refine X.sp (fun hc=>?_) (fun hc=>?_)|refine X.needT ?_|refine X.idx _ _ _ _ _ _ _ _ hye hz ?_|fail))
    all_goals (refine hB hI' _ ?_; clear hB; (cbv <;> (and_intros <;> first|rfl|trivial)))
  ·have d2:A.cmp .eql z n = false:=by rw [AE.c_eql hA]; exact decide_eq_false h6
   have hI' : ∀ k y,k < t + 1 → xs[k]? = some y → y.holds ≠ p ∧ ((k:Int) = n → y.holds < 0):=fun k y' hk hk2=>by
    by_cases h8:k < t
    ·exact hI k y' h8 hk2
    ·have:k = t:=by omega
     subst this
     rw [hy] at hk2; cases hk2
     exact ⟨h5,fun h9=>absurd (hz.trans h9) h6⟩
   (repeat' (first|(refine X.g ?_; cbv)|refine X.splitT ?_|refine X.splitF ?_|refine X.sp (fun hc=>?_) (fun hc=>?_)|refine X.needT ?_|refine X.idx _ _ _ _ _ _ _ _ hye hz ?_|fail))
   all_goals (refine hB hI' _ ?_; clear hB; (cbv <;> (and_intros <;> first|rfl|trivial)))
 ·exfalso
  rcases h3 with h|h
  ·have:=(hI i _ (List.getElem?_eq_some_iff.1 hgi).1 hgi).2 hi.symm
   have:xh < 0:=this
   omega
  ·rw [h] at hhv
   obtain ⟨y,hy,hy2⟩:=List.any_eq_true.1 hhv.symm
   obtain ⟨k,hk,hk2⟩:=List.getElem_of_mem hy
   exact (hI k y hk (by rw [List.getElem?_eq_getElem hk,hk2])).1 (of_decide_eq_true hy2)
theorem absR_swap (a b:Rat):absR (a - b) = absR (b - a):=by unfold absR; grind
theorem farB_swap (a b:RV):farB (a.sub b) = farB (b.sub a):=by
 have e1:absR (a.sub b).x = absR (b.sub a).x:=absR_swap _ _
 have e2:absR (a.sub b).y = absR (b.sub a).y:=absR_swap _ _
 unfold farB
 rw [e1,e2]
theorem farB_max (d:RV):farB d = true ↔ ¬ ((8:Int):Rat) * maxR (absR d.x) (absR d.y) ≤ ((1:Int):Rat):=by
 have h8:((8:Int):Rat) = 8:=rfl
 have h1:((1:Int):Rat) = 1:=rfl
 rw [farB,Bool.not_eq_true', Bool.and_eq_false_iff,decide_eq_false_iff_not,decide_eq_false_iff_not,h8,h1,eighth,maxR]
 generalize absR d.x = x
 generalize absR d.y = y
 grind
theorem refTakeGood_ok (w:Wk) (hw:w.Le) (s:Ss) (hs:s.Le) (hf:s.Few) (hT:Tips w s) (n p:Int) (h0:readyC w s n = 0) (h1:0 ≤ p) (h2:p < (w.parts.length:Int)) (h3:(asAt s n).holds < 0) (h4:hasPart s p = false) (e:Int) (he:e = takeC w s n p) (r:Ss) (hr:r = if e ≠ 0 then Ss.nil else s.taken w n p):AE.ACallG GG Tryz.prog 64 [] [.a w.c,.a s.c,.v (.int .i64 n),.v (.int .i64 p)] [] (.t [.a r.c,.v (.int .i64 e)]):=by
 obtain ⟨g1,g2,g3,g4⟩:=ready_in h0
 have k1:=refState_ok w hw s hs 0 g1.symm
 obtain ⟨_,_,gx,gp,_⟩:=stateC_opens g1
 obtain ⟨i,hi⟩:∃ i:Nat,n = i:=⟨n.toNat,by omega⟩
 obtain ⟨j,hj⟩:∃ i:Nat,p = i:=⟨p.toNat,by omega⟩
 have hga:w.arms[i]? = some (arAt w n):=by rw [arAt,hi,Int.toNat_natCast]; exact getD_some (by omega) _
 have hgx:s.arms[i]? = some (asAt s n):=by rw [asAt,hi,Int.toNat_natCast]; exact getD_some (by omega) _
 have km:=(fun h=>refMoves_ok (asAt s n) h false g4.symm) (by obtain ⟨_,x2,_,x4⟩:=hs.arms _ (List.mem_of_getElem? hgx); exact ⟨fun q hq=>by have:=x2 q hq; omega,x4⟩)
 have hall:∀ (k:Nat) (y:As),s.arms[k]? = some y → y.holds ≠ p:=fun k y hk hy=>by
  have:=List.any_eq_false.1 h4 y (List.mem_of_getElem? hk)
  exact this (decide_eq_true hy)
 have hls:=hs.narms
 have hgp:w.parts[j]? = some (partAt w p):=by rw [partAt,hj,Int.toNat_natCast]; exact getD_some (by omega) _
 have hgf:s.parts[j]? = some (frAt s p):=by rw [frAt,hj,Int.toNat_natCast]; exact getD_some (by omega) _
 have he:e = if farB (gapR (tipF (arAt w n) (asAt s n).q) (frAt s p) (partAt w p)) = true then 17 else 0:=by
  rw [he,takeC,h0,takeI,if_neg (fun h=>h rfl),if_neg (by omega),if_neg (by rw [h4]; intro h; rcases h with h|h; omega; cases h)]
 have hr2:r = if e ≠ 0 then Ss.nil else { s with arms:=s.arms.set i { asAt s n with holds:=p },parts:=s.parts.set j (heldF (arAt w n) (asAt s n).q (partAt w p)) }:=by
  rw [hr,Ss.taken,Ss.holding,hj]
  have e1:s.arms.getD n.toNat ⟨[],[],false,-1⟩ = asAt s n:=rfl
  rw [e1,hi]; rfl
 have tipk:=hT.tip i _ _ hga hgx
 obtain ⟨zg,zf⟩:=hT.part j _ _ hgp hgf
 obtain ⟨hd,hhd⟩:∃ f,f = heldF (arAt w n) (asAt s n).q (partAt w p):=⟨_,rfl⟩
 rw [← hhd] at hr2
 have kcar:=refHold_ok w n i hi _ hga { asAt s n with holds:=p } j hj _ hgp tipk zg hd hhd
 obtain ⟨a,ha⟩:∃ x,x = arAt w n:=⟨_,rfl⟩
 obtain ⟨x,hx⟩:∃ x,x = asAt s n:=⟨_,rfl⟩
 obtain ⟨pt,hpt⟩:∃ x,x = partAt w p:=⟨_,rfl⟩
 obtain ⟨f,hf'⟩:∃ x,x = frAt s p:=⟨_,rfl⟩
 rw [← ha] at hga he tipk
 rw [← hx] at hgx he tipk hr2 kcar h3 km
 rw [← hpt] at hgp he zg
 rw [← hf'] at hgf he zf
 clear ha hx hpt hf' hhd hT h0 h1 h2 h4 gp g1 g4 hr
 obtain ⟨t,ht⟩:∃ t,t = tipF a x.q:=⟨_,rfl⟩
 rw [← ht] at he
 have kT:=tipk.tip (lsAv Q.c x.q) rfl t ht
 have zt:t.le (2 ^ 26):=by rw [ht]; exact tipk.tip_le
 obtain ⟨pv,hpv⟩:∃ v,v = V2.of (f.put pt.grasp.at_.v):=⟨_,rfl⟩
 have kP:=framePut_ok f ⟨by have:=zf.1; omega,by have:=zf.2; omega⟩ pt.grasp.at_ (by have:=zg.1; omega) pv hpv
 have r1:=put_rs f pt.grasp.at_.v
 have r2:=pt.grasp.at_.rs
 have zpv:pv.sz ≤ 2 ^ 30:=by rw [hpv,V2.sz_of]; have:=zf.1; have:=zf.2; have:=zg.1; omega
 obtain ⟨d,hd1⟩:∃ v,v = V2.of (pv.v.sub t.at_.v):=⟨_,rfl⟩
 have kS:=vecSub_ok pv t.at_ (by omega) (by have:=zt.1; omega) d hd1
 have r3:=RV.rs_sub pv.v t.at_.v
 have r4:=t.at_.rs
 have r5:=pv.rs
 have zd:d.sz ≤ 2 ^ 31:=by rw [hd1,V2.sz_of]; have:=zt.1; omega
 have hdv:farB (gapR t f pt) = farB d.v:=by rw [hd1,V2.v_of,gapR,hpv,V2.v_of]; exact farB_swap _ _
 rw [hdv] at he
 clear r1 r2 r3 r4 r5 hd1 hpv hdv ht zt zpv zf zg
 simp only [V2.sz] at zd
 obtain ⟨o8,ho8⟩:∃ q,q = Q.of ((8:Int):Rat):=⟨_,rfl⟩
 obtain ⟨o1,ho1⟩:∃ q,q = Q.of ((1:Int):Rat):=⟨_,rfl⟩
 have k8:=ratOf_ok 8 (by decide) (by decide) o8 ho8
 have kOne:=ratOf_ok 1 (by decide) (by decide) o1 ho1
 obtain ⟨ax,hax⟩:∃ q,q = Q.of (absR d.x.v):=⟨_,rfl⟩
 obtain ⟨ay,hay⟩:∃ q,q = Q.of (absR d.y.v):=⟨_,rfl⟩
 have kX:=ratAbs_ok d.x (by omega) ax hax
 have kY:=ratAbs_ok d.y (by omega) ay hay
 have zx:ax.sz ≤ 2 ^ 31 + 1:=by rw [hax,sz_of,rs_abs]; have:=d.x.rs; omega
 have zy:ay.sz ≤ 2 ^ 31 + 1:=by rw [hay,sz_of,rs_abs]; have:=d.y.rs; omega
 obtain ⟨m,hm⟩:∃ q,q = Q.of (maxR ax.v ay.v):=⟨_,rfl⟩
 have kMx:=ratMax_ok ax ay (by omega) (by omega) m hm
 have zm:m.sz ≤ 2 ^ 31 + 4:=by
  rw [hm,sz_of,maxR]
  have:=ax.rs; have:=ay.rs
  split <;> omega
 have z8:o8.sz ≤ 1:=by rw [ho8,sz_of]; exact rs_le.2 ⟨by decide,by decide⟩
 have z1:o1.sz ≤ 1:=by rw [ho1,sz_of]; exact rs_le.2 ⟨by decide,by decide⟩
 obtain ⟨e8,he8⟩:∃ q,q = Q.of (o8.v * m.v):=⟨_,rfl⟩
 have kMu:=ratMul_ok o8 m (by omega) (by omega) e8 he8
 have ze:e8.sz ≤ 2 ^ 32:=by
  rw [he8,sz_of]
  have:=rs_mul o8.v m.v; have:=o8.rs; have:=m.rs
  omega
 obtain ⟨c,hc⟩:∃ c,c = cmpR e8.v o1.v:=⟨_,rfl⟩
 have kC:=ratCmp_ok e8 o1 (by omega) (by omega) c hc
 have he2:e = if 0 < c then 17 else 0:=by
  rw [he]
  have q3:farB d.v = true ↔ 0 < c:=by
   rw [hc,cmpR_gt,he8,ho1,ho8,hm,hax,hay,Q.v_of,Q.v_of,Q.v_of,Q.v_of,Q.v_of,Q.v_of]
   exact farB_max _
  by_cases h:farB d.v = true
  ·rw [if_pos h,if_pos (q3.1 h)]
  ·rw [if_neg h,if_neg fun g=>h (q3.2 g)]
 clear zd zx zy zm z8 z1 ze ho8 ho1 hm he8 hax hay hc hw hs he
 obtain ⟨ex,hex⟩:∃ es,es = lsAv As.c s.arms:=⟨_,rfl⟩
 obtain ⟨ef,hef⟩:∃ es,es = lsAv Fr.c s.parts:=⟨_,rfl⟩
 obtain ⟨ev,hev⟩:∃ es,es = lsAv V2.c s.people:=⟨_,rfl⟩
 obtain ⟨eo,heo⟩:∃ es,es = lsAv boolC s.opens:=⟨_,rfl⟩
 have k2:=refCopied_ok s.tick ex ef ev eo (by rw [hex,lsAv_len]; exact hf.arms.1) (by rw [hef,lsAv_len]; exact hf.parts) (by rw [hev,lsAv_len]; exact hf.people) (by rw [heo,lsAv_len]; exact hf.opens)
 obtain ⟨xq,xv,xp,xh⟩:=x
 simp only at hr2 h3 kT kcar
 obtain ⟨ex2,hex2⟩:∃ es,es = lsAv As.c (s.arms.set i ⟨xq,xv,xp,p⟩):=⟨_,rfl⟩
 obtain ⟨ef2,hef2⟩:∃ es,es = lsAv Fr.c (s.parts.set j hd):=⟨_,rfl⟩
 have hxe:ex[i]? = some (As.c ⟨xq,xv,xp,xh⟩):=by rw [hex]; exact lsAv_get hgx
 have hset:ex.set i (As.c ⟨xq,xv,xp,p⟩) = ex2:=by rw [hex,hex2,← lsAv_set]
 have hsetf:ef.set j hd.c = ef2:=by rw [hef,hef2,← lsAv_set]
 have hxe2:ex2[i]? = some (As.c ⟨xq,xv,xp,p⟩):=by
  rw [← hset,List.getElem?_set_self (List.getElem?_eq_some_iff.1 hxe).1]
 have hfe:ef[j]? = some f.c:=by rw [hef]; exact lsAv_get hgf
 obtain ⟨rt,hrt⟩:∃ t,t = r.tick:=⟨_,rfl⟩
 obtain ⟨rx,hrx⟩:∃ es,es = lsAv As.c r.arms:=⟨_,rfl⟩
 obtain ⟨rf,hrf⟩:∃ es,es = lsAv Fr.c r.parts:=⟨_,rfl⟩
 obtain ⟨rv,hrv⟩:∃ es,es = lsAv V2.c r.people:=⟨_,rfl⟩
 obtain ⟨ro,hro⟩:∃ es,es = lsAv boolC r.opens:=⟨_,rfl⟩
 have hrc:e = 0 → rt = s.tick ∧ rx = ex2 ∧ rf = ef2 ∧ rv = ev ∧ ro = eo:=fun h=>by
  rw [if_neg (by rw [h]; decide)] at hr2
  rw [hrt,hrx,hrf,hrv,hro,hr2,hex2,hef2,hev,heo]; exact ⟨rfl,rfl,rfl,rfl,rfl⟩
 have hrb:e = 17 → rt = 0 ∧ rx = [] ∧ rf = [] ∧ rv = [] ∧ ro = []:=fun h=>by
  rw [if_pos (by rw [h]; decide)] at hr2
  rw [hrt,hrx,hrf,hrv,hro,hr2]; exact ⟨rfl,lsAv_nil _,lsAv_nil _,lsAv_nil _,lsAv_nil _⟩
 have ati:AE.AtR i ex:=⟨(List.getElem?_eq_some_iff.1 hxe).1⟩
 have atj:AE.AtR j ef:=⟨(List.getElem?_eq_some_iff.1 hfe).1⟩
 obtain ⟨eq,heq⟩:∃ es,es = lsAv Q.c xq:=⟨_,rfl⟩
 obtain ⟨ew', hew'⟩:∃ es,es = lsAv Q.c xv:=⟨_,rfl⟩
 simp only [As.c,← heq,← hew'] at hxe hset hxe2 kT kcar km
 clear hr2 hf heq hew' hex2 hef2 tipk hgf
 obtain ⟨arms,walls,parts,slots,gates,walk⟩:=w
 obtain ⟨tick,xs,fs,ps,os⟩:=s
 simp only at hex hef hev heo hrc hga hgp hgx hall hls gx g3
 obtain ⟨ea,hea⟩:∃ es,es = lsAv Ar.c arms:=⟨_,rfl⟩
 obtain ⟨ew,hew⟩:∃ es,es = lsAv wallC walls:=⟨_,rfl⟩
 obtain ⟨ep,hep⟩:∃ es,es = lsAv Pt.c parts:=⟨_,rfl⟩
 obtain ⟨es,hes⟩:∃ es,es = lsAv Sl.c slots:=⟨_,rfl⟩
 obtain ⟨eg,heg⟩:∃ es,es = lsAv Gt.c gates:=⟨_,rfl⟩
 have hae:ea[i]? = some a.c:=by rw [hea]; exact lsAv_get hga
 have hpe:ep[j]? = some pt.c:=by rw [hep]; exact lsAv_get hgp
 simp only [Ss.c,Wk.c,← hea,← hew,← hep,← hes,← heg,← hex,← hef,← hev,← heo,← hrt,← hrx,← hrf,← hrv,← hro] at k1 k2 kcar ⊢
 clear hrt hrx hrf hrv hro
 obtain ⟨np,hnp⟩:∃ k:Int,k = (ep.length:Int):=⟨_,rfl⟩
 have hjp:p < np:=by
  have:=(List.getElem?_eq_some_iff.1 hpe).1
  omega
 obtain ⟨pn,psh,pg⟩:=pt
 obtain ⟨esh,hesh⟩:∃ es,es = lsAv V2.c psh:=⟨_,rfl⟩
 simp only [Pt.c,← hesh] at hpe kP
 obtain ⟨am,ab,al⟩:=a
 obtain ⟨el,hel⟩:∃ es,es = lsAv Lk.c al:=⟨_,rfl⟩
 simp only [Ar.c,← hel] at hae kT
 obtain ⟨na,hna⟩:∃ k:Int,k = (ea.length:Int):=⟨_,rfl⟩
 have hin:n < na:=by rw [hna,hea,lsAv_len]; exact g3
 clear hef hev heo hea hew hep hes heg hga hgp hesh hel gx g3
 obtain ⟨⟨tx,ty⟩,th,tt⟩:=t
 obtain ⟨⟨fx,fy⟩,fh,ft⟩:=f
 obtain ⟨⟨ux,uy⟩,uh,ut⟩:=hd
 obtain ⟨⟨gx,gy⟩,gh,gt⟩:=pg
 obtain ⟨px,py⟩:=pv
 obtain ⟨dx,dy⟩:=d
 simp only at kX kY
 refine AE.ACallG.of_walk (fn:=Tryz.f64) (c:=bodyOf Tryz.f64) GG_stays tabOK Tryz.func64 rfl rfl mixed fun A hA X=>?_
 have lp:A.llen ep = np:=by rw [llen hA,hnp]
 have la:A.llen ea = na:=by rw [llen hA,hna]
 have c0:A.cmp .neq 0 0 = false:=by rw [AE.c_neq hA]; rfl
 have a1:A.cmp .lss n 0 = false:=by rw [AE.c_lss hA]; exact decide_eq_false (by omega)
 have a2:A.cmp .geq n (A.llen ea) = false:=by rw [AE.c_geq hA,la]; exact decide_eq_false (by omega)
 have b1:A.cmp .lss p 0 = false:=by rw [AE.c_lss hA]; exact decide_eq_false (by omega)
 have b2:A.cmp .geq p (A.llen ep) = false:=by rw [AE.c_geq hA,lp]; exact decide_eq_false (by omega)
 clear hnp hjp lp la hna
 (refine X.g ?_; cbv)
 refine X.callsGA [] k1 ?_
 refine X.frzB 0 _ _ (Nat.zero_le _) (X.frzB 1 _ _ (Nat.zero_le _) ?_)
 (repeat' (first|(refine X.g ?_; cbv)|refine X.splitT ?_|refine X.splitF ?_|refine X.sp (fun hc=>?_) (fun hc=>?_)|refine X.needT ?_|refine X.idx _ _ _ _ _ _ _ _ hxe hi ?_|refine X.callsGA [] km ?_|fail))
 refine rangeL0 X hA hex (by omega) (fun _=>True) (fun z _=>[(58,.v (.int .i64 z))]) trivial ?_ (fun t z y hz hy hye c9 hI B hB=>?_) (fun z c9 hI B=>?_)
 ·(cbv <;> (and_intros <;> first|rfl|trivial))
 ·have h9:=hall t y hy
  have h10:(t:Int) = n → y.holds < 0:=fun h=>by
   have:t = i:=Int.ofNat.inj (h.trans hi)
   subst this
   rw [hgx] at hy; cases hy; exact h3
  obtain ⟨yq,yv,yp,yh⟩:=y
  obtain ⟨eq1,heq1⟩:∃ es,es = lsAv Q.c yq:=⟨_,rfl⟩
  obtain ⟨ev1,hev1⟩:∃ es,es = lsAv Q.c yv:=⟨_,rfl⟩
  simp only [As.c,← heq1,← hev1] at hye h9 h10
  clear heq1 hev1 kT kP kS kX kY kMx kMu kC k2 kcar k8 kOne
  have d1:A.cmp .eql yh p = false:=by rw [AE.c_eql hA]; exact decide_eq_false h9
  by_cases h6:z = n
  ·have d2:A.cmp .eql z n = true:=by rw [AE.c_eql hA]; exact decide_eq_true h6
   have d3:A.cmp .geq yh 0 = false:=by rw [AE.c_geq hA]; exact decide_eq_false (by have:=h10 (by omega); omega)
   (repeat' (first|(refine X.g ?_; cbv)|refine X.splitT ?_|refine X.splitF ?_|refine X.sp (fun hc=>?_) (fun hc=>?_)|refine X.needT ?_|refine X.idx _ _ _ _ _ _ _ _ hye hz ?_|fail))
   all_goals (refine hB trivial _ ?_; clear hB; (cbv <;> (and_intros <;> first|rfl|trivial)))
  ·have d2:A.cmp .eql z n = false:=by rw [AE.c_eql hA]; exact decide_eq_false h6
   (repeat' (first|(refine X.g ?_; cbv)|refine X.splitT ?_|refine X.splitF ?_|refine X.sp (fun hc=>?_) (fun hc=>?_)|refine X.needT ?_|refine X.idx _ _ _ _ _ _ _ _ hye hz ?_|fail))
   all_goals (refine hB trivial _ ?_; clear hB; (cbv <;> (and_intros <;> first|rfl|trivial)))
 clear hex hgx hall km k1
 (refine X.g ?_; cbv)
 refine X.splitF ?_
 (refine X.g ?_; cbv)
 apply shareG X
 ·intro hs
  refine X.drawX _ _ _ (by kernel_rfl) ?_
  (repeat' (first|(refine X.g ?_; cbv)|refine X.splitT ?_|refine X.splitF ?_|refine X.sp (fun hc=>?_) (fun hc=>?_)|refine X.needT ?_|refine X.fork _ _ ?_ ?_|refine X.idx _ _ _ _ _ _ _ _ hxe hi ?_|refine X.idx _ _ _ _ _ _ _ _ hae hi ?_|refine X.callsGA [] kT ?_|fail))
  all_goals exact hs
 apply shareG X
 ·intro hs
  refine X.drawX _ _ _ (by kernel_rfl) (X.frzB 3 _ _ (Nat.zero_le _) ?_)
  (repeat' (first|(refine X.g ?_; cbv)|refine X.splitT ?_|refine X.splitF ?_|refine X.sp (fun hc=>?_) (fun hc=>?_)|refine X.needT ?_|refine X.fork _ _ ?_ ?_|refine X.idx _ _ _ _ _ _ _ _ hfe hj ?_|refine X.idx _ _ _ _ _ _ _ _ hpe hj ?_|refine X.callsGA [] kP ?_|refine X.callsGA [] kS ?_|fail))
  all_goals exact hs
 clear kT kP kS
 apply shareG X
 ·intro hs
  refine X.drawX _ _ _ (by kernel_rfl) (X.frzB 4 _ _ (Nat.zero_le _) ?_)
  (repeat' (first|(refine X.g ?_; cbv)|refine X.splitT ?_|refine X.splitF ?_|refine X.sp (fun hc=>?_) (fun hc=>?_)|refine X.needT ?_|refine X.fork _ _ ?_ ?_|refine X.callsGA [] k8 ?_|refine X.callsGA [] kX ?_|refine X.callsGA [] kY ?_|refine X.callsGA [] kMx ?_|refine X.callsGA [] kMu ?_|fail))
  all_goals exact hs
 clear k8 kX kY kMx kMu
 by_cases h5:0 < c
 ·have e1:e = 17:=by rw [he2,if_pos h5]
  obtain ⟨q1,q2,q3,q4,q5⟩:=hrb e1
  subst e1 q1 q2 q3 q4 q5
  clear k2 kcar hrc hrb he2
  have d1:A.cmp .gtr c 0 = true:=by rw [AE.c_gtr hA]; exact decide_eq_true h5
  refine X.drawX _ _ _ (by kernel_rfl) (X.frzB 5 _ _ (Nat.zero_le _) ?_)
  (repeat' (first|(refine X.g ?_; cbv)|refine X.splitT ?_|refine X.splitF ?_|refine X.sp (fun hc=>?_) (fun hc=>?_)|refine X.needT ?_|refine X.fork _ _ ?_ ?_|refine X.callsGA [] kOne ?_|refine X.callsGA [] kC ?_|fail))
  all_goals (refine X.ret _ (X.done rfl ?_); cbv <;> (and_intros <;> first|rfl|trivial))
 have e1:e = 0:=by rw [he2,if_neg h5]
 obtain ⟨q1,q2,q3,q4,q5⟩:=hrc e1
 have d1:A.cmp .gtr c 0 = false:=by rw [AE.c_gtr hA]; exact decide_eq_false h5
 clear hrb hrc he2
 subst e1 q1 q2 q3 q4 q5
 apply shareG X
 ·intro hs
  refine X.drawX _ _ _ (by kernel_rfl) (X.frzB 5 _ _ (Nat.zero_le _) ?_)
  (repeat' (first|(refine X.g ?_; cbv)|refine X.splitT ?_|refine X.splitF ?_|refine X.sp (fun hc=>?_) (fun hc=>?_)|refine X.needT ?_|refine X.fork _ _ ?_ ?_|refine X.callsGA [] kOne ?_|refine X.callsGA [] kC ?_|fail))
  all_goals exact hs
 clear kOne kC
 have hset2:=hset
 cbv at hset2
 have hsetA:A.lset ef j (Fr.c ⟨⟨ux,uy⟩,uh,ut⟩) = rf:=by rw [lset_std hA]; exact hsetf
 have hsetB:=hsetA
 cbv at hsetB
 (repeat' (first|(refine X.g ?_; cbv)|refine X.splitT ?_|refine X.splitF ?_|refine X.sp (fun hc=>?_) (fun hc=>?_)|refine X.needT ?_|refine X.callsA [] k2 ?_|refine X.idxA i ati hi ?_|refine X.stq _ _ _ _ _ _ _ _ _ _ hxe ?_|fail))
 rw [hset2]
 refine X.drawX _ _ _ (by kernel_rfl) (X.frz 8 _ _ ?_)
 (repeat' (first|(refine X.g ?_; cbv)|refine X.splitT ?_|refine X.splitF ?_|refine X.sp (fun hc=>?_) (fun hc=>?_)|refine X.needT ?_|refine X.fork _ _ ?_ ?_|refine X.idx _ _ _ _ _ _ _ _ hxe2 hi ?_|refine X.callsGA [] kcar ?_|refine X.idxA j atj hj ?_|refine X.need _ _ _ atj ?_|fail))
 all_goals (refine X.ret _ ?_; refine X.frz 9 _ _ ?_; refine X.frz 10 _ _ ?_; refine X.frz 11 _ _ ?_; refine X.done rfl ?_; cbv <;> (and_intros <;> first|exact hsetA|exact hsetB|rfl|trivial))
end Go.Proofs.YthadehkggddgoaaGreatDoor
