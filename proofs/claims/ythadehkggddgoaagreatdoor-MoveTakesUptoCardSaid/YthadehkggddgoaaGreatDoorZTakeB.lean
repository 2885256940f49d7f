/- Contracts: rat.Make of an eighth; move.Take. -/
import Derived.Test.YthadehkggddgoaaGreatDoorZTake
import Derived.Test.YthadehkggddgoaaGreatDoorZLawMG
set_option maxRecDepth 100000
set_option maxHeartbeats 0
set_option linter.unusedVariables false
set_option linter.unusedSimpArgs false
namespace Go.Proofs.YthadehkggddgoaaGreatDoor
open Go Go.Num
def eighth:Rat:=1 / 8
theorem rs_eighth:rs eighth ≤ 1:=rs_le.2 ⟨by decide +kernel,by decide +kernel⟩
theorem ratMake8_ok (r:Q) (hr:r = Q.of eighth):AE.ACallG GG Tryz.prog 114 [] [.v (.int .i64 1),.v (.int .i64 8)] [] (.t [.a r.c,.v (.int .i64 0)]):=by
 obtain ⟨a,ha⟩:∃ q,q = Q.of ((1:Int):Rat):=⟨_,rfl⟩
 obtain ⟨b,hb⟩:∃ q,q = Q.of ((8:Int):Rat):=⟨_,rfl⟩
 have k1:=ratOf_ok 1 (by decide) (by decide) a ha
 have k2:=ratOf_ok 8 (by decide) (by decide) b hb
 have ra:rs ((1:Int):Rat) ≤ 1:=rs_le.2 ⟨by decide,by decide⟩
 have rb:rs ((8:Int):Rat) ≤ 1:=rs_le.2 ⟨by decide,by decide⟩
 have hn:b.v ≠ 0:=by rw [hb,Q.v_of]; decide
 have k3:=ratDiv_ok a b (by rw [ha,sz_of]; omega) (by rw [hb,sz_of]; omega) r 0 (by rw [hr,if_neg hn,ha,hb,Q.v_of,Q.v_of]; rfl) (by rw [if_neg hn])
 clear ha hb hr hn ra rb
 refine AE.ACallG.of_walk (fn:=Tryz.f114) (c:=bodyOf Tryz.f114) GG_stays tabOK Tryz.func114 rfl rfl mixed fun A hA X=>?_
 (repeat' (first|(refine X.g ?_; cbv)|refine X.splitT ?_|refine X.splitF ?_|refine X.sp (fun hc=>?_) (fun hc=>?_)|refine X.needT ?_|refine X.callsGA [] k1 ?_|refine X.callsGA [] k2 ?_|refine X.callsGA [] k3 ?_|fail))
 all_goals (refine X.ret _ (X.done rfl ?_); cbv <;> (and_intros <;> first|rfl|trivial))
theorem take1_ok (y:As) (p:Int) (r:Bool) (hr:r = decide (y.holds = p)):AE.ACallG GG Tryz.prog 113 [] [.a y.c,.ip [.v (.int .i64 p)]] [] (.b r):=by
 obtain ⟨q,v,pw,h⟩:=y
 obtain ⟨eq,heq⟩:∃ es,es = lsAv Q.c q:=⟨_,rfl⟩
 obtain ⟨ev,hev⟩:∃ es,es = lsAv Q.c v:=⟨_,rfl⟩
 simp only [As.c,← heq,← hev]
 refine AE.ACallG.of_walk (fn:=Tryz.f113) (c:=bodyOf Tryz.f113) GG_stays tabOK Tryz.func113 rfl rfl mixed fun A hA X=>?_
 have e1:A.cmp .eql h p = r:=by rw [AE.c_eql hA,hr]
 (repeat' (first|(refine X.g ?_; cbv)|refine X.splitT ?_|refine X.splitF ?_|refine X.sp (fun hc=>?_) (fun hc=>?_)|refine X.needT ?_|refine X.drawX _ _ _ (by kernel_rfl) (X.frzB 0 _ _ (Nat.zero_le _) ?_)|refine X.fork _ _ ?_ ?_|fail))
 all_goals (refine X.ret _ (X.done rfl ?_); cbv <;> (and_intros <;> first|exact e1|rfl|trivial))
theorem idxAsT_ok (p:Int) (l:List As) (hl:l.length < 2 ^ 40) (es:List (List AE.AV)) (hes:es = lsAv As.c l) (f:As → Bool) (each:∀ y ∈ l,∀ b,b = f y → AE.ACallG GG Tryz.prog 113 [] [.a (As.c y),.ip [.v (.int .i64 p)]] [] (.b b)) (r:Int) (hr:r = idxB f l):AE.ACallG GG Tryz.prog 127 [] [.l 4 es,.f 113 [.ip [.v (.int .i64 p)]]] [] (.v (.int .i64 r)):=by
 refine AE.ACallG.of_walk (fn:=Tryz.f127) (c:=bodyOf Tryz.f127) GG_stays tabOK Tryz.func127 rfl rfl mixed fun A hA X=>?_
 (repeat' (first|(refine X.g ?_; cbv)|refine X.splitT ?_|refine X.splitF ?_|refine X.sp (fun hc=>?_) (fun hc=>?_)|refine X.needT ?_|fail))
 refine rangeL0 X hA hes (by omega) (fun i=>∀ x ∈ l.take i,f x = false) (fun z _=>[(8,.v (.int .i64 z))]) (fun x h=>by simp at h) ?_ (fun i z y hz hy he c3 hI B hB=>?_) (fun z c3 hI B=>?_)
 ·(cbv <;> (and_intros <;> first|rfl|trivial))
 ·obtain ⟨b,hb⟩:∃ b,b = f y:=⟨_,rfl⟩
  have k1:=each y (List.mem_of_getElem? hy) b hb
  clear each
  cases hb' : b
  ·have hI' := take_all hI hy (by rw [← hb,hb'])
   (repeat' (first|(refine X.g ?_; cbv)|refine X.splitT ?_|refine X.splitF ?_|refine X.sp (fun hc=>?_) (fun hc=>?_)|refine X.needT ?_|refine X.idx _ _ _ _ _ _ _ _ he hz ?_|refine X.callsGA [] k1 ?_|fail))
   all_goals (refine hB hI' _ ?_; clear hB; (cbv <;> (and_intros <;> first|rfl|trivial)))
  ·have e1:z = r:=by rw [hr,idx_hit hI hy (by rw [← hb,hb']),hz]
   clear hB
   (repeat' (first|(refine X.g ?_; cbv)|refine X.splitT ?_|refine X.splitF ?_|refine X.sp (fun hc=>?_) (fun hc=>?_)|refine X.needT ?_|refine X.idx _ _ _ _ _ _ _ _ he hz ?_|refine X.callsGA [] k1 ?_|fail))
   all_goals (refine X.ret _ (X.done rfl ?_); cbv <;> (and_intros <;> first|exact e1|rfl|trivial))
 ·rw [List.take_length] at hI
  have e1:-1 = r:=by rw [hr,idx_none hI]
  (repeat' (first|(refine X.g ?_; cbv)|refine X.splitT ?_|refine X.splitF ?_|refine X.sp (fun hc=>?_) (fun hc=>?_)|refine X.needT ?_|fail))
  all_goals (refine X.ret _ (X.done rfl ?_); cbv <;> (and_intros <;> first|exact e1|rfl|trivial))
theorem hasAsT_ok (p:Int) (l:List As) (hl:l.length < 2 ^ 40) (es:List (List AE.AV)) (hes:es = lsAv As.c l) (f:As → Bool) (each:∀ y ∈ l,∀ b,b = f y → AE.ACallG GG Tryz.prog 113 [] [.a (As.c y),.ip [.v (.int .i64 p)]] [] (.b b)) (r:Bool) (hr:r = l.any f):AE.ACallG GG Tryz.prog 54 [] [.l 4 es,.f 113 [.ip [.v (.int .i64 p)]]] [] (.b r):=by
 refine AE.ACallG.of_walk (fn:=Tryz.f54) (c:=bodyOf Tryz.f54) GG_stays tabOK Tryz.func54 rfl rfl mixed fun A hA X=>?_
 obtain ⟨z,hz⟩:∃ z,z = idxB f l:=⟨_,rfl⟩
 have k1:=idxAsT_ok p l hl es hes f each z hz
 clear each
 have e1:A.cmp .geq z 0 = r:=by rw [AE.c_geq hA,hr,hz,idx_ge]
 (repeat' (first|(refine X.g ?_; cbv)|refine X.splitT ?_|refine X.splitF ?_|refine X.sp (fun hc=>?_) (fun hc=>?_)|refine X.callsGA [] k1 ?_|refine X.needT ?_|fail))
 all_goals (refine X.ret _ (X.done rfl ?_); cbv <;> (and_intros <;> first|exact e1|rfl|trivial))
def arAt (w:Wk) (n:Int):Ar:=w.arms.getD n.toNat ⟨⟨⟨[]⟩⟩,⟨⟨Q.nil,Q.nil⟩,⟨false,Q.nil⟩⟩,[]⟩
structure Tips (w:Wk) (s:Ss):Prop where
 tip:∀ (i:Nat) a x,w.arms[i]? = some a → s.arms[i]? = some x → TipOK a x.q
 part:∀ (i:Nat) p f,w.parts[i]? = some p → s.parts[i]? = some f → p.grasp.le (2 ^ 20) ∧ f.le (2 ^ 20)
def gapR (t f:Fr) (p:Pt):RV:=t.at_.v.sub (f.put p.grasp.at_.v)
def farB (d:RV):Bool:=!(decide (absR d.x ≤ eighth) && decide (absR d.y ≤ eighth))
def takeI (rd p np hd:Int) (has far:Bool):Int:=if rd ≠ 0 then rd else if p < 0 ∨ np ≤ p then 1 else if 0 ≤ hd ∨ has = true then 7 else if far = true then 17 else 0
def hasPart (s:Ss) (p:Int):Bool:=s.arms.any fun x=>decide (x.holds = p)
def takeC (w:Wk) (s:Ss) (n p:Int):Int:=takeI (readyC w s n) p w.parts.length (asAt s n).holds (hasPart s p) (farB (gapR (tipF (arAt w n) (asAt s n).q) (frAt s p) (partAt w p)))
def Ss.taken (w:Wk) (s:Ss) (n p:Int):Ss:={ s.holding n.toNat p with parts:=s.parts.set p.toNat (heldF (arAt w n) (asAt s n).q (partAt w p)) }
theorem moveTakeBad_ok (w:Wk) (hw:w.Le) (s:Ss) (hs:s.Le) (n p:Int) (rd:Int) (hrd:rd = readyC w s n) (e:Int) (he:e = takeC w s n p) (hb:rd ≠ 0 ∨ p < 0 ∨ (w.parts.length:Int) ≤ p ∨ 0 ≤ (asAt s n).holds ∨ hasPart s p = true):AE.ACallG GG Tryz.prog 40 [] [.a w.c,.a s.c,.v (.int .i64 n),.v (.int .i64 p)] [] (.t [.a Ss.nil.c,.v (.int .i64 e)]):=by
 have k1:=moveReady_ok w hw s hs n rd hrd
 rw [takeC,← hrd] at he
 have hin:rd = 0 → ∃ i:Nat,n = i ∧ s.arms[i]? = some (asAt s n):=fun h=>by
  obtain ⟨g1,g2,g3,_⟩:=ready_in (hrd.symm.trans h)
  have hx:=(stateC_opens g1).2.2.1
  refine ⟨n.toNat,by omega,?_⟩
  rw [asAt]
  exact getD_some (by omega) _
 clear hrd
 obtain ⟨hv,hhv⟩:∃ b,b = hasPart s p:=⟨_,rfl⟩
 have k2:=hasAsT_ok p s.arms hs.narms (lsAv As.c s.arms) rfl (fun x=>decide (x.holds = p)) (fun y _ b hb=>take1_ok y p b hb) hv hhv
 obtain ⟨x,hx⟩:∃ x,x = asAt s n:=⟨_,rfl⟩
 rw [← hx] at he hb hin
 rw [← hhv] at he hb
 generalize farB _ = far at he
 clear hx hhv hw hs
 obtain ⟨arms,walls,parts,slots,gates,walk⟩:=w
 obtain ⟨tick,xs,fs,ps,os⟩:=s
 simp only at he hb hin
 obtain ⟨ea,hea⟩:∃ es,es = lsAv Ar.c arms:=⟨_,rfl⟩
 obtain ⟨ew,hew⟩:∃ es,es = lsAv wallC walls:=⟨_,rfl⟩
 obtain ⟨ep,hep⟩:∃ es,es = lsAv Pt.c parts:=⟨_,rfl⟩
 obtain ⟨es,hes⟩:∃ es,es = lsAv Sl.c slots:=⟨_,rfl⟩
 obtain ⟨eg,heg⟩:∃ es,es = lsAv Gt.c gates:=⟨_,rfl⟩
 obtain ⟨ex,hex⟩:∃ es,es = lsAv As.c xs:=⟨_,rfl⟩
 obtain ⟨ef,hef⟩:∃ es,es = lsAv Fr.c fs:=⟨_,rfl⟩
 obtain ⟨ev,hev⟩:∃ es,es = lsAv V2.c ps:=⟨_,rfl⟩
 obtain ⟨eo,heo⟩:∃ es,es = lsAv boolC os:=⟨_,rfl⟩
 obtain ⟨np,hnp⟩:∃ k:Int,k = (parts.length:Int):=⟨_,rfl⟩
 rw [← hnp] at he hb
 have hxe:rd = 0 → ∃ i:Nat,n = i ∧ ex[i]? = some x.c:=fun h=>by
  obtain ⟨i,h1,h2⟩:=hin h
  exact ⟨i,h1,by rw [hex]; exact lsAv_get h2⟩
 clear hin
 rw [Ss.nil_t]
 simp only [Wk.c,Ss.c,← hea,← hew,← hep,← hes,← heg,← hex,← hef,← hev,← heo] at k1 k2 ⊢
 clear hea hew hes heg hex hef hev heo
 obtain ⟨xq,xv,xp,xh⟩:=x
 obtain ⟨eq,heq⟩:∃ es,es = lsAv Q.c xq:=⟨_,rfl⟩
 obtain ⟨ev', hev'⟩:∃ es,es = lsAv Q.c xv:=⟨_,rfl⟩
 simp only [As.c,← heq,← hev'] at hxe he hb
 clear heq hev'
 refine AE.ACallG.of_walk (fn:=Tryz.f40) (c:=bodyOf Tryz.f40) GG_stays tabOK Tryz.func40 rfl rfl mixed fun A hA X=>?_
 have lp:A.llen ep = np:=by rw [llen hA,hep,lsAv_len,hnp]
 clear hep hnp
 by_cases h0:rd = 0
 rotate_left
 ·have c0:A.cmp .neq rd 0 = true:=by rw [AE.c_neq hA]; simpa using h0
  have e1:rd = e:=by rw [he,takeI,if_pos h0]
  (repeat' (first|(refine X.g ?_; cbv)|refine X.splitT ?_|refine X.splitF ?_|refine X.sp (fun hc=>?_) (fun hc=>?_)|refine X.needT ?_|refine X.callsGA [] k1 ?_|fail))
  all_goals (refine X.ret _ (X.done rfl ?_); cbv <;> (and_intros <;> first|exact e1|rfl|trivial))
 subst h0
 have c0:A.cmp .neq 0 0 = false:=by rw [AE.c_neq hA]; rfl
 rw [takeI,if_neg (fun h=>h rfl)] at he
 by_cases h1:p < 0 ∨ np ≤ p
 ·have e1:1 = e:=by rw [he,if_pos h1]
  by_cases h2:p < 0
  ·have c1:A.cmp .lss p 0 = true:=by rw [AE.c_lss hA]; exact decide_eq_true h2
   (repeat' (first|(refine X.g ?_; cbv)|refine X.splitT ?_|refine X.splitF ?_|refine X.sp (fun hc=>?_) (fun hc=>?_)|refine X.needT ?_|refine X.callsGA [] k1 ?_|fail))
   all_goals (refine X.ret _ (X.done rfl ?_); cbv <;> (and_intros <;> first|exact e1|rfl|trivial))
  ·have c1:A.cmp .lss p 0 = false:=by rw [AE.c_lss hA]; exact decide_eq_false h2
   have c2:A.cmp .geq p (A.llen ep) = true:=by rw [AE.c_geq hA,lp]; exact decide_eq_true (by omega)
   (repeat' (first|(refine X.g ?_; cbv)|refine X.splitT ?_|refine X.splitF ?_|refine X.sp (fun hc=>?_) (fun hc=>?_)|refine X.needT ?_|refine X.callsGA [] k1 ?_|fail))
   all_goals (refine X.ret _ (X.done rfl ?_); cbv <;> (and_intros <;> first|exact e1|rfl|trivial))
 have c1:A.cmp .lss p 0 = false:=by rw [AE.c_lss hA]; exact decide_eq_false (by omega)
 have c2:A.cmp .geq p (A.llen ep) = false:=by rw [AE.c_geq hA,lp]; exact decide_eq_false (by omega)
 rw [if_neg h1] at he
 have h3:0 ≤ xh ∨ hv = true:=by rcases hb with h|h|h|h|h; exact absurd rfl h; omega; omega; exact .inl h; exact .inr h
 have e1:7 = e:=by rw [he,if_pos h3]
 obtain ⟨i,hi,hxi⟩:=hxe rfl
 clear hxe hb he
 by_cases h4:0 ≤ xh
 ·have c3:A.cmp .geq xh 0 = true:=by rw [AE.c_geq hA]; exact decide_eq_true h4
  (repeat' (first|(refine X.g ?_; cbv)|refine X.splitT ?_|refine X.splitF ?_|refine X.sp (fun hc=>?_) (fun hc=>?_)|refine X.needT ?_|refine X.callsGA [] k1 ?_|refine X.idx _ _ _ _ _ _ _ _ hxi hi ?_|fail))
  all_goals (refine X.ret _ (X.done rfl ?_); cbv <;> (and_intros <;> first|exact e1|rfl|trivial))
 ·have c3:A.cmp .geq xh 0 = false:=by rw [AE.c_geq hA]; exact decide_eq_false h4
  have h5:hv = true:=h3.resolve_left h4
  subst h5
  (refine X.g ?_; cbv)
  refine X.callsGA [] k1 ?_
  refine X.frzB 2 _ _ (Nat.zero_le _) ?_
  (repeat' (first|(refine X.g ?_; cbv)|refine X.splitT ?_|refine X.splitF ?_|refine X.sp (fun hc=>?_) (fun hc=>?_)|refine X.needT ?_|refine X.idx _ _ _ _ _ _ _ _ hxi hi ?_|refine X.callsGA [] k2 ?_|fail))
  all_goals (refine X.ret _ (X.done rfl ?_); cbv <;> (and_intros <;> first|exact e1|rfl|trivial))
theorem cmpR_gt {a b:Rat}:0 < cmpR a b ↔ ¬ a ≤ b:=by
 constructor
 ·intro h h2; have:=cmpR_le.2 h2; omega
 ·intro h
  apply Classical.byContradiction
  intro h2; exact h (cmpR_le.1 (by omega))
theorem moveTakeGood_ok (w:Wk) (hw:w.Le) (s:Ss) (hs:s.Le) (hf:s.Few) (hT:Tips w s) (n p:Int) (h0:readyC w s n = 0) (h1:0 ≤ p) (h2:p < (w.parts.length:Int)) (h3:(asAt s n).holds < 0) (h4:hasPart s p = false) (e:Int) (he:e = takeC w s n p) (r:Ss) (hr:r = if e ≠ 0 then Ss.nil else s.taken w n p):AE.ACallG GG Tryz.prog 40 [] [.a w.c,.a s.c,.v (.int .i64 n),.v (.int .i64 p)] [] (.t [.a r.c,.v (.int .i64 e)]):=by
 have k1:=moveReady_ok w hw s hs n 0 h0.symm
 obtain ⟨g1,g2,g3,_⟩:=ready_in h0
 obtain ⟨_,_,gx,gp,_⟩:=stateC_opens g1
 obtain ⟨i,hi⟩:∃ i:Nat,n = i:=⟨n.toNat,by omega⟩
 obtain ⟨j,hj⟩:∃ i:Nat,p = i:=⟨p.toNat,by omega⟩
 have kh:=hasAsT_ok p s.arms hs.narms (lsAv As.c s.arms) rfl (fun x=>decide (x.holds = p)) (fun y _ b hb=>take1_ok y p b hb) false h4.symm
 have hga:w.arms[i]? = some (arAt w n):=by rw [arAt,hi,Int.toNat_natCast]; exact getD_some (by omega) _
 have hgx:s.arms[i]? = some (asAt s n):=by rw [asAt,hi,Int.toNat_natCast]; exact getD_some (by omega) _
 have hgp:w.parts[j]? = some (partAt w p):=by rw [partAt,hj,Int.toNat_natCast]; exact getD_some (by omega) _
 have hgf:s.parts[j]? = some (frAt s p):=by rw [frAt,hj,Int.toNat_natCast]; exact getD_some (by omega) _
 have he:e = if farB (gapR (tipF (arAt w n) (asAt s n).q) (frAt s p) (partAt w p)) = true then 17 else 0:=by
  rw [he,takeC,h0,takeI,if_neg (fun h=>h rfl),if_neg (by omega),if_neg (by rw [h4]; intro h; rcases h with h|h; omega; cases h)]
 have hr2:r = if e ≠ 0 then Ss.nil else { s with arms:=s.arms.set i { asAt s n with holds:=p },parts:=s.parts.set j (heldF (arAt w n) (asAt s n).q (partAt w p)) }:=by
  rw [hr,Ss.taken,Ss.holding,hj]
  have e1:s.arms.getD n.toNat ⟨[],[],false,-1⟩ = asAt s n:=rfl
  rw [e1,hi]; rfl
 have tipk:=hT.tip i _ _ hga hgx
 obtain ⟨zg,zf⟩:=hT.part j _ _ hgp hgf
 obtain ⟨hd,hhd⟩:∃ f,f = heldF (arAt w n) (asAt s n).q (partAt w p):=⟨_,rfl⟩
 rw [← hhd] at hr2
 have kcar:=moveCarried_ok w n i hi _ hga { asAt s n with holds:=p } j hj _ hgp tipk zg hd hhd
 obtain ⟨a,ha⟩:∃ x,x = arAt w n:=⟨_,rfl⟩
 obtain ⟨x,hx⟩:∃ x,x = asAt s n:=⟨_,rfl⟩
 obtain ⟨pt,hpt⟩:∃ x,x = partAt w p:=⟨_,rfl⟩
 obtain ⟨f,hf'⟩:∃ x,x = frAt s p:=⟨_,rfl⟩
 rw [← ha] at hga he tipk
 rw [← hx] at hgx he tipk hr2 kcar h3
 rw [← hpt] at hgp he zg
 rw [← hf'] at hgf he zf
 clear ha hx hpt hf' hhd hT h0 h1 h2 h4 gx gp g1 g2 g3 hr
 obtain ⟨t,ht⟩:∃ t,t = tipF a x.q:=⟨_,rfl⟩
 rw [← ht] at he
 have kT:=tipk.tip (lsAv Q.c x.q) rfl t ht
 have zt:t.le (2 ^ 26):=by rw [ht]; exact tipk.tip_le
 obtain ⟨pv,hpv⟩:∃ v,v = V2.of (f.put pt.grasp.at_.v):=⟨_,rfl⟩
 have kP:=framePut_ok f ⟨by have:=zf.1; omega,by have:=zf.2; omega⟩ pt.grasp.at_ (by have:=zg.1; omega) pv hpv
 have r1:=put_rs f pt.grasp.at_.v
 have r2:=pt.grasp.at_.rs
 have zpv:pv.sz ≤ 2 ^ 30:=by rw [hpv,V2.sz_of]; have:=zf.1; have:=zf.2; have:=zg.1; omega
 obtain ⟨d,hd1⟩:∃ v,v = V2.of (t.at_.v.sub pv.v):=⟨_,rfl⟩
 have kS:=vecSub_ok t.at_ pv (by have:=zt.1; omega) (by omega) d hd1
 have r3:=RV.rs_sub t.at_.v pv.v
 have r4:=t.at_.rs
 have r5:=pv.rs
 have zd:d.sz ≤ 2 ^ 31:=by rw [hd1,V2.sz_of]; have:=zt.1; omega
 have hdv:d.v = gapR t f pt:=by rw [hd1,V2.v_of,gapR,hpv,V2.v_of]
 rw [← hdv] at he
 clear r1 r2 r3 r4 r5 hd1 hpv hdv ht zt zpv zf zg
 simp only [V2.sz] at zd
 obtain ⟨nr,hnr⟩:∃ q,q = Q.of eighth:=⟨_,rfl⟩
 have kM:=ratMake8_ok nr hnr
 have zn:nr.sz ≤ 2 ^ 31:=by rw [hnr,sz_of]; have:=rs_eighth; omega
 obtain ⟨ax,hax⟩:∃ q,q = Q.of (absR d.x.v):=⟨_,rfl⟩
 obtain ⟨ay,hay⟩:∃ q,q = Q.of (absR d.y.v):=⟨_,rfl⟩
 have kX:=ratAbs_ok d.x (by omega) ax hax
 have kY:=ratAbs_ok d.y (by omega) ay hay
 obtain ⟨c1,hc1⟩:∃ c,c = cmpR ax.v nr.v:=⟨_,rfl⟩
 obtain ⟨c2,hc2⟩:∃ c,c = cmpR ay.v nr.v:=⟨_,rfl⟩
 have kCx:=ratCmp_ok ax nr (by rw [hax,sz_of,rs_abs]; have:=d.x.rs; omega) (by omega) c1 hc1
 have kCy:=ratCmp_ok ay nr (by rw [hay,sz_of,rs_abs]; have:=d.y.rs; omega) (by omega) c2 hc2
 have he2:e = if 0 < c1 ∨ 0 < c2 then 17 else 0:=by
  rw [he]
  have q1:0 < c1 ↔ ¬ absR d.x.v ≤ eighth:=by rw [hc1,cmpR_gt,hax,hnr,Q.v_of,Q.v_of]
  have q2:0 < c2 ↔ ¬ absR d.y.v ≤ eighth:=by rw [hc2,cmpR_gt,hay,hnr,Q.v_of,Q.v_of]
  have q3:farB d.v = true ↔ 0 < c1 ∨ 0 < c2:=by
   rw [q1,q2,farB,Bool.not_eq_true', Bool.and_eq_false_iff,decide_eq_false_iff_not,decide_eq_false_iff_not]; rfl
  by_cases h:farB d.v = true
  ·rw [if_pos h,if_pos (q3.1 h)]
  ·rw [if_neg h,if_neg fun g=>h (q3.2 g)]
 clear zd zn hnr hax hay hc1 hc2 hw hs he
 obtain ⟨ex,hex⟩:∃ es,es = lsAv As.c s.arms:=⟨_,rfl⟩
 obtain ⟨ef,hef⟩:∃ es,es = lsAv Fr.c s.parts:=⟨_,rfl⟩
 obtain ⟨ev,hev⟩:∃ es,es = lsAv V2.c s.people:=⟨_,rfl⟩
 obtain ⟨eo,heo⟩:∃ es,es = lsAv boolC s.opens:=⟨_,rfl⟩
 have k2:=worldCopyO_ok s hf ex ef ev eo hex hef hev heo
 obtain ⟨xq,xv,xp,xh⟩:=x
 simp only at hr2 h3 kT kcar
 obtain ⟨ex2,hex2⟩:∃ es,es = lsAv As.c (s.arms.set i ⟨xq,xv,xp,p⟩):=⟨_,rfl⟩
 obtain ⟨ef2,hef2⟩:∃ es,es = lsAv Fr.c (s.parts.set j hd):=⟨_,rfl⟩
 have hxe:ex[i]? = some (As.c ⟨xq,xv,xp,xh⟩):=by rw [hex]; exact lsAv_get hgx
 have hset:ex.set i (As.c ⟨xq,xv,xp,p⟩) = ex2:=by rw [hex,hex2,← lsAv_set]
 have hsetf:ef.set j hd.c = ef2:=by rw [hef,hef2,← lsAv_set]
 have hxe2:ex2[i]? = some (As.c ⟨xq,xv,xp,p⟩):=by
  rw [← hset,List.getElem?_set_self (List.getElem?_eq_some_iff.1 hxe).1]
 have hfe:ef[j]? = some f.c:=by rw [hef]; exact lsAv_get hgf
 obtain ⟨rt,hrt⟩:∃ t,t = r.tick:=⟨_,rfl⟩
 obtain ⟨rx,hrx⟩:∃ es,es = lsAv As.c r.arms:=⟨_,rfl⟩
 obtain ⟨rf,hrf⟩:∃ es,es = lsAv Fr.c r.parts:=⟨_,rfl⟩
 obtain ⟨rv,hrv⟩:∃ es,es = lsAv V2.c r.people:=⟨_,rfl⟩
 obtain ⟨ro,hro⟩:∃ es,es = lsAv boolC r.opens:=⟨_,rfl⟩
 have hrc:e = 0 → rt = s.tick ∧ rx = ex2 ∧ rf = ef2 ∧ rv = ev ∧ ro = eo:=fun h=>by
  rw [if_neg (by rw [h]; decide)] at hr2
  rw [hrt,hrx,hrf,hrv,hro,hr2,hex2,hef2,hev,heo]; exact ⟨rfl,rfl,rfl,rfl,rfl⟩
 have hrb:e = 17 → rt = 0 ∧ rx = [] ∧ rf = [] ∧ rv = [] ∧ ro = []:=fun h=>by
  rw [if_pos (by rw [h]; decide)] at hr2
  rw [hrt,hrx,hrf,hrv,hro,hr2]; exact ⟨rfl,lsAv_nil _,lsAv_nil _,lsAv_nil _,lsAv_nil _⟩
 have ati:AE.AtR i ex:=⟨(List.getElem?_eq_some_iff.1 hxe).1⟩
 have atj:AE.AtR j ef:=⟨(List.getElem?_eq_some_iff.1 hfe).1⟩
 obtain ⟨eq,heq⟩:∃ es,es = lsAv Q.c xq:=⟨_,rfl⟩
 obtain ⟨ew', hew'⟩:∃ es,es = lsAv Q.c xv:=⟨_,rfl⟩
 simp only [As.c,← heq,← hew'] at hxe hset hxe2 kT kcar
 clear hr2 hf heq hew' hex2 hef2 tipk hgf hgx
 obtain ⟨arms,walls,parts,slots,gates,walk⟩:=w
 obtain ⟨tick,xs,fs,ps,os⟩:=s
 simp only at hex hef hev heo hrc hga hgp
 obtain ⟨ea,hea⟩:∃ es,es = lsAv Ar.c arms:=⟨_,rfl⟩
 obtain ⟨ew,hew⟩:∃ es,es = lsAv wallC walls:=⟨_,rfl⟩
 obtain ⟨ep,hep⟩:∃ es,es = lsAv Pt.c parts:=⟨_,rfl⟩
 obtain ⟨es,hes⟩:∃ es,es = lsAv Sl.c slots:=⟨_,rfl⟩
 obtain ⟨eg,heg⟩:∃ es,es = lsAv Gt.c gates:=⟨_,rfl⟩
 have hae:ea[i]? = some a.c:=by rw [hea]; exact lsAv_get hga
 have hpe:ep[j]? = some pt.c:=by rw [hep]; exact lsAv_get hgp
 simp only [Ss.c,Wk.c,← hea,← hew,← hep,← hes,← heg,← hex,← hef,← hev,← heo,← hrt,← hrx,← hrf,← hrv,← hro] at k1 k2 kh kcar ⊢
 clear hrt hrx hrf hrv hro
 obtain ⟨np,hnp⟩:∃ k:Int,k = (ep.length:Int):=⟨_,rfl⟩
 have hjp:p < np:=by
  have:=(List.getElem?_eq_some_iff.1 hpe).1
  omega
 obtain ⟨pn,psh,pg⟩:=pt
 obtain ⟨esh,hesh⟩:∃ es,es = lsAv V2.c psh:=⟨_,rfl⟩
 simp only [Pt.c,← hesh] at hpe kP
 obtain ⟨am,ab,al⟩:=a
 obtain ⟨el,hel⟩:∃ es,es = lsAv Lk.c al:=⟨_,rfl⟩
 simp only [Ar.c,← hel] at hae kT
 clear hex hef hev heo hea hew hep hes heg hga hgp hesh hel
 obtain ⟨⟨tx,ty⟩,th,tt⟩:=t
 obtain ⟨⟨fx,fy⟩,fh,ft⟩:=f
 obtain ⟨⟨ux,uy⟩,uh,ut⟩:=hd
 obtain ⟨⟨gx,gy⟩,gh,gt⟩:=pg
 obtain ⟨px,py⟩:=pv
 obtain ⟨dx,dy⟩:=d
 simp only at kX kY
 refine AE.ACallG.of_walk (fn:=Tryz.f40) (c:=bodyOf Tryz.f40) GG_stays tabOK Tryz.func40 rfl rfl mixed fun A hA X=>?_
 have lp:A.llen ep = np:=by rw [llen hA,hnp]
 have c0:A.cmp .neq 0 0 = false:=by rw [AE.c_neq hA]; rfl
 have b1:A.cmp .lss p 0 = false:=by rw [AE.c_lss hA]; exact decide_eq_false (by omega)
 have b2:A.cmp .geq p (A.llen ep) = false:=by rw [AE.c_geq hA,lp]; exact decide_eq_false (by omega)
 have b3:A.cmp .geq xh 0 = false:=by rw [AE.c_geq hA]; exact decide_eq_false (by omega)
 clear hnp hjp lp
 (refine X.g ?_; cbv)
 refine X.callsGA [] k1 ?_
 refine X.frzB 0 _ _ (Nat.zero_le _) (X.frzB 1 _ _ (Nat.zero_le _) (X.frzB 2 _ _ (Nat.zero_le _) ?_))
 (repeat' (first|(refine X.g ?_; cbv)|refine X.splitT ?_|refine X.splitF ?_|refine X.sp (fun hc=>?_) (fun hc=>?_)|refine X.needT ?_|refine X.idx _ _ _ _ _ _ _ _ hxe hi ?_|refine X.callsGA [] kh ?_|fail))
 apply shareG X
 ·intro hs
  refine X.drawX _ _ _ (by kernel_rfl) ?_
  (repeat' (first|(refine X.g ?_; cbv)|refine X.splitT ?_|refine X.splitF ?_|refine X.sp (fun hc=>?_) (fun hc=>?_)|refine X.needT ?_|refine X.fork _ _ ?_ ?_|refine X.idx _ _ _ _ _ _ _ _ hxe hi ?_|refine X.idx _ _ _ _ _ _ _ _ hae hi ?_|refine X.callsGA [] kT ?_|fail))
  all_goals exact hs
 apply shareG X
 ·intro hs
  refine X.drawX _ _ _ (by kernel_rfl) (X.frzB 4 _ _ (Nat.zero_le _) ?_)
  (repeat' (first|(refine X.g ?_; cbv)|refine X.splitT ?_|refine X.splitF ?_|refine X.sp (fun hc=>?_) (fun hc=>?_)|refine X.needT ?_|refine X.fork _ _ ?_ ?_|refine X.idx _ _ _ _ _ _ _ _ hfe hj ?_|refine X.idx _ _ _ _ _ _ _ _ hpe hj ?_|refine X.callsGA [] kP ?_|refine X.callsGA [] kS ?_|fail))
  all_goals exact hs
 clear kh kT kP kS k1
 (repeat' (first|(refine X.g ?_; cbv)|refine X.splitT ?_|refine X.splitF ?_|refine X.sp (fun hc=>?_) (fun hc=>?_)|refine X.needT ?_|refine X.callsGA [] kM ?_|fail))
 by_cases h5:0 < c1 ∨ 0 < c2
 ·have e1:e = 17:=by rw [he2,if_pos h5]
  obtain ⟨q1,q2,q3,q4,q5⟩:=hrb e1
  subst e1 q1 q2 q3 q4 q5
  clear k2 kcar hrc hrb he2
  refine X.drawX _ _ _ (by kernel_rfl) (X.frzB 5 _ _ (Nat.zero_le _) (X.frzB 6 _ _ (Nat.zero_le _) ?_))
  by_cases h6:0 < c1
  ·have d1:A.cmp .gtr c1 0 = true:=by rw [AE.c_gtr hA]; exact decide_eq_true h6
   (repeat' (first|(refine X.g ?_; cbv)|refine X.splitT ?_|refine X.splitF ?_|refine X.sp (fun hc=>?_) (fun hc=>?_)|refine X.needT ?_|refine X.fork _ _ ?_ ?_|refine X.callsGA [] kX ?_|refine X.callsGA [] kCx ?_|fail))
   all_goals (refine X.ret _ (X.done rfl ?_); cbv <;> (and_intros <;> first|rfl|trivial))
  ·have d1:A.cmp .gtr c1 0 = false:=by rw [AE.c_gtr hA]; exact decide_eq_false h6
   have d2:A.cmp .gtr c2 0 = true:=by rw [AE.c_gtr hA]; exact decide_eq_true (h5.resolve_left h6)
   (repeat' (first|(refine X.g ?_; cbv)|refine X.splitT ?_|refine X.splitF ?_|refine X.sp (fun hc=>?_) (fun hc=>?_)|refine X.needT ?_|refine X.fork _ _ ?_ ?_|refine X.callsGA [] kX ?_|refine X.callsGA [] kCx ?_|refine X.callsGA [] kY ?_|refine X.callsGA [] kCy ?_|fail))
   all_goals (refine X.ret _ (X.done rfl ?_); cbv <;> (and_intros <;> first|rfl|trivial))
 have e1:e = 0:=by rw [he2,if_neg h5]
 obtain ⟨q1,q2,q3,q4,q5⟩:=hrc e1
 have d1:A.cmp .gtr c1 0 = false:=by rw [AE.c_gtr hA]; exact decide_eq_false (by omega)
 have d2:A.cmp .gtr c2 0 = false:=by rw [AE.c_gtr hA]; exact decide_eq_false (by omega)
 clear hrb hrc he2
 subst e1 q1 q2 q3 q4 q5
 apply shareG X
 ·intro hs
  refine X.drawX _ _ _ (by kernel_rfl) (X.frzB 5 _ _ (Nat.zero_le _) (X.frzB 6 _ _ (Nat.zero_le _) ?_))
  (repeat' (first|(refine X.g ?_; cbv)|refine X.splitT ?_|refine X.splitF ?_|refine X.sp (fun hc=>?_) (fun hc=>?_)|refine X.needT ?_|refine X.fork _ _ ?_ ?_|refine X.callsGA [] kX ?_|refine X.callsGA [] kCx ?_|refine X.callsGA [] kY ?_|refine X.callsGA [] kCy ?_|fail))
  all_goals exact hs
 clear kX kCx kY kCy
 have hset2:=hset
 cbv at hset2
 have hsetA:A.lset ef j (Fr.c ⟨⟨ux,uy⟩,uh,ut⟩) = rf:=by rw [lset_std hA]; exact hsetf
 have hsetB:=hsetA
 cbv at hsetB
 (repeat' (first|(refine X.g ?_; cbv)|refine X.splitT ?_|refine X.splitF ?_|refine X.sp (fun hc=>?_) (fun hc=>?_)|refine X.needT ?_|refine X.callsA [] k2 ?_|refine X.idxA i ati hi ?_|refine X.stq _ _ _ _ _ _ _ _ _ _ hxe ?_|fail))
 rw [hset2]
 refine X.drawX _ _ _ (by kernel_rfl) (X.frz 13 _ _ ?_)
 (repeat' (first|(refine X.g ?_; cbv)|refine X.splitT ?_|refine X.splitF ?_|refine X.sp (fun hc=>?_) (fun hc=>?_)|refine X.needT ?_|refine X.fork _ _ ?_ ?_|refine X.idx _ _ _ _ _ _ _ _ hxe2 hi ?_|refine X.callsGA [] kcar ?_|refine X.idxA j atj hj ?_|refine X.need _ _ _ atj ?_|fail))
 all_goals (refine X.ret _ ?_; refine X.frz 9 _ _ ?_; refine X.frz 10 _ _ ?_; refine X.frz 11 _ _ ?_; refine X.done rfl ?_; cbv <;> (and_intros <;> first|exact hsetA|exact hsetB|rfl|trivial))
end Go.Proofs.YthadehkggddgoaaGreatDoor
