/- Contracts: where a held part is: move.carried, gantref2.hold. Contracts: slices.Equal of numbers, points, frames and truth values; world.Same, world.Moving, world.Copy as a value. Contract: gantlaw2.moveBegun. Contract: the law WorldChecks. Contracts: done.All, what done's functions answer for a bad state, the law's own closures. Contract: the law MoveGates. -/
import Derived.Test.YthadehkggddgoaaGreatDoorZStep
import Derived.Test.YthadehkggddgoaaGreatDoorZInj
import Derived.Test.YthadehkggddgoaaGreatDoorZFitT
import Derived.Test.YthadehkggddgoaaGreatDoorZFuncsB
import Derived.Test.YthadehkggddgoaaGreatDoorZRState
section
section
set_option maxRecDepth 100000
set_option maxHeartbeats 0
set_option linter.unusedVariables false
set_option linter.unusedSimpArgs false
namespace Go.Proofs.YthadehkggddgoaaGreatDoor
open Go Go.Num
structure TipOK (a:Ar) (q:List Q):Prop where
 le:a.le (2 ^ 28)
 ok:armC a = 0
 len:q.length = a.links.length
 sz:∀ x ∈ q,x.sz ≤ 2 ^ 20
 b1:a.base.turn.t.sz ≤ 3
 b2:a.base.at_.sz ≤ 3
 lk:∀ k ∈ a.links,k.length.sz ≤ 3
 sum:sumQ q q.length ≤ 2 ^ 20
theorem TipOK.tip {a:Ar} {q:List Q} (h:TipOK a q) (eq:List (List AE.AV)) (heq:eq = lsAv Q.c q) (r:Fr) (hr:r = tipF a q):AE.ACallG GG Tryz.prog 37 [] [.a a.c,.l 3 eq] [] (.t [.a r.c,.v (.int .i64 0)]) :=
 foreTip_ok a h.le h.ok q h.len h.sz h.b1 h.b2 h.lk h.sum eq heq r hr
theorem TipOK.tip_le {a:Ar} {q:List Q} (h:TipOK a q):(tipF a q).le (2 ^ 26):=by
 have hn:=(armC_zero h.ok).2.2.1
 obtain ⟨g1,g2⟩:=endN_le a q h.len h.b1 h.b2 h.lk hn h.sum a.links.length (Nat.le_refl _)
 have g3:=sumQ_le q (i:=a.links.length) (j:=q.length) (by rw [h.len]; exact Nat.le_refl _)
 have hS:=h.sum
 have e2:a.links.length * (16 * (2 ^ 20 + 40) + 300) ≤ 3 * (16 * (2 ^ 20 + 40) + 300):=Nat.mul_le_mul_right _ hn
 exact ⟨by show (endN a q a.links.length).at_.sz ≤ _; omega,by show (endN a q a.links.length).turn.t.sz ≤ _; omega⟩
theorem back_le {g:Fr} (h:g.le (2 ^ 20)):g.back.le (2 ^ 26):=by
 obtain ⟨h1,h2⟩:=h
 have ht:(backT g.turn).t.sz ≤ 2 ^ 20 + 1:=by show (Q.of _).sz ≤ _; rw [sz_of,rs_neg]; have:=g.turn.rs_tan; omega
 refine ⟨?_,by show (backT g.turn).t.sz ≤ _; omega⟩
 show (V2.of _).sz ≤ _
 rw [V2.sz_of]
 have a1:=rvTurn_rs g.at_.v.neg (backT g.turn)
 have a2:g.at_.v.neg.rs ≤ 2 ^ 20 + 10:=by
  show max (rs (0 - g.at_.v.x)) (rs (0 - g.at_.v.y)) ≤ _
  have g1:=rs_sub 0 g.at_.v.x
  have g2:=rs_sub 0 g.at_.v.y
  have g0:rs (0:Rat) ≤ 1:=rs0
  have g3:g.at_.v.rs = max (rs g.at_.v.x) (rs g.at_.v.y):=rfl
  have g4:=g.at_.rs
  omega
 omega
def heldF (a:Ar) (q:List Q) (p:Pt):Fr:=(tipF a q).then_ p.grasp.back
theorem moveCarried_ok (w:Wk) (n:Int) (i:Nat) (hn:n = i) (a:Ar) (hga:w.arms[i]? = some a) (x:As) (j:Nat) (hj:x.holds = j) (p:Pt) (hgp:w.parts[j]? = some p) (hT:TipOK a x.q) (hg:p.grasp.le (2 ^ 20)) (r:Fr) (hr:r = heldF a x.q p):AE.ACallG GG Tryz.prog 94 [] [.a w.c,.v (.int .i64 n),.a x.c] [] (.t [.a r.c,.v (.int .i64 0)]):=by
 obtain ⟨t,ht⟩:∃ t,t = tipF a x.q:=⟨_,rfl⟩
 obtain ⟨b,hb⟩:∃ t,t = p.grasp.back:=⟨_,rfl⟩
 have k1:=hT.tip (lsAv Q.c x.q) rfl t ht
 have k2:=frameBack_ok p.grasp ⟨by have:=hg.1; omega,by have:=hg.2; omega⟩ b hb
 have k3:=frameThen_ok t b (by rw [ht]; exact hT.tip_le) (by rw [hb]; exact back_le hg) r (by rw [hr,heldF,ht,hb])
 clear hT hg hr ht hb
 obtain ⟨arms,walls,parts,slots,gates,walk⟩:=w
 obtain ⟨xq,xv,xp,xh⟩:=x
 simp only at hga hgp hj k1
 obtain ⟨ea,hea⟩:∃ es,es = lsAv Ar.c arms:=⟨_,rfl⟩
 obtain ⟨ew,hew⟩:∃ es,es = lsAv wallC walls:=⟨_,rfl⟩
 obtain ⟨ep,hep⟩:∃ es,es = lsAv Pt.c parts:=⟨_,rfl⟩
 obtain ⟨es,hes⟩:∃ es,es = lsAv Sl.c slots:=⟨_,rfl⟩
 obtain ⟨eg,heg⟩:∃ es,es = lsAv Gt.c gates:=⟨_,rfl⟩
 obtain ⟨eq,heq⟩:∃ es,es = lsAv Q.c xq:=⟨_,rfl⟩
 obtain ⟨ev,hev⟩:∃ es,es = lsAv Q.c xv:=⟨_,rfl⟩
 have hea1:ea[i]? = some a.c:=by rw [hea]; exact lsAv_get hga
 have hep1:ep[j]? = some p.c:=by rw [hep]; exact lsAv_get hgp
 obtain ⟨nm,base,ls⟩:=a
 obtain ⟨pn,sh,gr⟩:=p
 obtain ⟨el,hel⟩:∃ es,es = lsAv Lk.c ls:=⟨_,rfl⟩
 obtain ⟨esh,hesh⟩:∃ es,es = lsAv V2.c sh:=⟨_,rfl⟩
 simp only [Wk.c,As.c,Ar.c,Pt.c,← hea,← hew,← hep,← hes,← heg,← heq,← hev,← hel,← hesh] at k1 hea1 hep1 ⊢
 clear hea hew hep hes heg heq hev hel hesh hga hgp
 obtain ⟨⟨tx,ty⟩,th,tt⟩:=t
 obtain ⟨⟨bx,by_⟩,bh,bt⟩:=b
 obtain ⟨⟨rx,ry⟩,rh,rt⟩:=r
 obtain ⟨⟨gx,gy⟩,gh,gt⟩:=gr
 refine AE.ACallG.of_walk (fn:=Tryz.f94) (c:=bodyOf Tryz.f94) GG_stays tabOK Tryz.func94 rfl rfl mixed fun A hA X=>?_
 have c0:A.cmp .neq 0 0 = false:=by rw [AE.c_neq hA]; rfl
 (refine X.g ?_; cbv)
 apply shareG X
 ·intro hs
  refine X.drawX _ _ _ (by kernel_rfl) (X.frzB 0 _ _ (Nat.zero_le _) (X.frzB 1 _ _ (Nat.zero_le _) ?_))
  (repeat' (first|(refine X.g ?_; cbv)|refine X.splitT ?_|refine X.splitF ?_|refine X.sp (fun hc=>?_) (fun hc=>?_)|refine X.needT ?_|refine X.fork _ _ ?_ ?_|refine X.idx _ _ _ _ _ _ _ _ hea1 hn ?_|refine X.callsGA [] k1 ?_|fail))
  all_goals (refine X.drawX _ _ _ (by kernel_rfl) (X.frzB 3 _ _ (Nat.zero_le _) ?_); (refine X.g ?_; cbv); exact hs)
 (repeat' (first|(refine X.g ?_; cbv)|refine X.splitT ?_|refine X.splitF ?_|refine X.sp (fun hc=>?_) (fun hc=>?_)|refine X.needT ?_|refine X.fork _ _ ?_ ?_|refine X.idx _ _ _ _ _ _ _ _ hep1 hj ?_|refine X.callsGA [] k2 ?_|refine X.callsGA [] k3 ?_|fail))
 all_goals (refine X.ret _ (X.done rfl ?_); cbv <;> (and_intros <;> first|rfl|trivial))
theorem refHold_ok (w:Wk) (n:Int) (i:Nat) (hn:n = i) (a:Ar) (hga:w.arms[i]? = some a) (x:As) (j:Nat) (hj:x.holds = j) (p:Pt) (hgp:w.parts[j]? = some p) (hT:TipOK a x.q) (hg:p.grasp.le (2 ^ 20)) (r:Fr) (hr:r = heldF a x.q p):AE.ACallG GG Tryz.prog 132 [] [.a w.c,.v (.int .i64 n),.a x.c] [] (.a r.c):=by
 obtain ⟨t,ht⟩:∃ t,t = tipF a x.q:=⟨_,rfl⟩
 obtain ⟨b,hb⟩:∃ t,t = p.grasp.back:=⟨_,rfl⟩
 obtain ⟨er,her⟩:∃ e,e = lsAv Fr.c ((List.range a.links.length).map (frmN a x.q) ++ [tipF a x.q]):=⟨_,rfl⟩
 have k1:=foreFrames_ok a hT.le hT.ok x.q hT.len hT.sz hT.b1 hT.b2 hT.lk hT.sum (lsAv Q.c x.q) er rfl her
 have k2:=frameBack_ok p.grasp ⟨by have:=hg.1; omega,by have:=hg.2; omega⟩ b hb
 have k3:=frameThen_ok t b (by rw [ht]; exact hT.tip_le) (by rw [hb]; exact back_le hg) r (by rw [hr,heldF,ht,hb])
 have hnl:=(armC_zero hT.ok).2.2.1
 have hlen:er.length = a.links.length + 1:=by rw [her,lsAv_len]; simp
 have hget:er[a.links.length]? = some t.c:=by
  rw [her,ht]
  refine lsAv_get ?_
  rw [List.getElem?_append_right (by simp)]
  simp
 obtain ⟨m,hm⟩:∃ n,n = a.links.length:=⟨_,rfl⟩
 rw [← hm] at hlen hget hnl
 clear hT hg hr ht hb her hm
 obtain ⟨arms,walls,parts,slots,gates,walk⟩:=w
 obtain ⟨xq,xv,xp,xh⟩:=x
 simp only at hga hgp hj k1
 obtain ⟨ea,hea⟩:∃ es,es = lsAv Ar.c arms:=⟨_,rfl⟩
 obtain ⟨ew,hew⟩:∃ es,es = lsAv wallC walls:=⟨_,rfl⟩
 obtain ⟨ep,hep⟩:∃ es,es = lsAv Pt.c parts:=⟨_,rfl⟩
 obtain ⟨es,hes⟩:∃ es,es = lsAv Sl.c slots:=⟨_,rfl⟩
 obtain ⟨eg,heg⟩:∃ es,es = lsAv Gt.c gates:=⟨_,rfl⟩
 obtain ⟨eq,heq⟩:∃ es,es = lsAv Q.c xq:=⟨_,rfl⟩
 obtain ⟨ev,hev⟩:∃ es,es = lsAv Q.c xv:=⟨_,rfl⟩
 have hea1:ea[i]? = some a.c:=by rw [hea]; exact lsAv_get hga
 have hep1:ep[j]? = some p.c:=by rw [hep]; exact lsAv_get hgp
 obtain ⟨nm,base,ls⟩:=a
 obtain ⟨pn,sh,gr⟩:=p
 obtain ⟨el,hel⟩:∃ es,es = lsAv Lk.c ls:=⟨_,rfl⟩
 obtain ⟨esh,hesh⟩:∃ es,es = lsAv V2.c sh:=⟨_,rfl⟩
 simp only [Wk.c,As.c,Ar.c,Pt.c,← hea,← hew,← hep,← hes,← heg,← heq,← hev,← hel,← hesh] at k1 hea1 hep1 ⊢
 clear hea hew hep hes heg heq hev hel hesh hga hgp
 obtain ⟨⟨tx,ty⟩,th,tt⟩:=t
 obtain ⟨⟨bx,by_⟩,bh,bt⟩:=b
 obtain ⟨⟨rx,ry⟩,rh,rt⟩:=r
 obtain ⟨⟨gx,gy⟩,gh,gt⟩:=gr
 refine AE.ACallG.of_walk (fn:=Tryz.f132) (c:=bodyOf Tryz.f132) GG_stays tabOK Tryz.func132 rfl rfl mixed fun A hA X=>?_
 have lr:A.llen er = ((m + 1:Nat):Int):=by rw [llen hA,hlen]
 have c0:A.cmp .eql (A.llen er) 0 = false:=by rw [AE.c_eql hA,lr]; exact decide_eq_false (by omega)
 have hz:A.bin .sub .i64 (A.llen er) 1 = (m:Int):=by rw [subIz hA lr (by omega)]; omega
 (refine X.g ?_; cbv)
 apply shareG X
 ·intro hs
  refine X.drawX _ _ _ (by kernel_rfl) (X.frzB 0 _ _ (Nat.zero_le _) (X.frzB 1 _ _ (Nat.zero_le _) ?_))
  (repeat' (first|(refine X.g ?_; cbv)|refine X.splitT ?_|refine X.splitF ?_|refine X.sp (fun hc=>?_) (fun hc=>?_)|refine X.needT ?_|refine X.fork _ _ ?_ ?_|refine X.idx _ _ _ _ _ _ _ _ hea1 hn ?_|refine X.callsGA [] k1 ?_|fail))
  all_goals (refine X.drawX _ _ _ (by kernel_rfl) ?_; (refine X.g ?_; cbv); exact hs)
 (repeat' (first|(refine X.g ?_; cbv)|refine X.splitT ?_|refine X.splitF ?_|refine X.sp (fun hc=>?_) (fun hc=>?_)|refine X.needT ?_|refine X.fork _ _ ?_ ?_|refine X.idx _ _ _ _ _ _ _ _ hget hz ?_|refine X.idx _ _ _ _ _ _ _ _ hep1 hj ?_|refine X.callsGA [] k2 ?_|refine X.callsGA [] k3 ?_|fail))
 all_goals (refine X.ret _ (X.done rfl ?_); cbv <;> (and_intros <;> first|rfl|trivial))
end Go.Proofs.YthadehkggddgoaaGreatDoor
end
section
set_option maxRecDepth 100000
set_option maxHeartbeats 0
set_option linter.unusedVariables false
set_option linter.unusedSimpArgs false
namespace Go.Proofs.YthadehkggddgoaaGreatDoor
open Go Go.Num
theorem eqsRat_ok (l m:List Q) (hl:l.length < 2 ^ 40) (hm:m.length < 2 ^ 40) (es et:List (List AE.AV)) (hes:es = lsAv Q.c l) (het:et = lsAv Q.c m) (r:Bool) (hr:r = decide (l = m)):AE.ACall Tryz.prog 82 [] [.l 3 es,.l 3 et] [] (.b r):=by
 refine AE.ACall.of_walk (fn:=Tryz.f82) (c:=bodyOf Tryz.f82) tabOK Tryz.func82 rfl rfl mixed fun A hA X=>?_
 have h1:A.llen es = (l.length:Int):=by rw [llen hA,hes,lsAv_len]
 have h2:A.llen et = (m.length:Int):=by rw [llen hA,het,lsAv_len]
 by_cases hlm:l.length = m.length
 ·have c1:A.cmp .neq (A.llen es) (A.llen et) = false:=by rw [AE.c_neq hA,h1,h2,hlm]; simp
  (repeat' (first|(refine X.g ?_; cbv)|refine X.splitT ?_|refine X.splitF ?_|refine X.sp (fun hc=>?_) (fun hc=>?_)|refine X.needT ?_|fail))
  refine rangeL0 X hA hes (by omega) (fun i=>l.take i = m.take i) (fun z _=>[(13,.v (.int .i64 z))]) rfl ?_ (fun i z y hz hy hey c3 hI B hB=>?_) (fun z c3 hI B=>?_)
  ·(cbv <;> (and_intros <;> first|rfl|trivial))
  ·have hi:i < l.length:=(List.getElem?_eq_some_iff.1 hy).1
   obtain ⟨u,hu⟩:∃ x,m[i]? = some x:=⟨_,List.getElem?_eq_getElem (by omega)⟩
   have heu:et[i]? = some (Q.c u):=by rw [het]; exact lsAv_get hu
   have hq:A.bnot (A.band (A.bcmp .eql y.1 u.1) (A.band (A.scmp .eql y.2 u.2) (A.scmp .eql y.3 u.3))) = !decide (y = u):=by rw [AE.c_not hA]; exact congrArg _ (eqQ_eq hA y u)
   by_cases h:y = u
   ·rw [decide_eq_true h] at hq
    have hq:A.bnot (A.band (A.bcmp .eql y.1 u.1) (A.band (A.scmp .eql y.2 u.2) (A.scmp .eql y.3 u.3))) = false:=hq
    have hI' : l.take (i + 1) = m.take (i + 1):=by rw [take_snoc hy,take_snoc hu,hI,h]
    (repeat' (first|(refine X.g ?_; cbv)|refine X.splitT ?_|refine X.splitF ?_|refine X.sp (fun hc=>?_) (fun hc=>?_)|refine X.needT ?_|refine X.drawX _ _ _ (by kernel_rfl) ?_|refine X.fork _ _ ?_ ?_|refine X.idx _ _ _ _ _ _ _ _ hey hz ?_|refine X.idx _ _ _ _ _ _ _ _ heu hz ?_|fail))
    all_goals (refine hB hI' _ ?_; clear hB; (cbv <;> (and_intros <;> first|rfl|trivial)))
   ·rw [decide_eq_false h] at hq
    have hq:A.bnot (A.band (A.bcmp .eql y.1 u.1) (A.band (A.scmp .eql y.2 u.2) (A.scmp .eql y.3 u.3))) = true:=hq
    have e1:false = r:=by
     rw [hr]; symm; apply decide_eq_false
     intro e; subst e; rw [hy] at hu; exact h (Option.some.inj hu)
    clear hB
    (repeat' (first|(refine X.g ?_; cbv)|refine X.splitT ?_|refine X.splitF ?_|refine X.sp (fun hc=>?_) (fun hc=>?_)|refine X.needT ?_|refine X.drawX _ _ _ (by kernel_rfl) ?_|refine X.fork _ _ ?_ ?_|refine X.idx _ _ _ _ _ _ _ _ hey hz ?_|refine X.idx _ _ _ _ _ _ _ _ heu hz ?_|fail))
    all_goals (refine X.ret _ (X.done rfl ?_); cbv <;> (and_intros <;> first|exact e1|rfl|trivial))
  ·have e1:true = r:=by
    rw [hr]; symm; apply decide_eq_true
    rw [List.take_length,hlm,List.take_length] at hI; exact hI
   (repeat' (first|(refine X.g ?_; cbv)|refine X.splitT ?_|refine X.splitF ?_|refine X.sp (fun hc=>?_) (fun hc=>?_)|refine X.needT ?_|fail))
   all_goals (refine X.ret _ (X.done rfl ?_); cbv <;> (and_intros <;> first|exact e1|rfl|trivial))
 ·have c1:A.cmp .neq (A.llen es) (A.llen et) = true:=by rw [AE.c_neq hA,h1,h2]; simp; omega
  have e1:false = r:=by rw [hr]; symm; apply decide_eq_false; intro e; exact hlm (by rw [e])
  (repeat' (first|(refine X.g ?_; cbv)|refine X.splitT ?_|refine X.splitF ?_|refine X.sp (fun hc=>?_) (fun hc=>?_)|refine X.needT ?_|fail))
  all_goals (refine X.ret _ (X.done rfl ?_); cbv <;> (and_intros <;> first|exact e1|rfl|trivial))
def Ss.Short (s:Ss):Prop:=s.arms.length < 2 ^ 40 ∧ (∀ y ∈ s.arms,y.q.length < 2 ^ 40 ∧ y.v.length < 2 ^ 40) ∧ s.parts.length < 2 ^ 40 ∧ s.people.length < 2 ^ 40 ∧ s.opens.length < 2 ^ 40
theorem Ss.Few.short {s:Ss} (h:s.Few):s.Short:=by
 obtain ⟨⟨h1,h2⟩,h3,h4,h5⟩:=h
 refine ⟨by omega,fun y hy=>?_,by omega,by omega,by omega⟩
 obtain ⟨a,b⟩:=h2 y hy
 exact ⟨by omega,by omega⟩
def movB (x:As):Bool:=x.v.any fun q=>decide (sgnR q.v ≠ 0)
theorem worldMoving1_ok (q:Q) (h:q.sz ≤ 2 ^ 34) (r:Bool) (hr:r = decide (sgnR q.v ≠ 0)):AE.ACallG GG Tryz.prog 87 [] [.a q.c] [] (.b r):=by
 refine AE.ACallG.of_walk (fn:=Tryz.f87) (c:=bodyOf Tryz.f87) GG_stays tabOK Tryz.func87 rfl rfl mixed fun A hA X=>?_
 obtain ⟨g,hg⟩:∃ g,g = sgnR q.v:=⟨_,rfl⟩
 have k1:=sign_ok q h g hg
 have e1:A.cmp .neq g 0 = r:=by rw [AE.c_neq hA,hr,hg]; simp
 (repeat' (first|(refine X.g ?_; cbv)|refine X.splitT ?_|refine X.splitF ?_|refine X.sp (fun hc=>?_) (fun hc=>?_)|refine X.callsGA [] k1 ?_|refine X.needT ?_|fail))
 all_goals (refine X.ret _ (X.done rfl ?_); cbv <;> (and_intros <;> first|exact e1|rfl|trivial))
theorem worldMoving_ok (x:As) (hx:(∀ q ∈ x.v,q.sz ≤ 2 ^ 34) ∧ x.v.length < 2 ^ 40) (r:Bool) (hr:r = movB x):AE.ACallG GG Tryz.prog 28 [] [.a x.c] [] (.b r):=by
 obtain ⟨q,v,p,h⟩:=x
 simp only at hx
 obtain ⟨eq,heq⟩:∃ es,es = lsAv Q.c q:=⟨_,rfl⟩
 obtain ⟨ev,hev⟩:∃ es,es = lsAv Q.c v:=⟨_,rfl⟩
 have k1:=hasRat_ok v hx.2 ev hev 87 (fun q=>decide (sgnR q.v ≠ 0)) (fun y hy b hb=>worldMoving1_ok y (hx.1 y hy) b hb) r hr
 simp only [As.c,← heq,← hev]
 refine AE.ACallG.of_walk (fn:=Tryz.f28) (c:=bodyOf Tryz.f28) GG_stays tabOK Tryz.func28 rfl rfl mixed fun A hA X=>?_
 (repeat' (first|(refine X.g ?_; cbv)|refine X.splitT ?_|refine X.splitF ?_|refine X.sp (fun hc=>?_) (fun hc=>?_)|refine X.needT ?_|refine X.drawX _ _ _ (by kernel_rfl) (X.frzB 0 _ _ (Nat.zero_le _) ?_)|refine X.fork _ _ ?_ ?_|refine X.callsGA [] k1 ?_|fail))
 all_goals (refine X.ret _ (X.done rfl ?_); cbv <;> (and_intros <;> first|rfl|trivial))
end Go.Proofs.YthadehkggddgoaaGreatDoor
end
end
section
section
set_option maxRecDepth 100000
set_option maxHeartbeats 0
set_option linter.unusedVariables false
set_option linter.unusedSimpArgs false
namespace Go.Proofs.YthadehkggddgoaaGreatDoor
open Go Go.Num
theorem firstQ0:firstQ link0 = Q.of 0:=by
 rw [firstQ,if_neg,if_neg]
 ·show ¬ sgnR (Q.of _).v < 0
  rw [Q.v_of]; decide +kernel
 ·show ¬ 0 < sgnR (Q.of _).v
  rw [Q.v_of]; decide +kernel
theorem moveBegun_ok:AE.ACallG GG Tryz.prog 58 [] [] [] (.b true):=by
 obtain ⟨w,hw⟩:∃ w,w = works0:=⟨_,rfl⟩
 obtain ⟨s,hs⟩:∃ s,s = firstS w:=⟨_,rfl⟩
 obtain ⟨u,hu⟩:∃ q,q = Q.of (mkRat 1 8):=⟨_,rfl⟩
 have h0:worksC w = 0:=by rw [hw]; exact works0_ok
 have hle:w.Le:=by rw [hw]; exact works0_le
 have hok:=worksC_zero h0
 have hsle:s.Le:=by rw [hs]; exact firstS_le hle hok
 have hst:stateC w s = 0:=by rw [hs]; exact firstS_ok h0
 have hsa:s.arms = [⟨[Q.of 0],[Q.of 0],false,-1⟩]:=by
  rw [hs,hw]; show [firstA arm0] = _
  rw [arm0_eq,firstA]; show [(⟨[firstQ link0],[Q.of 0],false,-1⟩:As)] = _
  rw [firstQ0]
 have hfew:s.Few:=by
  refine ⟨⟨by rw [hsa]; decide,fun x hx=>?_⟩,by rw [hs,hw]; decide,by rw [hs]; show 0 ≤ 2 ^ 30; decide,by rw [hs,hw]; decide⟩
  rw [hsa] at hx
  rw [List.mem_singleton.1 hx]
  exact ⟨by decide,by decide⟩
 have k1:=plain_ok w s hw (by rw [hs,hw])
 have k2:=makeOf_ok 1 8 (by decide) (by decide) u hu
 have zl:=link0_le
 obtain ⟨es,hes⟩:∃ e,e = lsAv Q.c [Q.of ((Q.of 0).v + u.v)]:=⟨_,rfl⟩
 obtain ⟨ex2,hex2⟩:∃ e,e = lsAv As.c [(⟨[Q.of ((Q.of 0).v + u.v)],[u],true,-1⟩:As)]:=⟨_,rfl⟩
 have heu:[[AE.AV.b u.1,.v (.string u.2),.v (.string u.3)]] = lsAv Q.c [u]:=by rw [lsAv_eq]; rfl
 have huz:u.sz ≤ 2 ^ 28:=by rw [hu,sz_of]; have:rs (mkRat 1 8) ≤ 1:=rs_le.2 ⟨by decide +kernel,by decide +kernel⟩; omega
 obtain ⟨_,z2,z3,z4,_⟩:=zl
 have k3:=stepT_ok w hle arm0 link0 (by rw [hw]; rfl) (by rw [arm0_eq]) ⟨z2,z3,z4⟩ s hsle hfew hst _ hsa (Q.of 0) u rfl rfl (by rw [hs,hw]; rfl) (by rw [hs]; rfl) (by rw [hs]; show (0:Int) ≠ 2000; decide) (by rw [sz_of]; have:=rs0; omega) huz (by rw [hu]; exact Q.of_good _)
  (by rw [hu,Q.v_of]; show absR _ ≤ (Q.of _).v; rw [Q.v_of]; decide +kernel) (by rw [hu,Q.v_of,Q.v_of]; show (Q.of _).v ≤ _; rw [Q.v_of]; decide +kernel) (by rw [hu,Q.v_of,Q.v_of]; show _ ≤ (Q.of _).v; rw [Q.v_of]; decide +kernel)
  _ es ex2 heu hes hex2 _ rfl
 have hq0:Q.of ((Q.of 0).v + u.v) = u:=by rw [hu,Q.v_of,Q.v_of]; exact congrArg _ (Rat.zero_add _)
 have k4:=eqsRat_ok [u] [u] (by simp) (by simp) es _ (by rw [hes,hq0]) heu true (by simp)
 have hx0:ex2[0]? = some [.l 3 es,.l 3 [[AE.AV.b u.1,.v (.string u.2),.v (.string u.3)]],.b true,.v (.int .i64 (-1))]:=by
  rw [hex2,heu,hes]; exact lsAv_get (i:=0) (l:=[(⟨[Q.of ((Q.of 0).v + u.v)],[u],true,-1⟩:As)]) rfl
 have lx:ex2.length = 1:=by rw [hex2,lsAv_len]; rfl
 have hsc:s.c = [.v (.int .i64 0),.l 4 (lsAv As.c s.arms),.l 10 [],.l 6 [],.l 1 []]:=by
  rw [Ss.c,show s.tick = 0 by rw [hs]; rfl,show s.parts = [] by rw [hs,hw]; rfl,show s.people = [] by rw [hs]; rfl,show s.opens = [] by rw [hs,hw]; rfl]
  simp only [lsAv_nil]
 obtain ⟨va,hva⟩:∃ e,e = lsAv As.c s.arms:=⟨_,rfl⟩
 obtain ⟨tk,htk⟩:∃ t,t = AE.std.bin .add .i64 s.tick 1:=⟨_,rfl⟩
 rw [show s.opens = [] by rw [hs,hw]; rfl,lsAv_nil,← htk] at k3
 rw [← hva] at hsc
 rw [hsc] at k1 k3
 clear hw hs hu h0 hle hok hsle hst hsa hfew hex2 heu huz z2 z3 z4 hq0 hsc hva htk hes
 obtain ⟨arms,walls,parts,slots,gates,walk⟩:=w
 obtain ⟨ea,hea⟩:∃ es,es = lsAv Ar.c arms:=⟨_,rfl⟩
 obtain ⟨ew,hew⟩:∃ es,es = lsAv wallC walls:=⟨_,rfl⟩
 obtain ⟨ep,hep⟩:∃ es,es = lsAv Pt.c parts:=⟨_,rfl⟩
 obtain ⟨el,hel⟩:∃ es,es = lsAv Sl.c slots:=⟨_,rfl⟩
 obtain ⟨eg,heg⟩:∃ es,es = lsAv Gt.c gates:=⟨_,rfl⟩
 simp only [Wk.c,← hea,← hew,← hep,← hel,← heg] at k1 k3
 clear hea hew hep hel heg
 refine AE.ACallG.of_walk (fn:=Tryz.f58) (c:=bodyOf Tryz.f58) GG_stays tabOK Tryz.func58 rfl rfl mixed fun A hA X=>?_
 have c1:A.cmp .eql 0 0 = true:=by rw [AE.c_eql hA]; rfl
 have c2:A.cmp .eql (A.llen ex2) 1 = true:=by rw [AE.c_eql hA,llen hA,lx]; rfl
 (repeat' (first|(refine X.g ?_; cbv)|refine X.splitT ?_|refine X.splitF ?_|refine X.sp (fun hc=>?_) (fun hc=>?_)|refine X.needT ?_|refine X.callsGA [] k1 ?_|fail))
 apply shareG X
 ·intro hs
  apply share8 X
  ·intro a1 a2 a3 a4 a5 a6 a7 a8
   refine X.drawX _ _ _ (by kernel_rfl) (X.frzB 0 _ _ (Nat.zero_le _) (X.frzB 1 _ _ (Nat.zero_le _) ?_))
   repeat' (first|(refine X.go 1 _ _ ?_; cbv)|refine X.fork _ _ ?_ ?_|refine X.needT (X.frz 2 _ _ (X.frz 3 _ _ (X.frz 4 _ _ (X.frz 5 _ _ ?_))))|refine X.callsA [] k2 ?_|fail)
   all_goals first|exact a1|exact a2|exact a3|exact a4|exact a5|exact a6|exact a7|exact a8
  all_goals first|(refine X.callsGA [] k3 ?_; (repeat' (first|(refine X.g ?_; cbv)|refine X.splitT ?_|refine X.splitF ?_|refine X.sp (fun hc=>?_) (fun hc=>?_)|refine X.needT ?_|refine X.fork _ _ ?_ ?_|fail)); all_goals (refine X.drawX _ _ _ (by kernel_rfl) (X.frzB 2 _ _ (Nat.zero_le _) (X.frzB 3 _ _ (Nat.zero_le _) (X.frzB 4 _ _ (Nat.zero_le _) (X.frzB 5 _ _ (Nat.zero_le _) ?_)))); (refine X.g ?_; cbv); exact hs))|exact hs
 (repeat' (first|(refine X.g ?_; cbv)|refine X.splitT ?_|refine X.splitF ?_|refine X.sp (fun hc=>?_) (fun hc=>?_)|refine X.needT ?_|refine X.fork _ _ ?_ ?_|refine X.idx _ _ _ _ _ _ _ _ hx0 rfl ?_|refine X.callsA [] k2 ?_|(refine X.isCall ?_; refine X.lends [6] k4 rfl ?_ (by cbv) ?_; focus (cbv <;> (and_intros <;> first|rfl|trivial)))|fail))
 all_goals (refine X.ret _ (X.done rfl ?_); cbv <;> (and_intros <;> first|rfl|trivial))
end Go.Proofs.YthadehkggddgoaaGreatDoor
end
section
section
set_option maxRecDepth 100000
set_option maxHeartbeats 0
set_option linter.unusedVariables false
set_option linter.unusedSimpArgs false
namespace Go.Proofs.YthadehkggddgoaaGreatDoor
open Go Go.Num
theorem nil_short:Ss.nil.Short:=⟨by decide,(fun y hy=>by cases hy),by decide,by decide,by decide⟩
theorem sameState_ok (a b:Ss) (ha:a.Short) (hb:b.Short) (fa:a.few) (fb:b.few) (sa:a.S.size < 2 ^ 60) (sb:b.S.size < 2 ^ 60) (r:Bool) (hr:r = decide (a = b)):AE.ACallG GG Tryz.prog 46 [] [.a a.c,.a b.c] [] (.b r):=by
 obtain ⟨s1,hs1⟩:∃ s,s = a.S:=⟨_,rfl⟩
 obtain ⟨s2,hs2⟩:∃ s,s = b.S:=⟨_,rfl⟩
 have k1:=refBytes_ok a ha s1 hs1 (by rw [hs1]; exact sa)
 have k2:=refBytes_ok b hb s2 hs2 (by rw [hs2]; exact sb)
 have e0:decide (s1 = s2) = r:=by
  rw [hr,hs1,hs2,decide_eq_decide]
  exact ⟨fun h=>Ss.S_inj fa fb h,fun h=>by rw [h]⟩
 clear hs1 hs2 hr
 obtain ⟨t1,x1,f1,p1,o1⟩:=a
 obtain ⟨t2,x2,f2,p2,o2⟩:=b
 obtain ⟨ex1,hx1⟩:∃ es,es = lsAv As.c x1:=⟨_,rfl⟩
 obtain ⟨ex2,hx2⟩:∃ es,es = lsAv As.c x2:=⟨_,rfl⟩
 obtain ⟨ef1,hf1⟩:∃ es,es = lsAv Fr.c f1:=⟨_,rfl⟩
 obtain ⟨ef2,hf2⟩:∃ es,es = lsAv Fr.c f2:=⟨_,rfl⟩
 obtain ⟨ev1,hv1⟩:∃ es,es = lsAv V2.c p1:=⟨_,rfl⟩
 obtain ⟨ev2,hv2⟩:∃ es,es = lsAv V2.c p2:=⟨_,rfl⟩
 obtain ⟨eo1,ho1⟩:∃ es,es = lsAv boolC o1:=⟨_,rfl⟩
 obtain ⟨eo2,ho2⟩:∃ es,es = lsAv boolC o2:=⟨_,rfl⟩
 simp only [Ss.c,← hx1,← hx2,← hf1,← hf2,← hv1,← hv2,← ho1,← ho2] at k1 k2 ⊢
 clear ha hb fa fb sa sb hx1 hx2 hf1 hf2 hv1 hv2 ho1 ho2
 refine AE.ACallG.of_walk (fn:=Tryz.f46) (c:=bodyOf Tryz.f46) GG_stays tabOK Tryz.func46 rfl rfl mixed fun A hA X=>?_
 have e1:A.scmp .eql s1 s2 = r:=by rw [c_seql hA]; exact e0
 (repeat' (first|(refine X.g ?_; cbv)|refine X.splitT ?_|refine X.splitF ?_|refine X.sp (fun hc=>?_) (fun hc=>?_)|refine X.needT ?_|refine X.drawX _ _ _ (by kernel_rfl) (X.frzB 0 _ _ (Nat.zero_le _) (X.frzB 1 _ _ (Nat.zero_le _) ?_))|refine X.fork _ _ ?_ ?_|refine X.callsA [] k1 ?_|refine X.callsA [] k2 ?_|fail))
 all_goals (refine X.ret _ (X.done rfl ?_); cbv <;> (and_intros <;> first|exact e1|rfl|trivial))
structure Ss.Fit (s:Ss):Prop where
 le:s.Le
 Few:s.Few
 few:s.few
 size:s.S.size < 2 ^ 60
end Go.Proofs.YthadehkggddgoaaGreatDoor
end
section
section
set_option linter.unusedVariables false
set_option linter.unusedSimpArgs false
namespace Go.Proofs.YthadehkggddgoaaGreatDoor
open Go Go.Num
structure Wt where
 part:Int
 slot:Int
def Wt.c (x:Wt):List AE.AV:=[.v (.int .i64 x.part),.v (.int .i64 x.slot)]
structure Fine20 (w:Wk) (s:Ss):Prop where
 parts:∀ p ∈ w.parts,(∀ c ∈ p.shape,c.sz ≤ 2 ^ 20)
 slots:∀ q ∈ w.slots,q.frame.le (2 ^ 20)
 frames:∀ f ∈ s.parts,f.le (2 ^ 20)
theorem Fine20.hz {w:Wk} {s:Ss} (h:Fine20 w s) {p q e:Int} (he:e = doneI (stateC w s) p w.parts.length q w.slots.length):e = 0 → (∀ c ∈ (partAt w p).shape,c.sz ≤ 2 ^ 20) ∧ (slotAt w q).frame.le (2 ^ 20):=fun h0=>by
 obtain ⟨_,i1,i2,i3,i4⟩:=done_in (he.symm.trans h0)
 refine ⟨h.parts _ ?_,h.slots _ ?_⟩
 ·exact List.mem_of_getElem? (i:=p.toNat) (getD_some (by omega) _)
 ·exact List.mem_of_getElem? (i:=q.toNat) (getD_some (by omega) _)
end Go.Proofs.YthadehkggddgoaaGreatDoor
end
section
set_option linter.unusedVariables false
set_option linter.unusedSimpArgs false
namespace Go.Proofs.YthadehkggddgoaaGreatDoor
open Go Go.Num
theorem nilS_le {α : Type} (f:α → ByteArray):(lsS f []).size ≤ 10:=by
 rw [lsS_eq]
 show (natS 0 ++ _).size ≤ 10
 rw [ByteArray.size_append]
 have:=natS_size 0
 show _ + 0 ≤ 10
 omega
theorem nil_size:Ss.nil.S.size < 2 ^ 60:=by
 simp only [Ss.S,Ss.nil,ByteArray.size_append]
 have h1:=natS_size 0
 have h2:=nilS_le As.S; have h3:=nilS_le Fr.S; have h4:=nilS_le V2.S; have h5:=nilS_le boolS
 omega
end Go.Proofs.YthadehkggddgoaaGreatDoor
end
end
end
end
