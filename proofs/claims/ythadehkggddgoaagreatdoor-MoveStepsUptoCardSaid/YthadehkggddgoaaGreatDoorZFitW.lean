/- Contract: gantref2.Step. Plain laws: what the contracts of a tick ask of a valid state and of wishes of a small bulk; how large a state is after a tick. Contract: the law MoveSteps. Opening wishes, truth values and points; how many and how long they are at most. -/
import Derived.Test.YthadehkggddgoaaGreatDoorZStepS
import Derived.Test.YthadehkggddgoaaGreatDoorZFitM
import Derived.Test.YthadehkggddgoaaGreatDoorZLawMG
import Derived.Test.YthadehkggddgoaaGreatDoorZFitT
section
set_option maxRecDepth 100000
set_option maxHeartbeats 0
set_option linter.unusedVariables false
set_option linter.unusedSimpArgs false
namespace Go.Proofs.YthadehkggddgoaaGreatDoor
open Go Go.Num
theorem max_le {a b c:Rat}:maxR a b≤c↔a≤c∧b≤c:=by
 unfold maxR
 grind
theorem refStep_ok (w:Wk) (hw:w.Le) (s:Ss) (hs:s.Le) (hf:s.Few) (us:List (List Q)) (ps:List Bool) (vs:List V2) (hul:us.length<2^40) (hpl:ps.length<2^40) (hvl:vs.length<2^40) (hvz:∀ v∈vs,v.sz≤2^28) (hpz:∀ v∈s.people,v.sz≤2^28) (e:Int) (he:e=stepC w s us ps vs) (hK:e=0→StepOK w s us ps vs) (r:Ss) (hr:r=if e≠0 then Ss.nil else stepped w s us ps vs) (eu ep ev:List (List AE.AV)) (heu:eu=lsAv wishC us) (hep:ep=lsAv boolC ps) (hev:ev=lsAv V2.c vs):AE.ACallG GG Tryz.prog 59 [] [.a w.c,.a s.c,.l 1 eu,.l 1 ep,.l 6 ev] [] (.t [.a r.c,.v (.int .i64 e)]):=by
 obtain ⟨st,hst⟩:∃ e,e=stateC w s:=⟨_,rfl⟩
 have kC:=refState_ok w hw s hs st hst
 rw [stepC,← hst] at he
 obtain ⟨na,hna⟩:∃ k:Int,k=(w.arms.length:Int):=⟨_,rfl⟩
 obtain ⟨np,hnp⟩:∃ k:Int,k=(s.people.length:Int):=⟨_,rfl⟩
 rw [← hna,← hnp] at he
 have hwl:=hw.narms
 have hwalk:w.walk.sz≤2^28:=hw.walk
 obtain ⟨ex,hex⟩:∃ es,es=lsAv As.c s.arms:=⟨_,rfl⟩
 obtain ⟨ef,hef⟩:∃ es,es=lsAv Fr.c s.parts:=⟨_,rfl⟩
 obtain ⟨epl,hepl⟩:∃ es,es=lsAv V2.c s.people:=⟨_,rfl⟩
 obtain ⟨eo,heo⟩:∃ es,es=lsAv boolC s.opens:=⟨_,rfl⟩
 have kY:=refCopied_ok s.tick ex ef epl eo (by rw [hex,lsAv_len]; exact hf.arms.1) (by rw [hef,lsAv_len]; exact hf.parts) (by rw [hepl,lsAv_len]; exact hf.people) (by rw [heo,lsAv_len]; exact hf.opens)
 obtain ⟨gX,hgX⟩:∃ g:Nat→List (List AE.AV),∀ i,g i=lsAv As.c (armsT w s us ps i):=⟨_,fun _=>rfl⟩
 obtain ⟨gF,hgF⟩:∃ g:Nat→List (List AE.AV),∀ i,g i=lsAv Fr.c (partsT w s us ps i):=⟨_,fun _=>rfl⟩
 obtain ⟨gP,hgP⟩:∃ g:Nat→List (List AE.AV),∀ i,g i=lsAv V2.c (peopleT s vs i):=⟨_,fun _=>rfl⟩
 have hX0:ex=gX 0:=by rw [hgX,hex]; rfl
 have hF0:ef=gF 0:=by rw [hgF,hef]; rfl
 have hP0:epl=gP 0:=by rw [hgP,hepl]; rfl
 obtain ⟨rt,hrt⟩:∃ t,t=r.tick:=⟨_,rfl⟩
 obtain ⟨rx,hrx⟩:∃ es,es=lsAv As.c r.arms:=⟨_,rfl⟩
 obtain ⟨rf,hrf⟩:∃ es,es=lsAv Fr.c r.parts:=⟨_,rfl⟩
 obtain ⟨rv,hrv⟩:∃ es,es=lsAv V2.c r.people:=⟨_,rfl⟩
 obtain ⟨ro,hro⟩:∃ es,es=lsAv boolC r.opens:=⟨_,rfl⟩
 have hrb:e≠0→rt=0∧rx=[]∧rf=[]∧rv=[]∧ro=[]:=fun h=>by
  rw [if_pos h] at hr
  rw [hrt,hrx,hrf,hrv,hro,hr]; exact ⟨rfl,lsAv_nil _,lsAv_nil _,lsAv_nil _,lsAv_nil _⟩
 have hrc:e=0→rt=s.tick+1∧rx=gX w.arms.length∧rf=gF w.arms.length∧rv=gP vs.length∧ro=eo:=fun h=>by
  rw [if_neg (by rw [h]; decide)] at hr
  rw [hrt,hrx,hrf,hrv,hro,hr,hgX,hgF,hgP,heo]; exact ⟨rfl,rfl,rfl,rfl,rfl⟩
 have hin:e=0→(∀ (i:Nat) a,w.arms[i]? = some a → ∃ x u p y m b,s.arms[i]? = some x∧us[i]? = some u∧ps[i]? = some p∧y=nA w s us ps i∧b=brakedA a x∧AE.ACallG GG Tryz.prog 130 [] [.a a.c,.a x.c] [] (.a b.c)∧AE.ACallG GG Tryz.prog 131 [] [.a a.c,.l 3 (lsAv Q.c x.q),.l 3 (lsAv Q.c u)] [] (.b m)∧(¬ (p=true∧m=true)→y=b)∧(p=true∧m=true→y=⟨addQ x.q u,u,true,x.holds⟩∧u.length=a.links.length∧x.q.length=a.links.length∧a.links.length≤3∧(∀ q∈x.q,q.sz≤2^28)∧∀ q∈u,q.sz≤2^28)∧(0≤y.holds → ∃ (j:Nat) (q:Pt) (f t:Fr),y.holds=j∧w.parts[j]? = some q∧j<s.parts.length∧f=heldF a y.q q∧gF (i+1)=(gF i).set j f.c∧AE.ACallG GG Tryz.prog 132 [] [.a w.c,.v (.int .i64 (i:Int)),.a y.c] [] (.a f.c)∧AE.ACallG GG Tryz.prog 37 [] [.a a.c,.l 3 (lsAv Q.c y.q)] [] (.t [.a t.c,.v (.int .i64 0)]))∧(y.holds<0→gF (i+1)=gF i)∧gX (i+1)=(gX i).set i y.c)∧vs.length=s.people.length∧0≤s.tick∧s.tick≤2000:=fun h=>by
  have K:=hK h
  have e0:st=0:=by
   apply Classical.byContradiction; intro g
   rw [h,stepI,if_pos g] at he; omega
  rw [h,stepI,if_neg (fun g=>g e0)] at he
  have e1:us.length=w.arms.length∧ps.length=w.arms.length∧vs.length=s.people.length:=by
   split at he
   ·omega
   ·omega
  obtain ⟨_,_,gx,gp,_,_,g7,g8⟩:=stateC_opens K.st
  refine ⟨fun i a ha=>?_,e1.2.2,g7,g8⟩
  have hi:=(List.getElem?_eq_some_iff.1 ha).1
  have ga:arAt w (i:Int)=a:=by rw [arAt,Int.toNat_natCast,List.getD_eq_getElem?_getD,ha]; rfl
  have hx:s.arms[i]? = some (asAt s i):=by rw [asAt,Int.toNat_natCast]; exact getD_some (by omega) _
  have hu:us[i]? = some (us.getD i []):=getD_some (by omega) _
  have hp:ps[i]? = some (ps.getD i false):=getD_some (by omega) _
  obtain ⟨z1,z2⟩:=K.wish _ (List.mem_of_getElem? hu)
  have one:=oneC_zero (stateC_one K.st ha hx)
  have hh:(nA w s us ps i).holds=(asAt s i).holds:=oneA_holds _ _ _ _
  have B:=K.brake i a _ ha hx
  have n3:=(armC_zero B.ok).2.2.1
  have kB:=refBraked_ok a _ _ B (asAt s i).power (asAt s i).holds _ _ _ _ rfl rfl rfl rfl
  refine ⟨_,_,_,_,mayB a (asAt s i).q (us.getD i []),_,hx,hu,hp,rfl,rfl,kB,refPossible_ok a B.le _ _ B.qs z1 B.ql z2 _ _ rfl rfl _ rfl,fun g=>?_,fun g=>?_,fun g=>?_,fun g=>?_,?_⟩
  ·rw [nA,oneA,ga,if_neg g]
  ·refine ⟨by rw [nA,oneA,ga,if_pos g],?_,B.ql,n3,B.qs,z1⟩
   have:=of_decide_eq_true g.2
   exact this.1
  ·obtain ⟨j,hj⟩:∃ j:Nat,(nA w s us ps i).holds=j:=⟨_,(Int.toNat_of_nonneg g).symm⟩
   have hjl:j<w.parts.length:=by omega
   have hq:w.parts[j]? = some (partAt w (nA w s us ps i).holds):=by rw [partAt,hj,Int.toNat_natCast]; exact getD_some hjl _
   refine ⟨j,_,_,_,hj,hq,by omega,rfl,?_,refHold_ok w i i rfl a ha _ j hj _ hq (K.tip i a ha) (K.part _ (List.mem_of_getElem? hq)) _ rfl,(K.tip i a ha).tip _ rfl _ rfl⟩
   rw [hgF,hgF,partsT,if_pos g,ga,lsAv_set,hj,Int.toNat_natCast]
  ·rw [hgF,hgF,partsT,if_neg (by omega)]
  ·rw [hgX,hgX,armsT,lsAv_set]
 have hrl:r.c=[.v (.int .i64 rt),.l 4 rx,.l 10 rf,.l 6 rv,.l 1 ro]:=by rw [Ss.c,hrt,hrx,hrf,hrv,hro]
 rw [hrl]
 clear hrl
 have hxl:∀ i,(gX i).length=s.arms.length:=fun i=>by rw [hgX,lsAv_len,armsT_len]
 have hfl:∀ i,(gF i).length=s.parts.length:=fun i=>by rw [hgF,lsAv_len,partsT_len]
 have hpl' : ∀ i,(gP i).length=s.people.length:=fun i=>by rw [hgP,lsAv_len,peopleT_len]
 have hal:e=0→s.arms.length=w.arms.length:=fun h=>(stateC_opens (hK h).st).2.2.1
 have hP2:∀ (i:Nat) q,s.people[i]? = some q→(gP i)[i]? = some q.c:=fun i q hq=>by rw [hgP]; exact lsAv_get (by rw [peopleT_get s vs i i (Nat.le_refl _)]; exact hq)
 have hP1:∀ (i:Nat) q v,s.people[i]? = some q→vs[i]? = some v→gP (i+1)=(gP i).set i (V2.of (q.v.add v.v)).c:=fun i q v hq hv=>by
  rw [hgP,hgP,peopleT,lsAv_set]
  have e1:pAt s.people i=q:=by rw [pAt,List.getD_eq_getElem?_getD,hq]; rfl
  have e2:pAt vs i=v:=by rw [pAt,List.getD_eq_getElem?_getD,hv]; rfl
  rw [e1,e2]
 clear hr hrt hrx hrf hrv hro hs hf hK hst hw
 have hwk:∀ v,walkOK w v↔v.x.Good∧v.y.Good∧absR v.x.v≤w.walk.v∧absR v.y.v≤w.walk.v:=fun v=>Iff.rfl
 obtain ⟨ok,hok⟩:∃ P:V2→Prop,P=walkOK w:=⟨_,rfl⟩
 obtain ⟨bk,hbk⟩:∃ b,b=decide (∀ v∈vs,walkOK w v):=⟨_,rfl⟩
 rw [← hbk] at he
 have hb2:bk=true↔∀ v∈vs,ok v:=by rw [hbk,hok,decide_eq_true_iff]
 clear hbk
 rw [← hok] at hwk
 clear hok hgX hgF hgP
 obtain ⟨arms,walls,parts,slots,gates,walk⟩:=w
 obtain ⟨tick,xs,fs,pp,os⟩:=s
 simp only at hna hnp hwl hwalk hex hef hepl heo hrc hin hxl hfl hpl' hal hP1 hP2 hwk hpz
 obtain ⟨ea,hea⟩:∃ es,es=lsAv Ar.c arms:=⟨_,rfl⟩
 obtain ⟨ew,hew⟩:∃ es,es=lsAv wallC walls:=⟨_,rfl⟩
 obtain ⟨ept,hept⟩:∃ es,es=lsAv Pt.c parts:=⟨_,rfl⟩
 obtain ⟨es,hes⟩:∃ es,es=lsAv Sl.c slots:=⟨_,rfl⟩
 obtain ⟨eg,heg⟩:∃ es,es=lsAv Gt.c gates:=⟨_,rfl⟩
 simp only [Wk.c,Ss.c,← hea,← hew,← hept,← hes,← heg,← hex,← hef,← hepl,← heo] at kC kY hin ⊢
 clear hew hept hes heg hef heo
 refine AE.ACallG.of_walk (fn:=Tryz.f59) (c:=bodyOf Tryz.f59) GG_stays tabOK Tryz.func59 rfl rfl mixed fun A hA X=>?_
 have c0:A.cmp .neq 0 0=false:=by rw [AE.c_neq hA]; rfl
 have n1:A.bnot true=false:=by rw [AE.c_not hA]; rfl
 have n2:A.bnot false=true:=by rw [AE.c_not hA]; rfl
 have lu:A.llen eu=(us.length:Int):=by rw [llen hA,heu,lsAv_len]
 have lp:A.llen ep=(ps.length:Int):=by rw [llen hA,hep,lsAv_len]
 have lv:A.llen ev=(vs.length:Int):=by rw [llen hA,hev,lsAv_len]
 have la:A.llen ea=na:=by rw [llen hA,hea,lsAv_len,hna]
 have lpp:A.llen epl=np:=by rw [llen hA,hepl,lsAv_len,hnp]
 by_cases h0:st=0
 rotate_left
 ·have e1:e=st:=by rw [he,stepI,if_pos h0]
  obtain ⟨q1,q2,q3,q4,q5⟩:=hrb (by rw [e1]; exact h0)
  have d0:A.cmp .neq st 0=true:=by rw [AE.c_neq hA]; simpa using h0
  subst e1 q1 q2 q3 q4 q5
  clear hin hrc hrb kY he
  (repeat' (first|(refine X.g ?_; cbv)|refine X.splitT ?_|refine X.splitF ?_|refine X.sp (fun hc=>?_) (fun hc=>?_)|refine X.needT ?_|refine X.callsGA [] kC ?_|fail))
  all_goals (refine X.ret _ (X.done rfl ?_); cbv <;> (and_intros <;> first|rfl|trivial))
 subst h0
 rw [stepI,if_neg (fun h=>h rfl)] at he
 by_cases h1:(us.length:Int)≠na∨(ps.length:Int)≠na∨(vs.length:Int)≠np
 ·rw [if_pos h1] at he
  obtain ⟨q1,q2,q3,q4,q5⟩:=hrb (by rw [he]; decide)
  subst he q1 q2 q3 q4 q5
  clear hin hrc hrb kY
  by_cases h2:(us.length:Int)=na
  ·have d1:A.cmp .neq (A.llen eu) (A.llen ea)=false:=by rw [AE.c_neq hA,lu,la,h2]; simp
   by_cases h3:(ps.length:Int)=na
   ·have d2:A.cmp .neq (A.llen ep) (A.llen ea)=false:=by rw [AE.c_neq hA,lp,la,h3]; simp
    have d3:A.cmp .neq (A.llen ev) (A.llen epl)=true:=by
     rw [AE.c_neq hA,lv,lpp,decide_eq_false (by rcases h1 with h|h|h; exact absurd h2 h; exact absurd h3 h; exact h)]; rfl
    clear lu lp lv la lpp
    (repeat' (first|(refine X.g ?_; cbv)|refine X.splitT ?_|refine X.splitF ?_|refine X.sp (fun hc=>?_) (fun hc=>?_)|refine X.needT ?_|refine X.callsGA [] kC ?_|fail))
    all_goals (refine X.ret _ (X.done rfl ?_); cbv <;> (and_intros <;> first|rfl|trivial))
   ·have d2:A.cmp .neq (A.llen ep) (A.llen ea)=true:=by rw [AE.c_neq hA,lp,la,decide_eq_false h3]; rfl
    clear lu lp lv la lpp
    (repeat' (first|(refine X.g ?_; cbv)|refine X.splitT ?_|refine X.splitF ?_|refine X.sp (fun hc=>?_) (fun hc=>?_)|refine X.needT ?_|refine X.callsGA [] kC ?_|fail))
    all_goals (refine X.ret _ (X.done rfl ?_); cbv <;> (and_intros <;> first|rfl|trivial))
  ·have d1:A.cmp .neq (A.llen eu) (A.llen ea)=true:=by rw [AE.c_neq hA,lu,la,decide_eq_false h2]; rfl
   clear lu lp lv la lpp
   (repeat' (first|(refine X.g ?_; cbv)|refine X.splitT ?_|refine X.splitF ?_|refine X.sp (fun hc=>?_) (fun hc=>?_)|refine X.needT ?_|refine X.callsGA [] kC ?_|fail))
   all_goals (refine X.ret _ (X.done rfl ?_); cbv <;> (and_intros <;> first|rfl|trivial))
 rw [if_neg h1] at he
 have d1:A.cmp .neq (A.llen eu) (A.llen ea)=false:=by rw [AE.c_neq hA,lu,la,Classical.not_not.1 fun h=>h1 (.inl h)]; simp
 have d2:A.cmp .neq (A.llen ep) (A.llen ea)=false:=by rw [AE.c_neq hA,lp,la,Classical.not_not.1 fun h=>h1 (.inr (.inl h))]; simp
 have d3:A.cmp .neq (A.llen ev) (A.llen epl)=false:=by rw [AE.c_neq hA,lv,lpp,Classical.not_not.1 fun h=>h1 (.inr (.inr h))]; simp
 clear lu lp lv la lpp
 (repeat' (first|(refine X.g ?_; cbv)|refine X.splitT ?_|refine X.splitF ?_|refine X.sp (fun hc=>?_) (fun hc=>?_)|refine X.needT ?_|refine X.callsGA [] kC ?_|fail))
 refine X.loopG _ _ _ (X.frzB 0 _ _ (Nat.zero_le _) (X.frzB 1 _ _ (Nat.zero_le _) ?_))
 (refine X.g ?_; cbv)
 refine rangeL0 X hA hev (by omega) (fun i=>∀ v∈vs.take i,ok v) (fun z _=>[(57,.v (.int .i64 z))]) (fun v h=>by simp at h) ?_ (fun i z y hz hy hye c9 hI B hB=>?_) (fun z c9 hI B=>?_)
 ·(cbv <;> (and_intros <;> first|rfl|trivial))
 ·have zy:=hvz y (List.mem_of_getElem? hy)
  have hmem:=List.mem_of_getElem? hy
  obtain ⟨yx,yy⟩:=y
  simp only [V2.sz] at zy
  obtain ⟨g,hg⟩:∃ b,b=decide (∀ q∈[yx,yy],q.Good):=⟨_,rfl⟩
  obtain ⟨ax,hax⟩:∃ q,q=Q.of (absR yx.v):=⟨_,rfl⟩
  obtain ⟨ay,hay⟩:∃ q,q=Q.of (absR yy.v):=⟨_,rfl⟩
  obtain ⟨m,hm⟩:∃ q,q=Q.of (maxR ax.v ay.v):=⟨_,rfl⟩
  obtain ⟨c,hc⟩:∃ c,c=cmpR m.v walk.v:=⟨_,rfl⟩
  have k1:=refGood_ok [yx,yy] (by simp only [List.mem_cons,List.not_mem_nil,or_false,forall_eq_or_imp,forall_eq]; omega) (by simp) [yx.c,yy.c] (by rw [lsAv_eq]; rfl) g hg
  have k3:=ratAbs_ok yx (by omega) ax hax
  have k4:=ratAbs_ok yy (by omega) ay hay
  have zx:ax.sz≤2^29:=by rw [hax,sz_of,rs_abs]; have:=yx.rs; omega
  have zy2:ay.sz≤2^29:=by rw [hay,sz_of,rs_abs]; have:=yy.rs; omega
  have k5:=ratMax_ok ax ay (by omega) (by omega) m hm
  have zm:m.sz≤2^30:=by
   rw [hm,sz_of,maxR]
   have:=ax.rs; have:=ay.rs
   split <;> omega
  have k6:=ratCmp_ok m walk (by omega) (by omega) c hc
  have t1:c≤0↔absR yx.v≤walk.v∧absR yy.v≤walk.v:=by rw [hc,cmpR_le,hm,Q.v_of,max_le,hax,hay,Q.v_of,Q.v_of]
  have hok:ok ⟨yx,yy⟩↔g=true∧c≤0:=by
   rw [hwk,t1,hg,decide_eq_true_iff]
   simp only [List.mem_cons,List.not_mem_nil,or_false,forall_eq_or_imp,forall_eq,and_assoc]
  clear hax hay hm hc t1 hg kC kY hin hrc hwk zx zy2 zm
  by_cases hk:ok ⟨yx,yy⟩
  ·obtain ⟨u1,u3⟩:=hok.1 hk
   subst u1
   have f1:A.cmp .gtr c 0=false:=by rw [AE.c_gtr hA]; exact decide_eq_false (by omega)
   have hI' := all_take hI hy hk
   (repeat' (first|(refine X.g ?_; cbv)|refine X.splitT ?_|refine X.splitF ?_|refine X.sp (fun hc=>?_) (fun hc=>?_)|refine X.needT ?_|refine X.idx _ _ _ _ _ _ _ _ hye hz ?_|refine X.drawX _ _ _ (by kernel_rfl) (X.frzB 3 _ _ (Nat.zero_le _) ?_)|refine X.fork _ _ ?_ ?_|(refine X.isCall ?_; refine X.lendsG [4] k1 rfl ?_ (by cbv) ?_; focus (cbv <;> (and_intros <;> first|rfl|trivial)))|refine X.callsGA [] k3 ?_|refine X.callsGA [] k4 ?_|refine X.callsGA [] k5 ?_|refine X.callsGA [] k6 ?_|fail))
   all_goals (refine hB hI' _ ?_; clear hB; (cbv <;> (and_intros <;> first|rfl|trivial)))
  ·have e0:bk=false:=by
    cases bk
    ·rfl
    ·exact absurd (hb2.1 rfl _ hmem) hk
   rw [if_pos e0] at he
   obtain ⟨q1,q2,q3,q4,q5⟩:=hrb (by rw [he]; decide)
   subst he q1 q2 q3 q4 q5
   clear hB hrb
   cases g
   ·(repeat' (first|(refine X.g ?_; cbv)|refine X.splitT ?_|refine X.splitF ?_|refine X.sp (fun hc=>?_) (fun hc=>?_)|refine X.needT ?_|refine X.idx _ _ _ _ _ _ _ _ hye hz ?_|refine X.drawX _ _ _ (by kernel_rfl) (X.frzB 3 _ _ (Nat.zero_le _) ?_)|refine X.fork _ _ ?_ ?_|(refine X.isCall ?_; refine X.lendsG [4] k1 rfl ?_ (by cbv) ?_; focus (cbv <;> (and_intros <;> first|rfl|trivial)))|fail))
    all_goals (refine X.ret _ (X.done rfl ?_); cbv <;> (and_intros <;> first|rfl|trivial))
   have h3:¬ c≤0:=fun h=>hk (hok.2 ⟨rfl,h⟩)
   have f1:A.cmp .gtr c 0=true:=by rw [AE.c_gtr hA]; exact decide_eq_true (by omega)
   (repeat' (first|(refine X.g ?_; cbv)|refine X.splitT ?_|refine X.splitF ?_|refine X.sp (fun hc=>?_) (fun hc=>?_)|refine X.needT ?_|refine X.idx _ _ _ _ _ _ _ _ hye hz ?_|refine X.drawX _ _ _ (by kernel_rfl) (X.frzB 3 _ _ (Nat.zero_le _) ?_)|refine X.fork _ _ ?_ ?_|(refine X.isCall ?_; refine X.lendsG [4] k1 rfl ?_ (by cbv) ?_; focus (cbv <;> (and_intros <;> first|rfl|trivial)))|refine X.callsGA [] k3 ?_|refine X.callsGA [] k4 ?_|refine X.callsGA [] k5 ?_|refine X.callsGA [] k6 ?_|fail))
   all_goals (refine X.ret _ (X.done rfl ?_); cbv <;> (and_intros <;> first|rfl|trivial))
 rw [List.take_length] at hI
 rw [if_neg (fun h=>by rw [hb2.2 hI] at h; cases h)] at he
 clear kC hb2 hwk hI
 by_cases ht:tick=2000
 ·rw [if_pos ht] at he
  obtain ⟨q1,q2,q3,q4,q5⟩:=hrb (by rw [he]; decide)
  have d4:A.cmp .eql tick 2000=true:=by rw [AE.c_eql hA]; exact decide_eq_true ht
  subst he q1 q2 q3 q4 q5
  clear hin hrc hrb kY
  (repeat' (first|(refine X.g ?_; cbv)|refine X.splitT ?_|refine X.splitF ?_|refine X.sp (fun hc=>?_) (fun hc=>?_)|refine X.needT ?_|fail))
  all_goals (refine X.ret _ (X.done rfl ?_); cbv <;> (and_intros <;> first|rfl|trivial))
 rw [if_neg ht] at he
 have d4:A.cmp .eql tick 2000=false:=by rw [AE.c_eql hA]; exact decide_eq_false ht
 obtain ⟨hin2,hlv,ht0,ht1⟩:=hin he
 have hal2:=hal he
 clear hin hal
 obtain ⟨q1,q2,q3,q4,q5⟩:=hrc he
 have htk:A.bin .add .i64 tick 1=rt:=by
  rw [q1]
  obtain ⟨k,hk⟩:∃ k:Nat,tick=k:=⟨tick.toNat,by omega⟩
  rw [addI hA hk (y:=1) (b:=1) rfl (by omega),hk]; rfl
 subst he q2 q3 q4 q5
 clear hrc hrb q1
 (repeat' (first|(refine X.g ?_; cbv)|refine X.splitT ?_|refine X.splitF ?_|refine X.sp (fun hc=>?_) (fun hc=>?_)|refine X.needT ?_|refine X.callsA [] kY ?_|fail))
 refine rangeLS X hA hea (by omega) (fun _=>True) (fun z _=>[(96,.v (.int .i64 z))]) (fun i o=>(o.set 5 (.row 76 4 (gX i))).set 6 (.row 66 10 (gF i))) trivial ?_ (fun i z y hz hy hye c10 hI B hB=>?_) (fun z c10 hI B=>?_)
 ·clear kY hin2
  (cbv <;> (and_intros <;> first|exact hX0|exact hF0|rfl|trivial))
 ·obtain ⟨x,u,p,n,m,b,hx,hu,hp,hn,hb,kO,kMy,hn0,hn1,kH,kN,hX1⟩:=hin2 i y hy
  clear hin2 kY hn hb
  have hi:=(List.getElem?_eq_some_iff.1 hy).1
  have hxe:ex[i]? = some x.c:=by rw [hex]; exact lsAv_get hx
  have hue:eu[i]? = some [.l 3 (lsAv Q.c u)]:=by rw [heu]; exact lsAv_get hu
  have hpe:ep[i]? = some [.b p]:=by rw [hep]; exact lsAv_get hp
  obtain ⟨euu,heuu⟩:∃ es,es=lsAv Q.c u:=⟨_,rfl⟩
  rw [← heuu] at hue kMy
  have atX:AE.AtR i (gX i):=⟨by rw [hxl]; omega⟩
  by_cases hm:p=true∧m=true
  rotate_left
  ·have hn0:=hn0 hm
   subst hn0
   clear hn1
   obtain ⟨xq,xv,xp,xh⟩:=x
   obtain ⟨nq,nv,npw,nh⟩:=n
   obtain ⟨exq,hexq⟩:∃ es,es=lsAv Q.c xq:=⟨_,rfl⟩
   obtain ⟨exv,hexv⟩:∃ es,es=lsAv Q.c xv:=⟨_,rfl⟩
   obtain ⟨enq,henq⟩:∃ es,es=lsAv Q.c nq:=⟨_,rfl⟩
   obtain ⟨env,henv⟩:∃ es,es=lsAv Q.c nv:=⟨_,rfl⟩
   simp only [As.c,← hexq,← hexv] at hxe kO kMy
   simp only [As.c,← henq,← henv] at kO kH kN hX1
   clear hexq hexv henq henv heuu
   have hsX:A.lset (gX i) i [.l 3 enq,.l 3 env,.b npw,.v (.int .i64 nh)]=gX (i+1):=by rw [lset_std hA,hX1]
   have hsX2:=hsX
   cbv at hsX2
   (repeat' (first|(refine X.g ?_; cbv)|refine X.splitT ?_|refine X.splitF ?_|refine X.sp (fun hc=>?_) (fun hc=>?_)|refine X.needT ?_|refine X.idx _ _ _ _ _ _ _ _ hye hz ?_|refine X.idx _ _ _ _ _ _ _ _ hxe hz ?_|refine X.callsGA [] kO ?_|fail))
   cases p
   ·apply shareG X
    ·intro hs
     refine X.drawX _ _ _ (by kernel_rfl) (X.frzB 10 _ _ (Nat.zero_le _) (X.frzB 11 _ _ (Nat.zero_le _) ?_))
     (repeat' (first|(refine X.g ?_; cbv)|refine X.splitT ?_|refine X.splitF ?_|refine X.sp (fun hc=>?_) (fun hc=>?_)|refine X.needT ?_|refine X.fork _ _ ?_ ?_|refine X.idx _ _ _ _ _ _ _ _ hpe hz ?_|refine X.idx _ _ _ _ _ _ _ _ hue hz ?_|fail))
     all_goals exact hs
    by_cases hh:0≤nh
    ·obtain ⟨j,q,f,t,hj,hq,hjl,hf,hF1,kcar,kT⟩:=kH hh
     clear kH kN hf hX1
     rw [← hz] at kcar
     have c0:A.cmp .neq 0 0=false:=by rw [AE.c_neq hA]; rfl
     have atF:AE.AtR j (gF i):=⟨by rw [hfl]; omega⟩
     have f1:A.cmp .geq nh 0=true:=by rw [AE.c_geq hA]; exact decide_eq_true hh
     obtain ⟨⟨fx,fy⟩,fh,ft⟩:=f
     have hsF:A.lset (gF i) j (Fr.c ⟨⟨fx,fy⟩,fh,ft⟩)=gF (i+1):=by rw [lset_std hA,hF1]
     have hsF2:=hsF
     cbv at hsF2
     (repeat' (first|(refine X.g ?_; cbv)|refine X.splitT ?_|refine X.splitF ?_|refine X.sp (fun hc=>?_) (fun hc=>?_)|refine X.needT ?_|refine X.idxA i atX hz ?_|refine X.need _ _ _ atX ?_|refine X.callsGA [] kT ?_|fail))
     refine X.drawX _ _ _ (by kernel_rfl) (X.frzB 12 _ _ (Nat.zero_le _) ?_)
     (repeat' (first|(refine X.g ?_; cbv)|refine X.splitT ?_|refine X.splitF ?_|refine X.sp (fun hc=>?_) (fun hc=>?_)|refine X.needT ?_|refine X.fork _ _ ?_ ?_|refine X.callsGA [] kcar ?_|refine X.idxA j atF hj ?_|refine X.need _ _ _ atF ?_|fail))
     all_goals (refine hB trivial _ ?_; clear hB; (cbv <;> (and_intros <;> first|exact hsX|exact hsX2|exact hsF|exact hsF2|rfl|trivial)))
    ·have hF1:=kN (by omega)
     clear kH kN hX1
     have f1:A.cmp .geq nh 0=false:=by rw [AE.c_geq hA]; exact decide_eq_false hh
     (repeat' (first|(refine X.g ?_; cbv)|refine X.splitT ?_|refine X.splitF ?_|refine X.sp (fun hc=>?_) (fun hc=>?_)|refine X.needT ?_|refine X.idxA i atX hz ?_|refine X.need _ _ _ atX ?_|fail))
     all_goals (refine hB trivial _ ?_; clear hB; (cbv <;> (and_intros <;> first|exact hsX|exact hsX2|exact hF1.symm|rfl|trivial)))
   ·have hm0:m=false:=by cases m; rfl; exact absurd ⟨rfl,rfl⟩ hm
    subst hm0
    apply shareG X
    ·intro hs
     refine X.drawX _ _ _ (by kernel_rfl) (X.frzB 10 _ _ (Nat.zero_le _) (X.frzB 11 _ _ (Nat.zero_le _) ?_))
     (repeat' (first|(refine X.g ?_; cbv)|refine X.splitT ?_|refine X.splitF ?_|refine X.sp (fun hc=>?_) (fun hc=>?_)|refine X.needT ?_|refine X.fork _ _ ?_ ?_|refine X.idx _ _ _ _ _ _ _ _ hpe hz ?_|refine X.idx _ _ _ _ _ _ _ _ hue hz ?_|refine X.callsGA [] kMy ?_|fail))
     all_goals exact hs
    by_cases hh:0≤nh
    ·obtain ⟨j,q,f,t,hj,hq,hjl,hf,hF1,kcar,kT⟩:=kH hh
     clear kH kN hf hX1
     rw [← hz] at kcar
     have c0:A.cmp .neq 0 0=false:=by rw [AE.c_neq hA]; rfl
     have atF:AE.AtR j (gF i):=⟨by rw [hfl]; omega⟩
     have f1:A.cmp .geq nh 0=true:=by rw [AE.c_geq hA]; exact decide_eq_true hh
     obtain ⟨⟨fx,fy⟩,fh,ft⟩:=f
     have hsF:A.lset (gF i) j (Fr.c ⟨⟨fx,fy⟩,fh,ft⟩)=gF (i+1):=by rw [lset_std hA,hF1]
     have hsF2:=hsF
     cbv at hsF2
     (repeat' (first|(refine X.g ?_; cbv)|refine X.splitT ?_|refine X.splitF ?_|refine X.sp (fun hc=>?_) (fun hc=>?_)|refine X.needT ?_|refine X.idxA i atX hz ?_|refine X.need _ _ _ atX ?_|refine X.callsGA [] kT ?_|fail))
     refine X.drawX _ _ _ (by kernel_rfl) (X.frzB 12 _ _ (Nat.zero_le _) ?_)
     (repeat' (first|(refine X.g ?_; cbv)|refine X.splitT ?_|refine X.splitF ?_|refine X.sp (fun hc=>?_) (fun hc=>?_)|refine X.needT ?_|refine X.fork _ _ ?_ ?_|refine X.callsGA [] kcar ?_|refine X.idxA j atF hj ?_|refine X.need _ _ _ atF ?_|fail))
     all_goals (refine hB trivial _ ?_; clear hB; (cbv <;> (and_intros <;> first|exact hsX|exact hsX2|exact hsF|exact hsF2|rfl|trivial)))
    ·have hF1:=kN (by omega)
     clear kH kN hX1
     have f1:A.cmp .geq nh 0=false:=by rw [AE.c_geq hA]; exact decide_eq_false hh
     (repeat' (first|(refine X.g ?_; cbv)|refine X.splitT ?_|refine X.splitF ?_|refine X.sp (fun hc=>?_) (fun hc=>?_)|refine X.needT ?_|refine X.idxA i atX hz ?_|refine X.need _ _ _ atX ?_|fail))
     all_goals (refine hB trivial _ ?_; clear hB; (cbv <;> (and_intros <;> first|exact hsX|exact hsX2|exact hF1.symm|rfl|trivial)))
  obtain ⟨hn3,lu1,lx1,n3,zx,zu⟩:=hn1 hm
  clear hn0 hn1
  obtain ⟨rfl,rfl⟩:=hm
  obtain ⟨bq,hbq⟩:∃ l,l=addQ x.q u:=⟨_,rfl⟩
  have lbq:bq.length=y.links.length:=by rw [hbq]; exact addQ_len lx1 lu1
  rw [← hbq] at hn3
  subst hn3
  obtain ⟨xq,xv,xp,nh⟩:=x
  simp only at hbq lx1 zx
  have hbq2:bq=List.zipWith (fun q u=>Q.of (q.v+u.v)) xq u:=hbq
  obtain ⟨bbq,bbv,bbp,bbh⟩:=b
  obtain ⟨gQ,hgQ⟩:∃ g:Nat→List (List AE.AV),∀ i,g i=lsAv Q.c (bq.take i):=⟨_,fun _=>rfl⟩
  have hQ0:[]=gQ 0:=by rw [hgQ]; exact (lsAv_nil _).symm
  obtain ⟨exq,hexq⟩:∃ es,es=lsAv Q.c xq:=⟨_,rfl⟩
  obtain ⟨exv,hexv⟩:∃ es,es=lsAv Q.c xv:=⟨_,rfl⟩
  obtain ⟨enq,henq⟩:∃ es,es=lsAv Q.c bq:=⟨_,rfl⟩
  obtain ⟨ebq,hebq⟩:∃ es,es=lsAv Q.c bbq:=⟨_,rfl⟩
  obtain ⟨ebv,hebv⟩:∃ es,es=lsAv Q.c bbv:=⟨_,rfl⟩
  have hQn:gQ u.length=enq:=by rw [hgQ,henq,List.take_of_length_le (by omega)]
  have kCl:=cloneRat_ok euu (by rw [heuu,lsAv_len]; omega)
  simp only [As.c,← hexq,← hexv,← hebq,← hebv] at hxe kO kMy
  simp only [As.c,← henq,← heuu] at kH kN hX1
  clear hexv henq hebq hebv hbq
  have hsX:A.lset (gX i) i [.l 3 enq,.l 3 euu,.b true,.v (.int .i64 nh)]=gX (i+1):=by rw [lset_std hA,hX1]
  have hsX2:=hsX
  cbv at hsX2
  (repeat' (first|(refine X.g ?_; cbv)|refine X.splitT ?_|refine X.splitF ?_|refine X.sp (fun hc=>?_) (fun hc=>?_)|refine X.needT ?_|refine X.idx _ _ _ _ _ _ _ _ hye hz ?_|refine X.idx _ _ _ _ _ _ _ _ hxe hz ?_|refine X.callsGA [] kO ?_|fail))
  apply shareG X
  ·intro hs
   refine X.drawX _ _ _ (by kernel_rfl) (X.frzB 10 _ _ (Nat.zero_le _) (X.frzB 11 _ _ (Nat.zero_le _) ?_))
   (repeat' (first|(refine X.g ?_; cbv)|refine X.splitT ?_|refine X.splitF ?_|refine X.sp (fun hc=>?_) (fun hc=>?_)|refine X.needT ?_|refine X.fork _ _ ?_ ?_|refine X.idx _ _ _ _ _ _ _ _ hpe hz ?_|refine X.idx _ _ _ _ _ _ _ _ hue hz ?_|refine X.callsGA [] kMy ?_|fail))
   all_goals exact hs
  clear kO kMy
  apply shareG X
  ·intro hs
   refine X.drawX _ _ _ (by kernel_rfl) ?_
   (repeat' (first|(refine X.g ?_; cbv)|refine X.splitT ?_|refine X.splitF ?_|refine X.sp (fun hc=>?_) (fun hc=>?_)|refine X.needT ?_|refine X.fork _ _ ?_ ?_|refine X.idx _ _ _ _ _ _ _ _ hue hz ?_|refine X.callsA [] kCl ?_|fail))
   all_goals exact hs
  (repeat' (first|(refine X.g ?_; cbv)|refine X.splitT ?_|refine X.splitF ?_|refine X.sp (fun hc=>?_) (fun hc=>?_)|refine X.needT ?_|refine X.idx _ _ _ _ _ _ _ _ hue hz ?_|fail))
  clear kCl
  refine X.loopG _ _ _ (X.nilB 12 0 29 3 _ _ ?_)
  (refine X.g ?_; cbv)
  refine rangeLS X hA heuu (by omega) (fun _=>True) (fun z _=>[(136,.v (.int .i64 z))]) (fun i o=>(o.set 12 (.box [.r 13,.l 3 euu,.b true,.v (.int .i64 nh)] 76)).set 13 (.row 29 3 (gQ i))) trivial ?_ (fun i2 z2 y2 hz2 hy2 hye2 c12 hI2 B2 hB2=>?_) (fun z2 c12 hI2 B2=>?_)
  ·clear hB kH kN
   (cbv <;> (and_intros <;> first|exact hQ0|rfl|trivial))
  ·have hi2:=(List.getElem?_eq_some_iff.1 hy2).1
   obtain ⟨qi,hqi⟩:∃ x,xq[i2]? = some x:=⟨_,List.getElem?_eq_getElem (by omega)⟩
   have zq:=zx qi (List.mem_of_getElem? hqi)
   have zu2:=zu y2 (List.mem_of_getElem? hy2)
   obtain ⟨nq', hnq'⟩:∃ r,r=Q.of (qi.v+y2.v):=⟨_,rfl⟩
   have k3:=ratAdd_ok qi y2 (by omega) (by omega) nq' hnq'
   have hbqi:bq[i2]? = some nq' := by rw [hbq2,hnq']; exact zip_get hqi hy2
   have eQ:A.lapp (gQ i2) [nq'.c]=gQ (i2+1):=lapp_take hA hbqi (hgQ i2) (hgQ (i2+1))
   have g1:exq[i2]? = some qi.c:=by rw [hexq]; exact lsAv_get hqi
   have hgrow:∀ c,AE.GrowR (A.llen (gQ i2)) (A.llen [c]) 40:=fun c=>grow1 hA (n:=8) (by rw [hgQ,lsAv_len,List.length_take]; omega) (by decide) (by decide)
   clear hnq' hbqi hQ0 hQn hbq2 hB kH kN
   (repeat' (first|(refine X.g ?_; cbv)|refine X.splitT ?_|refine X.splitF ?_|refine X.sp (fun hc=>?_) (fun hc=>?_)|refine X.needT ?_|fail))
   apply shareG X
   ·intro hs
    refine X.drawX _ _ _ (by kernel_rfl) ?_
    (repeat' (first|(refine X.g ?_; cbv)|refine X.splitT ?_|refine X.splitF ?_|refine X.sp (fun hc=>?_) (fun hc=>?_)|refine X.needT ?_|refine X.fork _ _ ?_ ?_|refine X.idx _ _ _ _ _ _ _ _ g1 hz2 ?_|refine X.idx _ _ _ _ _ _ _ _ hue hz ?_|refine X.idx _ _ _ _ _ _ _ _ hye2 hz2 ?_|refine X.callsGA [] k3 ?_|refine X.need _ _ _ (hgrow _) ?_|fail))
    all_goals exact hs
   all_goals (refine hB2 trivial _ ?_; clear hB2; (cbv <;> (and_intros <;> first|exact eQ|rfl|trivial)))
  rw [hQn]
  clear hQn hQ0 hgQ hbq2 hexq
  refine X.frz 13 _ _ ?_
  by_cases hh:0≤nh
  ·obtain ⟨j,q,f,t,hj,hq,hjl,hf,hF1,kcar,kT⟩:=kH hh
   clear kH kN hf hX1
   rw [← hz] at kcar
   have c0:A.cmp .neq 0 0=false:=by rw [AE.c_neq hA]; rfl
   have atF:AE.AtR j (gF i):=⟨by rw [hfl]; omega⟩
   have f1:A.cmp .geq nh 0=true:=by rw [AE.c_geq hA]; exact decide_eq_true hh
   obtain ⟨⟨fx,fy⟩,fh,ft⟩:=f
   have hsF:A.lset (gF i) j (Fr.c ⟨⟨fx,fy⟩,fh,ft⟩)=gF (i+1):=by rw [lset_std hA,hF1]
   have hsF2:=hsF
   cbv at hsF2
   (repeat' (first|(refine X.g ?_; cbv)|refine X.splitT ?_|refine X.splitF ?_|refine X.sp (fun hc=>?_) (fun hc=>?_)|refine X.needT ?_|refine X.idxA i atX hz ?_|refine X.need _ _ _ atX ?_|refine X.callsGA [] kT ?_|fail))
   refine X.drawX _ _ _ (by kernel_rfl) (X.frzB 12 _ _ (Nat.zero_le _) ?_)
   (repeat' (first|(refine X.g ?_; cbv)|refine X.splitT ?_|refine X.splitF ?_|refine X.sp (fun hc=>?_) (fun hc=>?_)|refine X.needT ?_|refine X.fork _ _ ?_ ?_|refine X.callsGA [] kcar ?_|refine X.idxA j atF hj ?_|refine X.need _ _ _ atF ?_|fail))
   all_goals (refine hB trivial _ ?_; clear hB; (cbv <;> (and_intros <;> first|exact hsX|exact hsX2|exact hsF|exact hsF2|rfl|trivial)))
  ·have hF1:=kN (by omega)
   clear kH kN hX1
   have f1:A.cmp .geq nh 0=false:=by rw [AE.c_geq hA]; exact decide_eq_false hh
   (repeat' (first|(refine X.g ?_; cbv)|refine X.splitT ?_|refine X.splitF ?_|refine X.sp (fun hc=>?_) (fun hc=>?_)|refine X.needT ?_|refine X.idxA i atX hz ?_|refine X.need _ _ _ atX ?_|fail))
   all_goals (refine hB trivial _ ?_; clear hB; (cbv <;> (and_intros <;> first|exact hsX|exact hsX2|exact hF1.symm|rfl|trivial)))
 clear kY hin2
 (repeat' (first|(refine X.g ?_; cbv)|refine X.splitT ?_|refine X.splitF ?_|refine X.sp (fun hc=>?_) (fun hc=>?_)|refine X.needT ?_|fail))
 refine rangeLS X hA hev (by omega) (fun _=>True) (fun z _=>[(189,.v (.int .i64 z))]) (fun i o=>o.set 7 (.row 44 6 (gP i))) trivial ?_ (fun i z y hz hy hye c11 hI B hB=>?_) (fun z c11 hI B=>?_)
 ·(cbv <;> (and_intros <;> first|exact hP0|rfl|trivial))
 ·have hi:=(List.getElem?_eq_some_iff.1 hy).1
  obtain ⟨q,hq⟩:∃ q,pp[i]? = some q:=⟨_,List.getElem?_eq_getElem (by omega)⟩
  have zy:=hvz y (List.mem_of_getElem? hy)
  have zq:=hpz q (List.mem_of_getElem? hq)
  obtain ⟨n,hn⟩:∃ n,n=V2.of (q.v.add y.v):=⟨_,rfl⟩
  have kA:=vecAdd_ok q y (by omega) (by omega) n hn
  have hP:=hP1 i q y hq hy
  rw [← hn] at hP
  have hqe:(gP i)[i]? = some q.c:=hP2 i q hq
  have atP:AE.AtR i (gP i):=⟨by rw [hpl']; omega⟩
  clear hn
  obtain ⟨n1,n2⟩:=n
  have hsP:A.lset (gP i) i (V2.c ⟨n1,n2⟩)=gP (i+1):=by rw [lset_std hA,hP]
  have hsP2:=hsP
  cbv at hsP2
  (repeat' (first|(refine X.g ?_; cbv)|refine X.splitT ?_|refine X.splitF ?_|refine X.sp (fun hc=>?_) (fun hc=>?_)|refine X.needT ?_|refine X.idx _ _ _ _ _ _ _ _ hye hz ?_|fail))
  refine X.drawX _ _ _ (by kernel_rfl) (X.frzB 10 _ _ (Nat.zero_le _) ?_)
  (repeat' (first|(refine X.g ?_; cbv)|refine X.splitT ?_|refine X.splitF ?_|refine X.sp (fun hc=>?_) (fun hc=>?_)|refine X.needT ?_|refine X.fork _ _ ?_ ?_|refine X.idxA i atP hz ?_|refine X.ldq _ _ _ _ _ _ _ _ _ hqe ?_|refine X.callsGA [] kA ?_|refine X.need _ _ _ atP ?_|fail))
  all_goals (refine hB trivial _ ?_; clear hB; (cbv <;> (and_intros <;> first|exact hsP|exact hsP2|rfl|trivial)))
 (repeat' (first|(refine X.g ?_; cbv)|refine X.splitT ?_|refine X.splitF ?_|refine X.sp (fun hc=>?_) (fun hc=>?_)|refine X.needT ?_|fail))
 all_goals (refine X.ret _ ?_; refine X.frz 5 _ _ ?_; refine X.frz 6 _ _ ?_; refine X.frz 7 _ _ ?_; refine X.frz 8 _ _ ?_; refine X.done rfl ?_; cbv <;> (and_intros <;> first|exact htk|rfl|trivial))
end Go.Proofs.YthadehkggddgoaaGreatDoor
end
section
section
set_option linter.unusedVariables false
set_option linter.unusedSimpArgs false
namespace Go.Proofs.YthadehkggddgoaaGreatDoor
open Go Go.Num
theorem lw_cst {α : Type} {ρ : α → Nat} {k:Nat}:∀ l:List α,(∀ a∈l,ρ a≤k)→lw ρ l≤k*l.length+1
 | [],_=>by simp [lw]
 | a :: l,h=>by
  have h1:=lw_cst (k:=k) l (fun x hx=>h x (List.mem_cons_of_mem _ hx))
  have h2:=h a (List.mem_cons_self ..)
  simp only [lw,List.map_cons,List.sum_cons,List.length_cons,Nat.mul_add] at *; omega
theorem sum_wt1:∀ l:List Q,(l.map Q.sz).sum+l.length≤(l.map Q.wt).sum
 | []=>Nat.le_refl _
 | q :: l=>by
  have h1:=sum_wt1 l
  simp only [List.map_cons,List.sum_cons,List.length_cons,Q.wt,Q.sz] at *; omega
theorem Lk.wt6 (k:Lk):6≤k.wt:=by
 have:=k.length.wt1; have:=k.low.wt1; have:=k.high.wt1; have:=k.speed.wt1; have:=k.brake.wt1; have:=lw1 V2.wt k.shape
 simp only [Lk.wt]; omega
theorem links_wt:∀ l:List Lk,6*l.length+1≤lw Lk.wt l
 | []=>by simp [lw]
 | k :: l=>by
  have h1:=links_wt l
  have h2:=k.wt6
  simp only [lw,List.map_cons,List.sum_cons,List.length_cons] at *; omega
theorem Ar.wt_links (a:Ar):6*a.links.length+4≤a.wt:=by
 have:=links_wt a.links
 have:=a.base.at_.x.wt1; have:=a.base.at_.y.wt1; have:=a.base.turn.t.wt1
 simp only [Ar.wt,Fr.wt,V2.wt,Tn.wt]; omega
theorem Wk.wt_arm {w:Wk} {a:Ar} (h:a∈w.arms):a.wt+6≤w.wt:=by
 have h1:=lw_mem (ρ:=Ar.wt) h
 have:=lw1 (lw V2.wt) w.walls; have:=lw1 Pt.wt w.parts; have:=lw1 Sl.wt w.slots; have:=lw1 Gt.wt w.gates; have:=w.walk.wt1
 simp only [Wk.wt]; omega
theorem Ss.wt_arm {s:Ss} {x:As} (h:x∈s.arms):x.wt+3≤s.wt:=by
 have h1:=lw_mem (ρ:=As.wt) h
 have:=lw1 Fr.wt s.parts; have:=lw1 V2.wt s.people; have:=lw1 (fun _:Bool=>1) s.opens
 simp only [Ss.wt]; omega
theorem addQ_sum:∀ q u:List Q,((addQ q u).map Q.sz).sum≤(q.map Q.sz).sum+(u.map Q.sz).sum+3*u.length
 | [],u=>by simp [addQ]
 | q :: qs,[]=>by simp [addQ]
 | q :: qs,u :: us=>by
  have h1:=addQ_sum qs us
  have h2:=rs_add q.v u.v
  have:=q.rs; have:=u.rs
  have h3:(Q.of (q.v+u.v)).sz=rs (q.v+u.v):=rfl
  simp only [addQ,List.zipWith_cons_cons,List.map_cons,List.sum_cons,List.length_cons,h3] at *; omega
theorem braked_sum:∀ (ks:List Lk) (v:List Q),(∀ k∈ks,k.brake.sz≤3)→((List.zipWith (fun k v:_=>Q.of (slowR (Lk.brake k).v (Q.v v))) ks v).map Q.sz).sum≤(v.map Q.sz).sum+6*ks.length
 | [],v,_=>by simp
 | k :: ks,[],_=>by simp
 | k :: ks,v :: vs,h=>by
  have h1:=braked_sum ks vs fun k hk=>h k (List.mem_cons_of_mem _ hk)
  have h2:=rs_slow k.brake.v v.v
  have h3:=h k (List.mem_cons_self ..)
  have:=k.brake.rs; have:=v.rs
  have h4:(Q.of (slowR k.brake.v v.v)).sz=rs (slowR k.brake.v v.v):=rfl
  simp only [List.zipWith_cons_cons,List.map_cons,List.sum_cons,List.length_cons,h4] at *; omega
theorem brakedV_mem {a:Ar} {v:List Q} {n:Nat} (hk:∀ k∈a.links,k.brake.sz≤3) (h2:∀ x∈v,x.sz≤n):∀ x∈brakedV a v,x.sz≤n+6:=by
 intro x hx
 obtain ⟨i,hi0,rfl⟩:=List.getElem_of_mem hx
 have hi:=hi0
 rw [brakedV,List.length_zipWith] at hi
 have e:(brakedV a v)[i]? = some (Q.of (slowR (a.links[i]'(by omega)).brake.v (v[i]'(by omega)).v)):=zip_get (List.getElem?_eq_getElem _) (List.getElem?_eq_getElem _)
 rw [List.getElem?_eq_getElem hi0] at e
 rw [Option.some.inj e,sz_of]
 have h3:=rs_slow (a.links[i]'(by omega)).brake.v (v[i]'(by omega)).v
 have:=hk _ (List.getElem_mem (l:=a.links) (n:=i) (by omega)); have:=h2 _ (List.getElem_mem (l:=v) (n:=i) (by omega))
 have:=(a.links[i]'(by omega)).brake.rs; have:=(v[i]'(by omega)).rs
 omega
theorem sum_mem:∀ (l:List Q) (x:Q),x∈l→x.sz≤(l.map Q.sz).sum
 | y :: l,x,h=>by
  simp only [List.map_cons,List.sum_cons]
  rcases List.mem_cons.1 h with rfl|h
  ·omega
  ·have:=sum_mem l x h; omega
theorem stepC_zero {w:Wk} {s:Ss} {us:List (List Q)} {ps:List Bool} {vs:List V2} (h:stepC w s us ps vs=0):stateC w s=0∧us.length=w.arms.length∧ps.length=w.arms.length∧vs.length=s.people.length∧(∀ v∈vs,walkOK w v)∧s.tick≠2000:=by
 rw [stepC,stepI] at h
 split at h
 ·rename_i h1; exact absurd h h1
 ·rename_i h1
  split at h
  ·omega
  ·rename_i h2
   split at h
   ·omega
   ·rename_i h3
    split at h
    ·omega
    ·rename_i h4
     refine ⟨Classical.not_not.1 h1,by omega,by omega,by omega,?_,h4⟩
     exact Classical.byContradiction fun hn=>h3 (decide_eq_false hn)
structure ArmFit (a:Ar) (y:As):Prop where
 len:y.q.length=a.links.length
 vlen:y.v.length=a.links.length
 sum:(y.q.map Q.sz).sum≤2^20
 vs:∀ x∈y.v,x.sz≤2^20+6
def wishW (us:List (List Q)):Nat:=lw (lw Q.wt) us
theorem brake_fit {w:Wk} {s:Ss} (hw:w.wt+s.wt≤1048576) (h0:stateC w s=0) {i:Nat} {a:Ar} {x:As} (ha:w.arms[i]? = some a) (hx:s.arms[i]? = some x):BrakeOK a x.q x.v∧(x.q.map Q.sz).sum+(x.v.map Q.sz).sum+9*a.links.length≤2^20∧(x.q.map Q.sz).sum+2*a.links.length+1≤s.wt:=by
 have ok:=(worksC_zero (stateC_opens h0).2.2.2.2.1).arms a (List.mem_of_getElem? ha)
 have one:=oneC_zero (stateC_one h0 ha hx)
 have hq:=(fitsC_zero one.2.2.1).1
 have h1:=Wk.wt_arm (List.mem_of_getElem? ha)
 have h2:=Ss.wt_arm (List.mem_of_getElem? hx)
 have h3:=a.wt_links
 have h4:=sum_wt1 x.q
 have h5:=sum_wt1 x.v
 have n3:=(armC_zero ok).2.2.1
 have hv:=one.2.2.2.1
 simp only [As.wt,lw] at h2
 refine ⟨⟨(w.le_wt (n:=1048576) (by omega) (by decide)).arms a (List.mem_of_getElem? ha),ok,hq,by omega,fun y hy=>?_,fun y hy=>?_⟩,by omega,by omega⟩
 ·have:=sum_mem _ y hy; omega
 ·have:=sum_mem _ y hy; omega
theorem arm_fit {w:Wk} {s:Ss} {us:List (List Q)} {ps:List Bool} (hw:w.wt+s.wt+wishW us≤1048576) (h0:stateC w s=0) {i:Nat} {a:Ar} (ha:w.arms[i]? = some a):ArmFit a (nA w s us ps i):=by
 have gx:=(stateC_opens h0).2.2.1
 have hi:=(List.getElem?_eq_some_iff.1 ha).1
 have ga:arAt w (i:Int)=a:=by rw [arAt,Int.toNat_natCast,List.getD_eq_getElem?_getD,ha]; rfl
 have hx:s.arms[i]? = some (asAt s i):=by rw [asAt,Int.toNat_natCast]; exact getD_some (by omega) _
 obtain ⟨B,b1,b2⟩:=brake_fit (by omega) h0 ha hx
 rw [nA,oneA,ga]
 split
 ·rename_i h
  obtain ⟨m1,_⟩:=of_decide_eq_true h.2
  have hu:(us.getD i [])∈us∨us.getD i []=[]:=by
   rw [List.getD_eq_getElem?_getD]
   cases hq:us[i]? with
   | none=>exact .inr rfl
   | some u=>exact .inl (List.mem_of_getElem? hq)
  have hs:((us.getD i []).map Q.sz).sum+(us.getD i []).length≤wishW us:=by
   rcases hu with hu|hu
   ·have h1:=lw_mem (ρ:=lw Q.wt) hu
    have h2:=sum_wt1 (us.getD i [])
    simp only [lw] at h1
    simp only [wishW,lw]; omega
   ·rw [hu]; simp
  have h4:=addQ_sum (asAt s i).q (us.getD i [])
  refine ⟨addQ_len B.ql m1,m1,by show ((addQ _ _).map Q.sz).sum≤_; omega,fun x hx=>?_⟩
  have hx:x∈us.getD i []:=hx
  have:=sum_mem _ x hx
  omega
 ·have hk:∀ k∈a.links,k.brake.sz≤3:=fun k hk=>(B.link hk).1
  have h4:=addQ_sum (asAt s i).q (brakedV a (asAt s i).v)
  have h5:=braked_sum a.links (asAt s i).v hk
  have h6:=brakedV_len B.vl
  refine ⟨addQ_len B.ql h6,h6,?_,fun x hx=>?_⟩
  ·show ((addQ _ _).map Q.sz).sum≤_
   have h7:((brakedV a (asAt s i).v).map Q.sz).sum≤((asAt s i).v.map Q.sz).sum+6*a.links.length:=h5
   omega
  ·refine brakedV_mem hk (fun y hy=>?_) x hx
   have:=sum_mem _ y hy; omega
theorem tip_fit {a:Ar} {y:As} (h:ArmFit a y) (hle:a.le (2^28)) (ok:armC a=0):TipOK a y.q:=by
 obtain ⟨k1,_,_,_,k5,_⟩:=armC_zero ok
 simp only [List.mem_cons,List.not_mem_nil,or_false,forall_eq_or_imp,forall_eq] at k5
 obtain ⟨k5,k6,k7⟩:=k5
 have z5:=k5.size; have z6:=k6.size; have z7:=k7.size
 refine ⟨hle,ok,h.len,fun q hq=>?_,?_,?_,fun k hk=>?_,?_⟩
 ·have:=sum_mem _ q hq; have:=h.sum; omega
 ·simp only [Q.sz]; omega
 ·simp only [V2.sz,Q.sz]; omega
 ·have:=(linkC_zero (k1 k hk)).1.size
  simp only [Q.sz]; omega
 ·rw [sumQ,List.take_length]; exact h.sum
theorem step_ok {w:Wk} {s:Ss} {us:List (List Q)} {ps:List Bool} {vs:List V2} (hw:w.wt+s.wt+wishW us≤1048576) (h:stepC w s us ps vs=0):StepOK w s us ps vs:=by
 obtain ⟨h0,_⟩:=stepC_zero h
 have hle:=w.le_wt (n:=1048576) (by omega) (by decide)
 have hok:=worksC_zero (stateC_opens h0).2.2.2.2.1
 refine ⟨h0,fun i a x ha hx=>(brake_fit (by omega) h0 ha hx).1,fun u hu=>?_,fun i a ha=>tip_fit (arm_fit hw h0 ha) (hle.arms a (List.mem_of_getElem? ha)) (hok.arms a (List.mem_of_getElem? ha)),fun p hp=>?_⟩
 ·have h1:=lw_mem (ρ:=lw Q.wt) hu
  have h2:=sum_wt1 u
  simp only [wishW] at hw
  simp only [lw] at h1 hw
  refine ⟨fun y hy=>?_,by omega⟩
  have:=sum_mem _ y hy
  omega
 ·have h1:=lw_mem (ρ:=Pt.wt) hp
  have h2:=(w.parts_wt (n:=1048576) (by omega)).2.2.1
  simp only [Pt.wt] at h1
  exact p.grasp.le_wt (by omega)
theorem armsT_all {w:Wk} {s:Ss} {us:List (List Q)} {ps:List Bool} {P:As→Prop} (h0:∀ x∈s.arms,P x):∀ t,(∀ i,i<t→P (nA w s us ps i))→∀ x∈armsT w s us ps t,P x
 | 0,_,x,hx=>h0 x hx
 | t+1,h,x,hx=>by
  rw [armsT] at hx
  rcases List.mem_or_eq_of_mem_set hx with hx|rfl
  ·exact armsT_all h0 t (fun i hi=>h i (by omega)) x hx
  ·exact h t (by omega)
theorem partsT_all {w:Wk} {s:Ss} {us:List (List Q)} {ps:List Bool} {P:Fr→Prop} (h0:∀ x∈s.parts,P x):∀ t,(∀ i,i<t→0≤(nA w s us ps i).holds→P (heldF (arAt w i) (nA w s us ps i).q (partAt w (nA w s us ps i).holds)))→∀ x∈partsT w s us ps t,P x
 | 0,_,x,hx=>h0 x hx
 | t+1,h,x,hx=>by
  rw [partsT] at hx
  split at hx
  ·rename_i hh
   rcases List.mem_or_eq_of_mem_set hx with hx|rfl
   ·exact partsT_all h0 t (fun i hi=>h i (by omega)) x hx
   ·exact h t (by omega) hh
  ·exact partsT_all h0 t (fun i hi=>h i (by omega)) x hx
theorem peopleT_all {s:Ss} {vs:List V2} {P:V2→Prop} (h0:∀ x∈s.people,P x):∀ t,(∀ i,i<t→P (V2.of ((pAt s.people i).v.add (pAt vs i).v)))→∀ x∈peopleT s vs t,P x
 | 0,_,x,hx=>h0 x hx
 | t+1,h,x,hx=>by
  rw [peopleT] at hx
  rcases List.mem_or_eq_of_mem_set hx with hx|rfl
  ·exact peopleT_all h0 t (fun i hi=>h i (by omega)) x hx
  ·exact h t (by omega)
theorem V2.wt_sz (p:V2):p.wt≤2+4*p.sz:=by
 have:=p.x.wt_sz; have:=p.y.wt_sz
 simp only [V2.wt,V2.sz]; omega
theorem arm_wt {a:Ar} {y:As} (h:ArmFit a y) (n3:a.links.length≤3):y.wt≤2^24:=by
 have h1:lw Q.wt y.q≤(1+2*2^20)*y.q.length+1:=lw_cst _ fun q hq=>by
  have:=sum_mem _ q hq; have:=h.sum; have:=q.wt_sz; omega
 have h2:lw Q.wt y.v≤(1+2*(2^20+6))*y.v.length+1:=lw_cst _ fun q hq=>by
  have:=h.vs q hq; have:=q.wt_sz; omega
 have e1:=h.len
 have e2:=h.vlen
 have h3:(1+2*2^20)*y.q.length≤(1+2*2^20)*3:=Nat.mul_le_mul_left _ (by omega)
 have h4:(1+2*(2^20+6))*y.v.length≤(1+2*(2^20+6))*3:=Nat.mul_le_mul_left _ (by omega)
 simp only [As.wt]; omega
theorem stepped_wt {w:Wk} {s:Ss} {us:List (List Q)} {ps:List Bool} {vs:List V2} (hw:w.wt+s.wt+wishW us+lw V2.wt vs≤1048576) (h:stepC w s us ps vs=0):(stepped w s us ps vs).wt≤2^40:=by
 obtain ⟨h0,_,_,hv,_⟩:=stepC_zero h
 have K:=step_ok (by omega) h
 obtain ⟨_,gp4,gx,gp,gw,_⟩:=stateC_opens h0
 have hok:=worksC_zero gw
 have na:=hok.narms.2
 have np:=hok.nparts
 obtain ⟨s1,s2,s3,s4⟩:=s.parts_wt (Nat.le_refl _)
 have hga:∀ i,i<w.arms.length→w.arms[i]? = some (arAt w i):=fun i hi=>by rw [arAt,Int.toNat_natCast]; exact getD_some hi _
 have a1:lw As.wt (armsT w s us ps w.arms.length)≤2^24*(armsT w s us ps w.arms.length).length+1:=lw_cst _ (armsT_all (fun x hx=>by have:=Ss.wt_arm hx; omega) _ fun i hi=>by
  have ha:=hga i hi
  exact arm_wt (arm_fit (by omega) h0 ha) (armC_zero (hok.arms _ (List.mem_of_getElem? ha))).2.2.1)
 have a2:lw Fr.wt (partsT w s us ps w.arms.length)≤2^34*(partsT w s us ps w.arms.length).length+1:=lw_cst _ (partsT_all (fun x hx=>by have:=lw_mem (ρ:=Fr.wt) hx; omega) _ fun i hi hh=>by
  have ha:=hga i hi
  have hx:s.arms[i]? = some (asAt s i):=by rw [asAt,Int.toNat_natCast]; exact getD_some (by omega) _
  have one:=oneC_zero (stateC_one h0 ha hx)
  have e:(nA w s us ps i).holds=(asAt s i).holds:=oneA_holds _ _ _ _
  have hq:partAt w (nA w s us ps i).holds∈w.parts:=List.mem_of_getElem? (i:=(nA w s us ps i).holds.toNat) (by rw [partAt]; exact getD_some (by omega) _)
  have:=Fr.wt_le (held_le (K.tip i _ ha) (K.part _ hq))
  omega)
 have a3:lw V2.wt (peopleT s vs vs.length)≤2^24*(peopleT s vs vs.length).length+1:=lw_cst _ (peopleT_all (fun x hx=>by have:=lw_mem (ρ:=V2.wt) hx; omega) _ fun i hi=>by
  have e1:pAt s.people i∈s.people:=List.mem_of_getElem? (i:=i) (by rw [pAt]; exact getD_some (by omega) _)
  have e2:pAt vs i∈vs:=List.mem_of_getElem? (i:=i) (by rw [pAt]; exact getD_some (by omega) _)
  have g1:=lw_mem (ρ:=V2.wt) e1; have g2:=lw_mem (ρ:=V2.wt) e2
  have g3:=(pAt s.people i).sz_wt; have g4:=(pAt vs i).sz_wt
  have g5:=(pAt s.people i).rs; have g6:=(pAt vs i).rs
  have g7:=RV.rs_add (pAt s.people i).v (pAt vs i).v
  have g8:=(V2.of ((pAt s.people i).v.add (pAt vs i).v)).wt_sz
  rw [V2.sz_of] at g8
  omega)
 rw [armsT_len] at a1
 rw [partsT_len] at a2
 rw [peopleT_len] at a3
 have b1:2^24*s.arms.length≤2^24*4:=Nat.mul_le_mul_left _ (by omega)
 have b2:2^34*s.parts.length≤2^34*6:=Nat.mul_le_mul_left _ (by omega)
 have b3:2^24*s.people.length≤2^24*4:=Nat.mul_le_mul_left _ (by omega)
 show lw As.wt (armsT w s us ps w.arms.length)+lw Fr.wt (partsT w s us ps w.arms.length)+lw V2.wt (peopleT s vs vs.length)+lw (fun _:Bool=>1) s.opens≤_
 omega
theorem stepped_fit {w:Wk} {s:Ss} {us:List (List Q)} {ps:List Bool} {vs:List V2} (hw:w.wt+s.wt+wishW us+lw V2.wt vs≤1048576) (hi:s.ints) (h:stepC w s us ps vs=0):(stepped w s us ps vs).few∧(stepped w s us ps vs).S.size<2^60∧(stepped w s us ps vs).Short:=by
 obtain ⟨h0,_,_,hv,_⟩:=stepC_zero h
 obtain ⟨g0,gp4,gx,gp,gw,_,t1,t2⟩:=stateC_opens h0
 have hok:=worksC_zero gw
 have na:=hok.narms.2
 have h1:=stepped_wt hw h
 have h2:=(stepped w s us ps vs).S_size
 have hga:∀ i,i<w.arms.length→w.arms[i]? = some (arAt w i):=fun i hi=>by rw [arAt,Int.toNat_natCast]; exact getD_some hi _
 obtain ⟨f1,f2,f3,f4,f5⟩:=(s.few_wt (n:=1048576) (by omega) (by decide)).short
 refine ⟨(stepped w s us ps vs).fewI_wt (n:=2^40) h1 (by decide) ⟨?_,?_⟩,by omega,?_,?_,?_,?_,f5⟩
 ·show I64 (s.tick+1)
  unfold I64; omega
 ·refine armsT_all (fun x hx=>hi.2 x hx) w.arms.length fun i hi2=>?_
  have hx:s.arms[i]? = some (asAt s i):=by rw [asAt,Int.toNat_natCast]; exact getD_some (by omega) _
  have e:(nA w s us ps i).holds=(asAt s i).holds:=oneA_holds _ _ _ _
  rw [e]; exact hi.2 _ (List.mem_of_getElem? hx)
 ·show (armsT _ _ _ _ _).length<_
  rw [armsT_len]; exact f1
 ·refine armsT_all f2 w.arms.length fun i hi2=>?_
  have ha:=hga i hi2
  have g:=arm_fit (us:=us) (ps:=ps) (by omega) h0 ha
  have n3:=(armC_zero (hok.arms _ (List.mem_of_getElem? ha))).2.2.1
  have:=g.len; have:=g.vlen
  exact ⟨by omega,by omega⟩
 ·show (partsT _ _ _ _ _).length<_
  rw [partsT_len]; exact f3
 ·show (peopleT _ _ _).length<_
  rw [peopleT_len]; exact f4
end Go.Proofs.YthadehkggddgoaaGreatDoor
end
section
section
set_option maxRecDepth 100000
set_option maxHeartbeats 0
set_option linter.unusedVariables false
set_option linter.unusedSimpArgs false
namespace Go.Proofs.YthadehkggddgoaaGreatDoor
open Go Go.Num
theorem moveSteps_ok (w:Wk) (hw:w.Le) (s:Ss) (hs:s.Fit) (us:List (List Q)) (ps:List Bool) (vs:List V2) (hul:us.length<2^40) (hpl:ps.length<2^40) (hvl:vs.length<2^40) (hvz:∀ v∈vs,v.sz≤2^28) (hpz:∀ v∈s.people,v.sz≤2^28) (hK:stepC w s us ps vs=0→StepOK w s us ps vs) (hF:stepC w s us ps vs=0→(stepped w s us ps vs).few∧(stepped w s us ps vs).S.size<2^60∧(stepped w s us ps vs).Short) (eu ep ev:List (List AE.AV)) (heu:eu=lsAv wishC us) (hep:ep=lsAv boolC ps) (hev:ev=lsAv V2.c vs):AE.ACallG GG Tryz.prog 10 [] [.a w.c,.a s.c,.l 1 eu,.l 1 ep,.l 6 ev] [] (.b true):=by
 have kM:=moveBegun_ok
 obtain ⟨e,he⟩:∃ e,e=stepC w s us ps vs:=⟨_,rfl⟩
 obtain ⟨r,hr⟩:∃ r,r=if e≠0 then Ss.nil else stepped w s us ps vs:=⟨_,rfl⟩
 rw [← he] at hK hF
 have k1:=moveStep_ok w hw s hs.le hs.Few us ps vs hul hpl hvl hvz hpz e he hK r hr eu ep ev heu hep hev
 have k2:=refStep_ok w hw s hs.le hs.Few us ps vs hul hpl hvl hvz hpz e he hK r hr eu ep ev heu hep hev
 have f1:r.few∧r.S.size<2^60∧r.Short:=by
  rw [hr]
  split
  ·exact ⟨⟨⟨by decide,by decide⟩,⟨by decide,fun x h=>by cases h⟩,⟨by decide,fun x h=>by cases h⟩,⟨by decide,fun x h=>by cases h⟩,⟨by decide,fun x h=>by cases h⟩⟩,nil_size,nil_short⟩
  ·rename_i h; exact hF (Classical.not_not.1 h)
 have k3:=sameState_ok r r f1.2.2 f1.2.2 f1.1 f1.1 f1.2.1 f1.2.1 true (by simp)
 clear hr f1 hF hK he hw hs hvz hpz heu hep hev
 obtain ⟨arms,walls,parts,slots,gates,walk⟩:=w
 obtain ⟨tick,xs,fs,pp,os⟩:=s
 obtain ⟨ea,hea⟩:∃ es,es=lsAv Ar.c arms:=⟨_,rfl⟩
 obtain ⟨ew,hew⟩:∃ es,es=lsAv wallC walls:=⟨_,rfl⟩
 obtain ⟨ept,hept⟩:∃ es,es=lsAv Pt.c parts:=⟨_,rfl⟩
 obtain ⟨es,hes⟩:∃ es,es=lsAv Sl.c slots:=⟨_,rfl⟩
 obtain ⟨eg,heg⟩:∃ es,es=lsAv Gt.c gates:=⟨_,rfl⟩
 obtain ⟨ex,hex⟩:∃ es,es=lsAv As.c xs:=⟨_,rfl⟩
 obtain ⟨ef,hef⟩:∃ es,es=lsAv Fr.c fs:=⟨_,rfl⟩
 obtain ⟨epl,hepl⟩:∃ es,es=lsAv V2.c pp:=⟨_,rfl⟩
 obtain ⟨eo,heo⟩:∃ es,es=lsAv boolC os:=⟨_,rfl⟩
 obtain ⟨rt,rx,rf,rv,ro⟩:=r
 obtain ⟨fx,hfx⟩:∃ es,es=lsAv As.c rx:=⟨_,rfl⟩
 obtain ⟨ff,hff⟩:∃ es,es=lsAv Fr.c rf:=⟨_,rfl⟩
 obtain ⟨fv,hfv⟩:∃ es,es=lsAv V2.c rv:=⟨_,rfl⟩
 obtain ⟨fo,hfo⟩:∃ es,es=lsAv boolC ro:=⟨_,rfl⟩
 simp only [Wk.c,Ss.c,← hea,← hew,← hept,← hes,← heg,← hex,← hef,← hepl,← heo,← hfx,← hff,← hfv,← hfo] at k1 k2 k3 ⊢
 clear hea hew hept hes heg hex hef hepl heo hfx hff hfv hfo
 refine AE.ACallG.of_walk (fn:=Tryz.f10) (c:=bodyOf Tryz.f10) GG_stays tabOK Tryz.func10 rfl rfl mixed fun A hA X=>?_
 have n1:A.bnot true=false:=by rw [AE.c_not hA]; rfl
 have c1:A.cmp .eql e e=true:=by rw [AE.c_eql hA]; simp
 (repeat' (first|(refine X.g ?_; cbv)|refine X.splitT ?_|refine X.splitF ?_|refine X.sp (fun hc=>?_) (fun hc=>?_)|refine X.needT ?_|refine X.callsGA [] kM ?_|refine X.callsGA [] k1 ?_|refine X.callsGA [] k2 ?_|refine X.callsGA [] k3 ?_|fail))
 all_goals (refine X.ret _ (X.done rfl ?_); cbv <;> (and_intros <;> first|rfl|trivial))
end Go.Proofs.YthadehkggddgoaaGreatDoor
end
section
set_option linter.unusedVariables false
set_option linter.unusedSimpArgs false
namespace Go.Proofs.YthadehkggddgoaaGreatDoor
open Go Go.Num
section
variable {H:Type} {enc:TypeId × Value→H} {W:World} {E:AE.Env} {bulk:DataW H→Nat}
variable (hE:∀ b o,W.heap[b]? = some o→E.h b=some o)
include hE
theorem openWish (hb:AE.BulkOK bulk):AE.Opens enc Tryz.prog W E bulk 87 (fun us:List (List Q)=>[.l 1 (lsAv wishC us)]) wishW :=
 openL hE hb (sz:=1) (by decide) Tryz.underlying87 (by kernel_rfl) (openL hE hb (sz:=3) (by decide) Tryz.underlying74 (by kernel_rfl) (openQ hb))
theorem openBools (hb:AE.BulkOK bulk):AE.Opens enc Tryz.prog W E bulk 35 (fun l:List Bool=>[.l 1 (lsAv boolC l)]) (lw fun _=>1) :=
 openL hE hb (sz:=1) (by decide) Tryz.underlying35 (by kernel_rfl) (.bool hb Tryz.underlying4)
theorem openVecs (hb:AE.BulkOK bulk):AE.Opens enc Tryz.prog W E bulk 34 (fun l:List V2=>[.l 6 (lsAv V2.c l)]) (lw V2.wt) :=
 openVs hE hb
end
theorem wish_len {us:List (List Q)} (h:wishW us≤1048576):us.length<2^40:=by
 have:=lw_len (ρ:=lw Q.wt) (lw1 Q.wt) us
 simp only [wishW] at h; omega
theorem bools_len {l:List Bool} (h:lw (fun _:Bool=>1) l≤1048576):l.length<2^40:=by
 have:=lw_len (ρ:=fun _:Bool=>1) (fun _=>Nat.le_refl _) l; omega
theorem vecs_len {l:List V2} (h:lw V2.wt l≤1048576):l.length<2^40:=by
 have:=lw_len V2.wt1 l; omega
theorem vecs_sz {l:List V2} (h:lw V2.wt l≤1048576):∀ v∈l,v.sz≤2^28:=fun v hv=>by
 have:=lw_mem (ρ:=V2.wt) hv; have:=v.sz_wt; omega
theorem people_sz {s:Ss} (h:s.wt≤1048576):∀ v∈s.people,v.sz≤2^28:=vecs_sz (Nat.le_trans (s.parts_wt (Nat.le_refl _)).2.2.1 h)
end Go.Proofs.YthadehkggddgoaaGreatDoor
end
end
end
