/- Contracts: what the reference asks of a state: good, State; SameState. -/
import Derived.Test.YthadehkggddgoaaGreatDoorZWorld
import Derived.Test.YthadehkggddgoaaGreatDoorZRefB
set_option maxRecDepth 100000
set_option maxHeartbeats 0
set_option linter.unusedVariables false
set_option linter.unusedSimpArgs false
namespace Go.Proofs.YthadehkggddgoaaGreatDoor
open Go Go.Num
theorem refGood_ok (l:List Q) (hsz:∀ q ∈ l,q.sz ≤ 2 ^ 34) (hl:l.length < 2 ^ 40) (es:List (List AE.AV)) (hes:es = lsAv Q.c l) (r:Bool) (hr:r = decide (∀ q ∈ l,q.Good)):AE.ACallG GG Tryz.prog 116 [] [.l 3 es] [] (.b r):=by
 refine AE.ACallG.of_walk (fn:=Tryz.f116) (c:=bodyOf Tryz.f116) GG_stays tabOK Tryz.func116 rfl rfl mixed fun A hA X=>?_
 have n1:A.bnot true = false:=by rw [AE.c_not hA]; rfl
 have n2:A.bnot false = true:=by rw [AE.c_not hA]; rfl
 (repeat' (first|(refine X.g ?_; cbv)|refine X.splitT ?_|refine X.splitF ?_|refine X.sp (fun hc=>?_) (fun hc=>?_)|refine X.needT ?_|fail))
 refine rangeL0 X hA hes (by omega) (fun i=>∀ q ∈ l.take i,q.Good) (fun z _=>[(7,.v (.int .i64 z))]) (fun x h=>by simp at h) ?_ (fun i z y hz hy hey c3 hI B hB=>?_) (fun z c3 hI B=>?_)
 ·(cbv <;> (and_intros <;> first|rfl|trivial))
 ·obtain ⟨g,hg⟩:∃ g,g = decide y.Good:=⟨_,rfl⟩
  have k1:=good_ok y (hsz y (List.mem_of_getElem? hy)) g hg
  cases g
  ·have h:¬ y.Good:=of_decide_eq_false hg.symm
   have e1:false = r:=by rw [hr]; symm; apply decide_eq_false; intro e; exact h (e y (List.mem_of_getElem? hy))
   clear hB
   (repeat' (first|(refine X.g ?_; cbv)|refine X.splitT ?_|refine X.splitF ?_|refine X.sp (fun hc=>?_) (fun hc=>?_)|refine X.needT ?_|refine X.drawX _ _ _ (by kernel_rfl) ?_|refine X.fork _ _ ?_ ?_|refine X.idx _ _ _ _ _ _ _ _ hey hz ?_|refine X.callsGA [] k1 ?_|fail))
   all_goals (refine X.ret _ (X.done rfl ?_); cbv <;> (and_intros <;> first|exact e1|rfl|trivial))
  ·have h:y.Good:=of_decide_eq_true hg.symm
   have hI' : ∀ q ∈ l.take (i + 1),q.Good:=by
    rw [take_snoc hy]; intro q hq
    rcases List.mem_append.1 hq with hq|hq
    ·exact hI q hq
    ·rw [List.mem_singleton.1 hq]; exact h
   (repeat' (first|(refine X.g ?_; cbv)|refine X.splitT ?_|refine X.splitF ?_|refine X.sp (fun hc=>?_) (fun hc=>?_)|refine X.needT ?_|refine X.drawX _ _ _ (by kernel_rfl) ?_|refine X.fork _ _ ?_ ?_|refine X.idx _ _ _ _ _ _ _ _ hey hz ?_|refine X.callsGA [] k1 ?_|fail))
   all_goals (refine hB hI' _ ?_; clear hB; (cbv <;> (and_intros <;> first|rfl|trivial)))
 ·have e1:true = r:=by rw [hr]; symm; apply decide_eq_true; rw [List.take_length] at hI; exact hI
  (repeat' (first|(refine X.g ?_; cbv)|refine X.splitT ?_|refine X.splitF ?_|refine X.sp (fun hc=>?_) (fun hc=>?_)|refine X.needT ?_|fail))
  all_goals (refine X.ret _ (X.done rfl ?_); cbv <;> (and_intros <;> first|exact e1|rfl|trivial))
theorem abs_two (a s:Rat):absR a ≤ s ↔ a ≤ s ∧ -a ≤ s:=by
 unfold absR
 split
 ·rename_i h
  exact ⟨fun h2=>⟨Rat.le_trans (Rat.le_of_lt h) (Rat.le_trans (by have:=Rat.neg_le_neg (Rat.le_of_lt h); simpa using this) h2),h2⟩,fun h2=>h2.2⟩
 ·rename_i h
  have h0:0 ≤ a:=Rat.not_lt.1 h
  exact ⟨fun h2=>⟨h2,Rat.le_trans (by have:=Rat.neg_le_neg h0; simpa using Rat.le_trans this h0) h2⟩,fun h2=>h2.1⟩
theorem refState_ok (w:Wk) (hw:w.Le) (s:Ss) (hs:s.Le) (r:Int) (hr:r = stateC w s):AE.ACallG GG Tryz.prog 45 [] [.a w.c,.a s.c] [] (.v (.int .i64 r)):=by
 refine AE.ACallG.of_walk (fn:=Tryz.f45) (c:=bodyOf Tryz.f45) GG_stays tabOK Tryz.func45 rfl rfl mixed fun A hA X=>?_
 obtain ⟨wc,hwc⟩:∃ e,e = worksC w:=⟨_,rfl⟩
 have k1:=refWorks_ok w hw wc hwc
 obtain ⟨zz,hzz⟩:∃ e,e = stateE w s:=⟨_,rfl⟩
 rw [stateC,← hwc,← hzz] at hr
 have w1:=hw.arms
 have w2:=hw.narms
 clear hw hwc
 obtain ⟨arms,walls,parts,slots,gates,walk⟩:=w
 obtain ⟨s1,s2,s3,s4,s5,s6,s7⟩:=hs
 obtain ⟨tick,xs,fs,ps,os⟩:=s
 simp only at s1 s2 s3 s4 s5 s6 s7 w1 w2 hr
 obtain ⟨ea,hea⟩:∃ es,es = lsAv Ar.c arms:=⟨_,rfl⟩
 obtain ⟨ew,hew⟩:∃ es,es = lsAv wallC walls:=⟨_,rfl⟩
 obtain ⟨ep,hep⟩:∃ es,es = lsAv Pt.c parts:=⟨_,rfl⟩
 obtain ⟨es,hes⟩:∃ es,es = lsAv Sl.c slots:=⟨_,rfl⟩
 obtain ⟨eg,heg⟩:∃ es,es = lsAv Gt.c gates:=⟨_,rfl⟩
 obtain ⟨ex,hex⟩:∃ es,es = lsAv As.c xs:=⟨_,rfl⟩
 obtain ⟨ef,hef⟩:∃ es,es = lsAv Fr.c fs:=⟨_,rfl⟩
 obtain ⟨ev,hev⟩:∃ es,es = lsAv V2.c ps:=⟨_,rfl⟩
 obtain ⟨eo,heo⟩:∃ es,es = lsAv boolC os:=⟨_,rfl⟩
 have l1:A.llen ea = (arms.length:Int):=by rw [llen hA,hea,lsAv_len]
 have l2:A.llen ep = (parts.length:Int):=by rw [llen hA,hep,lsAv_len]
 have l3:A.llen eg = (gates.length:Int):=by rw [llen hA,heg,lsAv_len]
 have l4:A.llen ex = (xs.length:Int):=by rw [llen hA,hex,lsAv_len]
 have l5:A.llen ef = (fs.length:Int):=by rw [llen hA,hef,lsAv_len]
 have l6:A.llen ev = (ps.length:Int):=by rw [llen hA,hev,lsAv_len]
 have l7:A.llen eo = (os.length:Int):=by rw [llen hA,heo,lsAv_len]
 have hr:r = stateI wc (A.llen ev) tick (A.llen ex) (A.llen ea) (A.llen ef) (A.llen ep) (A.llen eo) (A.llen eg) zz:=by rw [hr,l1,l2,l3,l4,l5,l6,l7]
 simp only [Wk.c,Ss.c,← hea,← hew,← hep,← hes,← heg,← hex,← hef,← hev,← heo] at k1 ⊢
 (repeat' (first|(refine X.g ?_; cbv)|refine X.splitT ?_|refine X.splitF ?_|refine X.sp (fun hc=>?_) (fun hc=>?_)|refine X.callsGA [] k1 ?_|refine X.needT ?_|fail))
 all_goals first|(refine X.ret _ (X.done rfl ?_); cbv <;> (and_intros <;> first|rfl|trivial|(clear X k1 l1 l2 l3 l4 l5 l6 l7 hzz; rw [hr]; (try simp only [AE.c_lss hA,AE.c_leq hA,AE.c_gtr hA,AE.c_geq hA,AE.c_eql hA,AE.c_neq hA,AE.c_not hA,AE.c_and hA,AE.c_beq hA,AE.c_bne hA,decide_eq_true_eq,decide_eq_false_iff_not,Bool.not_eq_true,Bool.not_eq_false,Bool.not_eq_eq_eq_not,Bool.not_true,Bool.not_false,Int.not_lt,Int.not_le,Int.ofNat_eq_natCast] at *); unfold stateI; first|(simp_all; done)|((repeat' split) <;> first|omega|(simp_all; done)|(simp_all; omega)))))|skip
 have hrz:r = zz:=by
  clear X k1 hzz l1 l2 l3 l4 l5 l6 l7
  simp only [AE.c_lss hA,AE.c_leq hA,AE.c_gtr hA,AE.c_geq hA,AE.c_eql hA,AE.c_neq hA,AE.c_not hA,AE.c_and hA,AE.c_beq hA,AE.c_bne hA,decide_eq_true_eq,decide_eq_false_iff_not,Bool.not_eq_true,Bool.not_eq_false,Bool.not_eq_eq_eq_not,Bool.not_true,Bool.not_false,Int.not_lt,Int.not_le,Int.ofNat_eq_natCast] at *
  rw [hr,stateI,if_neg (by omega),if_neg (by omega),if_neg (by omega)]
 have hxl:xs.length = arms.length:=by
  clear X k1 hzz
  simp only [AE.c_lss hA,AE.c_leq hA,AE.c_gtr hA,AE.c_geq hA,AE.c_eql hA,AE.c_neq hA,AE.c_not hA,AE.c_and hA,AE.c_beq hA,AE.c_bne hA,decide_eq_true_eq,decide_eq_false_iff_not,Bool.not_eq_true,Bool.not_eq_false,Bool.not_eq_eq_eq_not,Bool.not_true,Bool.not_false,Int.not_lt,Int.not_le,Int.ofNat_eq_natCast] at *
  have j1:A.llen ea = (arms.length:Int):=l1
  have j4:A.llen ex = (xs.length:Int):=l4
  omega
 clear k1
 have n1:A.bnot true = false:=by rw [AE.c_not hA]; rfl
 have n2:A.bnot false = true:=by rw [AE.c_not hA]; rfl
 obtain ⟨ac,hac⟩:∃ z,z = armsC parts.length [] arms xs:=⟨_,rfl⟩
 simp only [stateE,← hac] at hzz
 have hret:∀ v,v ≠ 0 → ac = v → r = v:=fun v h1 h2=>by rw [hrz,hzz,if_pos (by rw [h2]; exact h1),h2]
 refine X.loopG _ _ _ (X.frzB 0 _ _ (Nat.zero_le _) (X.frzB 1 _ _ (Nat.zero_le _) ?_))
 (refine X.g ?_; cbv)
 refine rangeL0 X hA hex (by omega) (fun i=>ac = armsC parts.length ((xs.take i).map As.holds) (arms.drop i) (xs.drop i)) (fun z _=>[(65,.v (.int .i64 z))]) (by rw [hac]; rfl) ?_ (fun i z y hz hy hey c3 hI B hB=>?_) (fun z c3 hI B=>?_)
 ·(cbv <;> (and_intros <;> first|rfl|trivial))
 ·have hil:i < xs.length:=(List.getElem?_eq_some_iff.1 hy).1
  obtain ⟨a,ha⟩:∃ x,arms[i]? = some x:=⟨_,List.getElem?_eq_getElem (by omega)⟩
  have hea' : ea[i]? = some a.c:=by rw [hea]; exact lsAv_get ha
  have z1:=w1 a (List.mem_of_getElem? ha)
  obtain ⟨x1,x2,x3,x4⟩:=s1 y (List.mem_of_getElem? hy)
  obtain ⟨e,he⟩:∃ e,e = oneC a y parts.length:=⟨_,rfl⟩
  rw [armsC_drop ha hy,← he,← map_snocT As.holds hy] at hI
  have hsub:A.lsub ex 0 z = lsAv As.c (xs.take i):=by
   subst hA
   show (ex.take z.toNat).drop 0 = _
   rw [List.drop_zero,hex,hz,lsAv_eq,lsAv_eq,List.map_take]; rfl
  have hcut:AE.CutR z (A.llen ex):=by
   have i4:A.llen ex = (xs.length:Int):=l4
   have i5:z = (i:Int):=hz
   rw [i4]; constructor <;> omega
  obtain ⟨yq,yv,yp,yh⟩:=y
  obtain ⟨eq,heq⟩:∃ es,es = lsAv Q.c yq:=⟨_,rfl⟩
  obtain ⟨ew,hew⟩:∃ es,es = lsAv Q.c yv:=⟨_,rfl⟩
  obtain ⟨g1,hg1⟩:∃ b,b = decide (∀ q ∈ yq,q.Good):=⟨_,rfl⟩
  obtain ⟨g2,hg2⟩:∃ b,b = decide (∀ q ∈ yv,q.Good):=⟨_,rfl⟩
  obtain ⟨fc,hfc⟩:∃ z,z = fitsC a yq:=⟨_,rfl⟩
  simp only at x1 x2 x3 x4 hI
  have k1:=refGood_ok yq (fun q hq=>by have:=x1 q hq; omega) x3 eq heq g1 hg1
  have k2:=refGood_ok yv (fun q hq=>by have:=x2 q hq; omega) x4 ew hew g2 hg2
  have k3:=armFits_ok a z1 yq (fun q hq=>by have:=x1 q hq; omega) x3 eq heq fc hfc
  obtain ⟨_,_,z4,z5⟩:=z1
  obtain ⟨nm,bs,l⟩:=a
  simp only at z4 z5
  obtain ⟨el,hel⟩:∃ es,es = lsAv Lk.c l:=⟨_,rfl⟩
  have j1:A.llen el = (l.length:Int):=by rw [llen hA,hel,lsAv_len]
  have j2:A.llen ew = (yv.length:Int):=by rw [llen hA,hew,lsAv_len]
  obtain ⟨z0,hz0⟩:∃ z:Int,z = if slowE yv l then 0 else 1:=⟨_,rfl⟩
  have he:e = oneI g1 g2 fc (A.llen ew) (A.llen el) yh (A.llen ep) z0:=by rw [he,oneC,j1,j2,l2,hg1,hg2,hfc,hz0]
  have hret2:∀ v,v ≠ 0 → e = v → r = v:=fun v h1 h2=>hret v h1 (by rw [hI,if_pos (by rw [h2]; exact h1),h2])
  simp only [As.c,Ar.c,← heq,← hew,← hel] at hey k3 hea'
  clear hg1 hg2 hfc hea hex hef hev heo
  cases g1
  ·have e1:r = 3:=hret2 3 (by decide) (by rw [he,oneI,if_pos (Or.inl rfl)])
   clear hB hret2 hret hI
   (repeat' (first|(refine X.g ?_; cbv)|refine X.splitT ?_|refine X.splitF ?_|refine X.sp (fun hc=>?_) (fun hc=>?_)|refine X.needT ?_|refine X.drawX _ _ _ (by kernel_rfl) (X.frzB 2 _ _ (Nat.zero_le _) ?_)|refine X.fork _ _ ?_ ?_|refine X.idx _ _ _ _ _ _ _ _ hey hz ?_|refine X.idx _ _ _ _ _ _ _ _ hea' hz ?_|refine X.callsGA [] k1 ?_|refine X.callsGA [] k2 ?_|refine X.callsGA [] k3 ?_|fail))
   all_goals (refine X.ret _ (X.done rfl ?_); cbv <;> (and_intros <;> first|exact e1.symm|rfl|trivial))
  cases g2
  ·have e1:r = 3:=hret2 3 (by decide) (by rw [he,oneI,if_pos (Or.inr rfl)])
   clear hB hret2 hret hI
   (repeat' (first|(refine X.g ?_; cbv)|refine X.splitT ?_|refine X.splitF ?_|refine X.sp (fun hc=>?_) (fun hc=>?_)|refine X.needT ?_|refine X.drawX _ _ _ (by kernel_rfl) (X.frzB 2 _ _ (Nat.zero_le _) ?_)|refine X.fork _ _ ?_ ?_|refine X.idx _ _ _ _ _ _ _ _ hey hz ?_|refine X.idx _ _ _ _ _ _ _ _ hea' hz ?_|refine X.callsGA [] k1 ?_|refine X.callsGA [] k2 ?_|refine X.callsGA [] k3 ?_|fail))
   all_goals (refine X.ret _ (X.done rfl ?_); cbv <;> (and_intros <;> first|exact e1.symm|rfl|trivial))
  have he:e = if fc ≠ 0 then fc else if A.llen ew ≠ A.llen el ∨ yh < -1 ∨ A.llen ep ≤ yh then 1 else z0:=by rw [he,oneI,if_neg (by simp)]
  by_cases f0:fc = 0
  rotate_left
  ·have d0:A.cmp .neq fc 0 = true:=by rw [AE.c_neq hA]; simpa using f0
   have e1:r = fc:=hret2 fc f0 (by rw [he,if_pos f0])
   clear hB hret2 hret hI
   (repeat' (first|(refine X.g ?_; cbv)|refine X.splitT ?_|refine X.splitF ?_|refine X.sp (fun hc=>?_) (fun hc=>?_)|refine X.needT ?_|refine X.drawX _ _ _ (by kernel_rfl) (X.frzB 2 _ _ (Nat.zero_le _) ?_)|refine X.fork _ _ ?_ ?_|refine X.idx _ _ _ _ _ _ _ _ hey hz ?_|refine X.idx _ _ _ _ _ _ _ _ hea' hz ?_|refine X.callsGA [] k1 ?_|refine X.callsGA [] k2 ?_|refine X.callsGA [] k3 ?_|fail))
   all_goals (refine X.ret _ (X.done rfl ?_); cbv <;> (and_intros <;> first|exact e1.symm|rfl|trivial))
  have d0:A.cmp .neq fc 0 = false:=by rw [AE.c_neq hA,f0]; rfl
  rw [if_neg (fun h=>h f0)] at he
  by_cases b1:A.llen ew = A.llen el
  rotate_left
  ·have d1:A.cmp .neq (A.llen ew) (A.llen el) = true:=by rw [AE.c_neq hA]; simpa using b1
   have e1:r = 1:=hret2 1 (by decide) (by rw [he,if_pos (Or.inl b1)])
   clear hB hret2 hret hI
   (repeat' (first|(refine X.g ?_; cbv)|refine X.splitT ?_|refine X.splitF ?_|refine X.sp (fun hc=>?_) (fun hc=>?_)|refine X.needT ?_|refine X.drawX _ _ _ (by kernel_rfl) (X.frzB 2 _ _ (Nat.zero_le _) ?_)|refine X.fork _ _ ?_ ?_|refine X.idx _ _ _ _ _ _ _ _ hey hz ?_|refine X.idx _ _ _ _ _ _ _ _ hea' hz ?_|refine X.callsGA [] k1 ?_|refine X.callsGA [] k2 ?_|refine X.callsGA [] k3 ?_|fail))
   all_goals (refine X.ret _ (X.done rfl ?_); cbv <;> (and_intros <;> first|exact e1.symm|rfl|trivial))
  have d1:A.cmp .neq (A.llen ew) (A.llen el) = false:=by rw [AE.c_neq hA,b1]; simp
  by_cases b2:yh < -1
  ·have d2:A.cmp .lss yh (-1) = true:=by rw [AE.c_lss hA]; exact decide_eq_true b2
   have e1:r = 1:=hret2 1 (by decide) (by rw [he,if_pos (Or.inr (Or.inl b2))])
   clear hB hret2 hret hI
   (repeat' (first|(refine X.g ?_; cbv)|refine X.splitT ?_|refine X.splitF ?_|refine X.sp (fun hc=>?_) (fun hc=>?_)|refine X.needT ?_|refine X.drawX _ _ _ (by kernel_rfl) (X.frzB 2 _ _ (Nat.zero_le _) ?_)|refine X.fork _ _ ?_ ?_|refine X.idx _ _ _ _ _ _ _ _ hey hz ?_|refine X.idx _ _ _ _ _ _ _ _ hea' hz ?_|refine X.callsGA [] k1 ?_|refine X.callsGA [] k2 ?_|refine X.callsGA [] k3 ?_|fail))
   all_goals (refine X.ret _ (X.done rfl ?_); cbv <;> (and_intros <;> first|exact e1.symm|rfl|trivial))
  have d2:A.cmp .lss yh (-1) = false:=by rw [AE.c_lss hA]; exact decide_eq_false b2
  by_cases b3:A.llen ep ≤ yh
  ·have d3:A.cmp .geq yh (A.llen ep) = true:=by rw [AE.c_geq hA]; exact decide_eq_true b3
   have e1:r = 1:=hret2 1 (by decide) (by rw [he,if_pos (Or.inr (Or.inr b3))])
   clear hB hret2 hret hI
   (repeat' (first|(refine X.g ?_; cbv)|refine X.splitT ?_|refine X.splitF ?_|refine X.sp (fun hc=>?_) (fun hc=>?_)|refine X.needT ?_|refine X.drawX _ _ _ (by kernel_rfl) (X.frzB 2 _ _ (Nat.zero_le _) ?_)|refine X.fork _ _ ?_ ?_|refine X.idx _ _ _ _ _ _ _ _ hey hz ?_|refine X.idx _ _ _ _ _ _ _ _ hea' hz ?_|refine X.callsGA [] k1 ?_|refine X.callsGA [] k2 ?_|refine X.callsGA [] k3 ?_|fail))
   all_goals (refine X.ret _ (X.done rfl ?_); cbv <;> (and_intros <;> first|exact e1.symm|rfl|trivial))
  have d3:A.cmp .geq yh (A.llen ep) = false:=by rw [AE.c_geq hA]; exact decide_eq_false b3
  have hez:e = z0:=by rw [he,if_neg (fun h=>h.elim (fun h=>h b1) fun h=>h.elim b2 b3)]
  have hvl:yv.length = l.length:=by
   have i1:A.llen el = (l.length:Int):=j1
   have i2:A.llen ew = (yv.length:Int):=j2
   omega
  (repeat' (first|(refine X.g ?_; cbv)|refine X.splitT ?_|refine X.splitF ?_|refine X.sp (fun hc=>?_) (fun hc=>?_)|refine X.needT ?_|refine X.drawX _ _ _ (by kernel_rfl) (X.frzB 2 _ _ (Nat.zero_le _) ?_)|refine X.fork _ _ ?_ ?_|refine X.idx _ _ _ _ _ _ _ _ hey hz ?_|refine X.idx _ _ _ _ _ _ _ _ hea' hz ?_|refine X.callsGA [] k1 ?_|refine X.callsGA [] k2 ?_|refine X.callsGA [] k3 ?_|fail))
  clear k1 k2 k3
  refine X.loopG _ _ _ (X.frzB 2 _ _ (Nat.zero_le _) ?_)
  (refine X.g ?_; cbv)
  refine rangeL0 X hA hew (by omega) (fun j=>slowE yv l ↔ slowE (yv.drop j) (l.drop j)) (fun z _=>[(119,.v (.int .i64 z))]) Iff.rfl ?_ (fun j zj u hzj hu heu c4 hJ B2 hB2=>?_) (fun zj c4 hJ B2=>?_)
  ·clear hB; (cbv <;> (and_intros <;> first|rfl|trivial))
  ·have hjl:j < yv.length:=(List.getElem?_eq_some_iff.1 hu).1
   obtain ⟨k,hk⟩:∃ x,l[j]? = some x:=⟨_,List.getElem?_eq_getElem (by omega)⟩
   have hek:el[j]? = some k.c:=by rw [hel]; exact lsAv_get hk
   have hus:=x2 u (List.mem_of_getElem? hu)
   obtain ⟨_,_,_,l4,_⟩:=z4 k (List.mem_of_getElem? hk)
   rw [slowE_drop hu hk] at hJ
   obtain ⟨p,hp⟩:∃ q,q = Q.of (-u.v):=⟨_,rfl⟩
   have hps:p.sz ≤ 2 ^ 32:=by rw [hp,sz_of,rs_neg]; have:=u.rs; omega
   have hpv:p.v = -u.v:=by rw [hp,Q.v_of]
   obtain ⟨q1,hq1⟩:∃ c,c = cmpR u.v k.speed.v:=⟨_,rfl⟩
   obtain ⟨q2,hq2⟩:∃ c,c = cmpR p.v k.speed.v:=⟨_,rfl⟩
   have m1:=ratNeg_ok u (by omega) p hp
   have m2:=ratCmp_ok u k.speed (by omega) (by omega) q1 hq1
   have m3:=ratCmp_ok p k.speed hps (by omega) q2 hq2
   have hcc:absR u.v ≤ k.speed.v ↔ q1 ≤ 0 ∧ q2 ≤ 0:=by rw [abs_two,hq1,hq2,hpv,cmpR_le,cmpR_le]
   clear hq1 hq2
   by_cases h1:q1 ≤ 0
   ·have d1:A.cmp .gtr q1 0 = false:=by rw [AE.c_gtr hA]; exact decide_eq_false (by omega)
    by_cases h2:q2 ≤ 0
    ·have d2:A.cmp .gtr q2 0 = false:=by rw [AE.c_gtr hA]; exact decide_eq_false (by omega)
     have hJ' : slowE yv l ↔ slowE (yv.drop (j + 1)) (l.drop (j + 1)):=hJ.trans ⟨fun h=>h.2,fun h=>⟨hcc.2 ⟨h1,h2⟩,h⟩⟩
     clear hB
     (repeat' (first|(refine X.g ?_; cbv)|refine X.splitT ?_|refine X.splitF ?_|refine X.sp (fun hc=>?_) (fun hc=>?_)|refine X.needT ?_|refine X.drawX _ _ _ (by kernel_rfl) (X.frzB 3 _ _ (Nat.zero_le _) ?_)|refine X.fork _ _ ?_ ?_|refine X.idx _ _ _ _ _ _ _ _ heu hzj ?_|refine X.idx _ _ _ _ _ _ _ _ hek hzj ?_|refine X.callsGA [] m1 ?_|refine X.callsGA [] m2 ?_|refine X.callsGA [] m3 ?_|fail))
     all_goals (refine hB2 hJ' _ ?_; clear hB2; (cbv <;> (and_intros <;> first|rfl|trivial)))
    ·have d2:A.cmp .gtr q2 0 = true:=by rw [AE.c_gtr hA]; exact decide_eq_true (by omega)
     have e1:r = 1:=hret2 1 (by decide) (by rw [hez,hz0,if_neg (fun h=>h2 (hcc.1 (hJ.1 h).1).2)])
     clear hB hB2
     (repeat' (first|(refine X.g ?_; cbv)|refine X.splitT ?_|refine X.splitF ?_|refine X.sp (fun hc=>?_) (fun hc=>?_)|refine X.needT ?_|refine X.drawX _ _ _ (by kernel_rfl) (X.frzB 3 _ _ (Nat.zero_le _) ?_)|refine X.fork _ _ ?_ ?_|refine X.idx _ _ _ _ _ _ _ _ heu hzj ?_|refine X.idx _ _ _ _ _ _ _ _ hek hzj ?_|refine X.callsGA [] m1 ?_|refine X.callsGA [] m2 ?_|refine X.callsGA [] m3 ?_|fail))
     all_goals (refine X.ret _ (X.done rfl ?_); cbv <;> (and_intros <;> first|exact e1.symm|rfl|trivial))
   ·have d1:A.cmp .gtr q1 0 = true:=by rw [AE.c_gtr hA]; exact decide_eq_true (by omega)
    have e1:r = 1:=hret2 1 (by decide) (by rw [hez,hz0,if_neg (fun h=>h1 (hcc.1 (hJ.1 h).1).1)])
    clear hB hB2
    (repeat' (first|(refine X.g ?_; cbv)|refine X.splitT ?_|refine X.splitF ?_|refine X.sp (fun hc=>?_) (fun hc=>?_)|refine X.needT ?_|refine X.drawX _ _ _ (by kernel_rfl) (X.frzB 3 _ _ (Nat.zero_le _) ?_)|refine X.fork _ _ ?_ ?_|refine X.idx _ _ _ _ _ _ _ _ heu hzj ?_|refine X.idx _ _ _ _ _ _ _ _ hek hzj ?_|refine X.callsGA [] m1 ?_|refine X.callsGA [] m2 ?_|refine X.callsGA [] m3 ?_|fail))
    all_goals (refine X.ret _ (X.done rfl ?_); cbv <;> (and_intros <;> first|exact e1.symm|rfl|trivial))
  ·have hs0:slowE yv l:=hJ.2 (by
    rw [List.drop_length]
    unfold slowE
    trivial)
   have he0:e = 0:=by rw [hez,hz0,if_pos hs0]
   rw [if_neg (by omega)] at hI
   clear hret2 he hez hz0 hs0 he0 hJ hvl x1 x2 x3 x4 z4 z5
   (repeat' (first|(refine X.g ?_; cbv)|refine X.splitT ?_|refine X.splitF ?_|refine X.sp (fun hc=>?_) (fun hc=>?_)|refine X.needT ?_|refine X.need _ _ _ hcut ?_|fail))
   refine rangeL0 X hA hsub (by rw [List.length_take]; omega) (fun j=>∀ x ∈ (xs.take i).take j,¬ (0 ≤ yh ∧ yh = x.holds)) (fun z _=>[(149,.v (.int .i64 z))]) (fun x h=>by simp at h) ?_ (fun j zj u hzj hu heu c5 hJ2 B3 hB3=>?_) (fun zj c5 hJ2 B3=>?_)
   ·clear hB; (cbv <;> (and_intros <;> first|rfl|trivial))
   ·obtain ⟨uq,uv,up,uh⟩:=u
    have hmem:uh ∈ (xs.take i).map As.holds:=List.mem_map.2 ⟨_,List.mem_of_getElem? hu,rfl⟩
    have hnext:¬ (0 ≤ yh ∧ yh = uh) → ∀ x ∈ (xs.take i).take (j + 1),¬ (0 ≤ yh ∧ yh = x.holds):=fun hn=>by
     rw [take_snoc hu]; intro x hx
     rcases List.mem_append.1 hx with hx|hx
     ·exact hJ2 x hx
     ·rw [List.mem_singleton.1 hx]; exact hn
    simp only [As.c] at heu
    by_cases h1:0 ≤ yh
    ·have d1:A.cmp .geq yh 0 = true:=by rw [AE.c_geq hA]; exact decide_eq_true h1
     by_cases h2:yh = uh
     ·have d2:A.cmp .eql yh uh = true:=by rw [AE.c_eql hA]; exact decide_eq_true h2
      have e1:r = 10:=hret 10 (by decide) (by rw [hI,if_pos ⟨h1,by rw [h2]; exact hmem⟩])
      clear hB hB3
      (repeat' (first|(refine X.g ?_; cbv)|refine X.splitT ?_|refine X.splitF ?_|refine X.sp (fun hc=>?_) (fun hc=>?_)|refine X.needT ?_|refine X.idx _ _ _ _ _ _ _ _ heu hzj ?_|fail))
      all_goals (refine X.ret _ (X.done rfl ?_); cbv <;> (and_intros <;> first|exact e1.symm|rfl|trivial))
     ·have d2:A.cmp .eql yh uh = false:=by rw [AE.c_eql hA]; exact decide_eq_false h2
      have hJ' := hnext fun h=>h2 h.2
      clear hB
      (repeat' (first|(refine X.g ?_; cbv)|refine X.splitT ?_|refine X.splitF ?_|refine X.sp (fun hc=>?_) (fun hc=>?_)|refine X.needT ?_|refine X.idx _ _ _ _ _ _ _ _ heu hzj ?_|fail))
      all_goals (refine hB3 hJ' _ ?_; clear hB3; (cbv <;> (and_intros <;> first|rfl|trivial)))
    ·have d1:A.cmp .geq yh 0 = false:=by rw [AE.c_geq hA]; exact decide_eq_false h1
     have hJ' := hnext fun h=>h1 h.1
     clear hB
     (repeat' (first|(refine X.g ?_; cbv)|refine X.splitT ?_|refine X.splitF ?_|refine X.sp (fun hc=>?_) (fun hc=>?_)|refine X.needT ?_|refine X.idx _ _ _ _ _ _ _ _ heu hzj ?_|fail))
     all_goals (refine hB3 hJ' _ ?_; clear hB3; (cbv <;> (and_intros <;> first|rfl|trivial)))
   ·rw [List.take_length] at hJ2
    have hI' := hI
    rw [if_neg (fun h=>by
     obtain ⟨x,hx,hxe⟩:=List.mem_map.1 h.2
     exact hJ2 x hx ⟨h.1,hxe.symm⟩)] at hI'
    (repeat' (first|(refine X.g ?_; cbv)|refine X.splitT ?_|refine X.splitF ?_|refine X.sp (fun hc=>?_) (fun hc=>?_)|refine X.needT ?_|fail))
    all_goals (refine hB hI' _ ?_; clear hB; (cbv <;> (and_intros <;> first|rfl|trivial)))
 ·have e0:ac = 0:=by
   rw [hI,List.drop_length]
   unfold armsC
   split
   ·rename_i h _; simp at *
   ·rfl
  rw [if_neg (by omega)] at hzz
  have hr3:¬ ((∀ f ∈ fs,f.Fine) ∧ ∀ p ∈ ps,p.Fine) → r = 3:=fun h=>by rw [hrz,hzz,if_neg h]
  have hr0:(∀ f ∈ fs,f.Fine) → (∀ p ∈ ps,p.Fine) → r = 0:=fun h1 h2=>by rw [hrz,hzz,if_pos ⟨h1,h2⟩]
  clear hr hrz hzz hI e0 hret w1 w2 s1
  (repeat' (first|(refine X.g ?_; cbv)|refine X.splitT ?_|refine X.splitF ?_|refine X.sp (fun hc=>?_) (fun hc=>?_)|refine X.needT ?_|fail))
  refine rangeL0 X hA hef (by omega) (fun i=>∀ f ∈ fs.take i,f.Fine) (fun z _=>[(168,.v (.int .i64 z))]) (fun x h=>by simp at h) ?_ (fun i z y hz hy hey c4 hI B2 hB=>?_) (fun z c4 hI B2=>?_)
  ·(cbv <;> (and_intros <;> first|rfl|trivial))
  ·have hyf:=s3 y (List.mem_of_getElem? hy)
   have hmem:=List.mem_of_getElem? hy
   have hnext:y.Fine → ∀ f ∈ fs.take (i + 1),f.Fine:=fun hn=>by
    rw [take_snoc hy]; intro x hx
    rcases List.mem_append.1 hx with hx|hx
    ·exact hI x hx
    ·rw [List.mem_singleton.1 hx]; exact hn
   have hbad:¬ y.Fine → r = 3:=fun h=>hr3 fun h2=>h (h2.1 y hmem)
   obtain ⟨y1,y2⟩:=hyf
   obtain ⟨⟨a,b⟩,half,t⟩:=y
   simp only [V2.sz] at y1 y2
   obtain ⟨g,hg⟩:∃ g,g = decide (∀ q ∈ [a,b,t],q.Good):=⟨_,rfl⟩
   obtain ⟨sg,hsg⟩:∃ z,z = sgnR t.v:=⟨_,rfl⟩
   have k1:=refGood_ok [a,b,t] (by simp only [List.mem_cons,List.not_mem_nil,or_false,forall_eq_or_imp,forall_eq]; omega) (by simp) [a.c,b.c,t.c] (by rw [lsAv_eq]; rfl) g hg
   have k2:=sign_ok t (by omega) sg hsg
   clear hr3 hr0
   cases g
   ·have e1:r = 3:=hbad fun h=>of_decide_eq_false hg.symm h.1
    clear hB
    (repeat' (first|(refine X.g ?_; cbv)|refine X.splitT ?_|refine X.splitF ?_|refine X.sp (fun hc=>?_) (fun hc=>?_)|refine X.needT ?_|refine X.idx _ _ _ _ _ _ _ _ hey hz ?_|(refine X.isCall ?_; refine X.lendsG [3] k1 rfl ?_ (by cbv) ?_; focus (cbv <;> (and_intros <;> first|rfl|trivial)))|refine X.callsGA [] k2 ?_|fail))
    all_goals (refine X.ret _ (X.done rfl ?_); cbv <;> (and_intros <;> first|exact e1.symm|rfl|trivial))
   ·have hg:=of_decide_eq_true hg.symm
    cases half
    ·have hJ:=hnext ⟨hg,fun h=>by cases h⟩
     (repeat' (first|(refine X.g ?_; cbv)|refine X.splitT ?_|refine X.splitF ?_|refine X.sp (fun hc=>?_) (fun hc=>?_)|refine X.needT ?_|refine X.idx _ _ _ _ _ _ _ _ hey hz ?_|(refine X.isCall ?_; refine X.lendsG [3] k1 rfl ?_ (by cbv) ?_; focus (cbv <;> (and_intros <;> first|rfl|trivial)))|refine X.callsGA [] k2 ?_|fail))
     all_goals (refine hB hJ _ ?_; clear hB; (cbv <;> (and_intros <;> first|rfl|trivial)))
    ·by_cases h0:sg = 0
     ·have d1:A.cmp .neq sg 0 = false:=by rw [AE.c_neq hA,h0]; rfl
      have hJ:=hnext ⟨hg,fun _=>hsg ▸ h0⟩
      (repeat' (first|(refine X.g ?_; cbv)|refine X.splitT ?_|refine X.splitF ?_|refine X.sp (fun hc=>?_) (fun hc=>?_)|refine X.needT ?_|refine X.idx _ _ _ _ _ _ _ _ hey hz ?_|(refine X.isCall ?_; refine X.lendsG [3] k1 rfl ?_ (by cbv) ?_; focus (cbv <;> (and_intros <;> first|rfl|trivial)))|refine X.callsGA [] k2 ?_|fail))
      all_goals (refine hB hJ _ ?_; clear hB; (cbv <;> (and_intros <;> first|rfl|trivial)))
     ·have d1:A.cmp .neq sg 0 = true:=by rw [AE.c_neq hA]; simpa using h0
      have e1:r = 3:=hbad fun h=>h0 (hsg.trans (h.2 rfl))
      clear hB
      (repeat' (first|(refine X.g ?_; cbv)|refine X.splitT ?_|refine X.splitF ?_|refine X.sp (fun hc=>?_) (fun hc=>?_)|refine X.needT ?_|refine X.idx _ _ _ _ _ _ _ _ hey hz ?_|(refine X.isCall ?_; refine X.lendsG [3] k1 rfl ?_ (by cbv) ?_; focus (cbv <;> (and_intros <;> first|rfl|trivial)))|refine X.callsGA [] k2 ?_|fail))
      all_goals (refine X.ret _ (X.done rfl ?_); cbv <;> (and_intros <;> first|exact e1.symm|rfl|trivial))
  ·rw [List.take_length] at hI
   have hfs:=hI
   (repeat' (first|(refine X.g ?_; cbv)|refine X.splitT ?_|refine X.splitF ?_|refine X.sp (fun hc=>?_) (fun hc=>?_)|refine X.needT ?_|fail))
   refine rangeL0 X hA hev (by omega) (fun i=>∀ f ∈ ps.take i,f.Fine) (fun z _=>[(200,.v (.int .i64 z))]) (fun x h=>by simp at h) ?_ (fun i z y hz hy hey c5 hI B3 hB=>?_) (fun z c5 hI B3=>?_)
   ·(cbv <;> (and_intros <;> first|rfl|trivial))
   ·have hyf:=s5 y (List.mem_of_getElem? hy)
    have hmem:=List.mem_of_getElem? hy
    have hnext:y.Fine → ∀ f ∈ ps.take (i + 1),f.Fine:=fun hn=>by
     rw [take_snoc hy]; intro x hx
     rcases List.mem_append.1 hx with hx|hx
     ·exact hI x hx
     ·rw [List.mem_singleton.1 hx]; exact hn
    have hbad:¬ y.Fine → r = 3:=fun h=>hr3 fun h2=>h (h2.2 y hmem)
    obtain ⟨a,b⟩:=y
    simp only [V2.sz] at hyf
    obtain ⟨g,hg⟩:∃ g,g = decide (∀ q ∈ [a,b],q.Good):=⟨_,rfl⟩
    have k1:=refGood_ok [a,b] (by simp only [List.mem_cons,List.not_mem_nil,or_false,forall_eq_or_imp,forall_eq]; omega) (by simp) [a.c,b.c] (by rw [lsAv_eq]; rfl) g hg
    clear hr3 hr0
    cases g
    ·have e1:r = 3:=hbad fun h=>of_decide_eq_false hg.symm h
     clear hB
     (repeat' (first|(refine X.g ?_; cbv)|refine X.splitT ?_|refine X.splitF ?_|refine X.sp (fun hc=>?_) (fun hc=>?_)|refine X.needT ?_|refine X.idx _ _ _ _ _ _ _ _ hey hz ?_|(refine X.isCall ?_; refine X.lendsG [3] k1 rfl ?_ (by cbv) ?_; focus (cbv <;> (and_intros <;> first|rfl|trivial)))|fail))
     all_goals (refine X.ret _ (X.done rfl ?_); cbv <;> (and_intros <;> first|exact e1.symm|rfl|trivial))
    ·have hJ:=hnext (of_decide_eq_true hg.symm)
     (repeat' (first|(refine X.g ?_; cbv)|refine X.splitT ?_|refine X.splitF ?_|refine X.sp (fun hc=>?_) (fun hc=>?_)|refine X.needT ?_|refine X.idx _ _ _ _ _ _ _ _ hey hz ?_|(refine X.isCall ?_; refine X.lendsG [3] k1 rfl ?_ (by cbv) ?_; focus (cbv <;> (and_intros <;> first|rfl|trivial)))|fail))
     all_goals (refine hB hJ _ ?_; clear hB; (cbv <;> (and_intros <;> first|rfl|trivial)))
   ·rw [List.take_length] at hI
    have e1:r = 0:=hr0 hfs hI
    (repeat' (first|(refine X.g ?_; cbv)|refine X.splitT ?_|refine X.splitF ?_|refine X.sp (fun hc=>?_) (fun hc=>?_)|refine X.needT ?_|fail))
    all_goals (refine X.ret _ (X.done rfl ?_); cbv <;> (and_intros <;> first|exact e1.symm|rfl|trivial))
theorem Ss.nil_c:Ss.nil.c = [.v (.int .i64 0),.l 4 [],.l 10 [],.l 6 [],.l 1 []]:=by
 rw [Ss.c,Ss.nil]; simp only [lsAv_nil]
def I64 (n:Int):Prop:=-9223372036854775808 ≤ n ∧ n ≤ 9223372036854775807
end Go.Proofs.YthadehkggddgoaaGreatDoor
