/- Contracts: turn.Of, frame.Zero; the reference's First. Contracts: the reference's Name, small, Frame, shape; slices.Index and Contains of texts; its names. -/
import Derived.Test.YthadehkggddgoaaGreatDoorZLoop
import Derived.Test.YthadehkggddgoaaGreatDoorZRatC
import Derived.Test.YthadehkggddgoaaGreatDoorZMake
import Derived.Test.YthadehkggddgoaaGreatDoorZWorks
import Derived.Test.YthadehkggddgoaaGreatDoorZTrimS
section
set_option maxRecDepth 100000
set_option maxHeartbeats 0
set_option linter.unusedVariables false
set_option linter.unusedSimpArgs false
namespace Go.Proofs.YthadehkggddgoaaGreatDoor
open Go Go.Num
theorem turnOf_ok (q:Q) (hq:q.sz ≤ 2 ^ 32) (r:Tn) (hr:r = ⟨false,Q.of q.v⟩):AE.ACallG GG Tryz.prog 172 [] [.a q.c] [] (.a r.c):=by
 obtain ⟨p,hp⟩:∃ p,p = Q.of q.v:=⟨_,rfl⟩
 rw [← hp] at hr
 subst hr
 refine AE.ACallG.of_walk (fn:=Tryz.f172) (c:=bodyOf Tryz.f172) GG_stays tabOK Tryz.func172 rfl rfl mixed fun A hA X=>?_
 have k1:=ratMin_ok q q hq hq p (by rw [hp,minR]; split <;> rfl)
 (repeat' (first|(refine X.g ?_; cbv)|refine X.splitT ?_|refine X.splitF ?_|refine X.sp (fun hc=>?_) (fun hc=>?_)|refine X.callsGA [] k1 ?_|refine X.needT ?_))
 all_goals (refine X.ret _ (X.done rfl ?_); cbv <;> (and_intros <;> first|rfl|trivial))
def frame0:Fr:=⟨⟨Q.of 0,Q.of 0⟩,⟨false,Q.of 0⟩⟩
theorem rs0:rs 0 ≤ 1:=rs_le.2 ⟨by decide,by decide⟩
theorem frameZero_ok (r:Fr) (hr:r = frame0):AE.ACallG GG Tryz.prog 111 [] [] [] (.a r.c):=by
 obtain ⟨p,hp⟩:∃ p,p = Q.of 0:=⟨_,rfl⟩
 rw [frame0,← hp] at hr
 subst hr
 refine AE.ACallG.of_walk (fn:=Tryz.f111) (c:=bodyOf Tryz.f111) GG_stays tabOK Tryz.func111 rfl rfl mixed fun A hA X=>?_
 have k1:=ratOf_ok 0 (by decide) (by decide) p hp
 obtain ⟨t,ht⟩:∃ t:Tn,t = ⟨false,p⟩:=⟨_,rfl⟩
 have k2:=turnOf_ok p (by rw [hp,sz_of]; have:=rs0; omega) ⟨false,p⟩ (by rw [hp,Q.v_of])
 (repeat' (first|(refine X.g ?_; cbv)|refine X.splitT ?_|refine X.splitF ?_|refine X.sp (fun hc=>?_) (fun hc=>?_)|refine X.needT ?_|refine X.callsGA [] k1 ?_|refine X.callsGA [] k2 ?_|refine X.drawX _ _ _ (by kernel_rfl) (X.frzB 1 _ _ (Nat.zero_le _) ?_)))
 all_goals (refine X.ret _ (X.done rfl ?_); cbv <;> (and_intros <;> first|rfl|trivial))
def firstQ (l:Lk):Q:=if 0 < sgnR l.low.v then l.low else if sgnR l.high.v < 0 then l.high else Q.of 0
def firstA (a:Ar):As:=⟨a.links.map firstQ,a.links.map fun _=>Q.of 0,false,-1⟩
def frameAt (l:List Sl) (i:Nat):Fr:=match l[i]? with|some s=>s.frame|none=>frame0
def firstS (w:Wk):Ss:=⟨0,w.arms.map firstA,(List.range w.parts.length).map (frameAt w.slots),[],List.replicate w.gates.length false⟩
theorem map_snoc {α β : Type} (f:α → β) {l:List α} {i:Nat} {y:α} (h:l[i]? = some y):(l.take (i + 1)).map f = (l.take i).map f ++ [f y]:=by rw [take_snoc h,List.map_append]; rfl
theorem lapp_map {A:AE.Ari} (hA:A = AE.std) {α β : Type} (g:α → β) {f:β → List AE.AV} {l:List α} {i:Nat} {y:α} (h:l[i]? = some y) {es es' : List (List AE.AV)} (h1:es = lsAv f ((l.take i).map g)) (h2:es' = lsAv f ((l.take (i + 1)).map g)):A.lapp es [f (g y)] = es' := by
 subst hA
 rw [h1,h2,map_snoc g h,← lsAv_app,show lsAv f [g y] = [f (g y)] by rw [lsAv_eq]; rfl]; rfl
theorem refFirst_ok (w:Wk) (hzz:∀ a ∈ w.arms,a.links.length ≤ 2 ^ 30 ∧ ∀ k ∈ a.links,k.low.sz ≤ 2 ^ 32 ∧ k.high.sz ≤ 2 ^ 32) (hl:w.arms.length ≤ 2 ^ 30 ∧ w.parts.length ≤ 2 ^ 30 ∧ w.slots.length ≤ 2 ^ 30 ∧ w.gates.length ≤ 2 ^ 30) (s:Ss) (hs:s = firstS w):AE.ACallG GG Tryz.prog 51 [] [.a w.c] [] (.a s.c):=by
 obtain ⟨f1,f2,f3,f4⟩:=hl
 obtain ⟨arms,walls,parts,slots,gates,walk⟩:=w
 simp only at f1 f2 f3 f4 hzz
 obtain ⟨ea,hea⟩:∃ es,es = lsAv Ar.c arms:=⟨_,rfl⟩
 obtain ⟨ew,hew⟩:∃ es,es = lsAv wallC walls:=⟨_,rfl⟩
 obtain ⟨ep,hep⟩:∃ es,es = lsAv Pt.c parts:=⟨_,rfl⟩
 obtain ⟨es,hes⟩:∃ es,es = lsAv Sl.c slots:=⟨_,rfl⟩
 obtain ⟨eg,heg⟩:∃ es,es = lsAv Gt.c gates:=⟨_,rfl⟩
 obtain ⟨va,hva⟩:∃ e,e = lsAv As.c (firstS ⟨arms,walls,parts,slots,gates,walk⟩).arms:=⟨_,rfl⟩
 obtain ⟨vp,hvp⟩:∃ e,e = lsAv Fr.c (firstS ⟨arms,walls,parts,slots,gates,walk⟩).parts:=⟨_,rfl⟩
 obtain ⟨vw,hvw⟩:∃ e,e = lsAv V2.c ([]:List V2):=⟨_,rfl⟩
 obtain ⟨vo,hvo⟩:∃ e,e = lsAv boolC (List.replicate gates.length false):=⟨_,rfl⟩
 have hsc:s.c = [.v (.int .i64 0),.l 4 va,.l 10 vp,.l 6 vw,.l 1 vo]:=by rw [hs,Ss.c,hva,hvp,hvw,hvo]; rfl
 rw [hsc]
 have fvw:vw = []:=by rw [hvw]; exact lsAv_nil _
 simp only [Wk.c,← hea,← hew,← hep,← hes,← heg]
 refine AE.ACallG.of_walk (fn:=Tryz.f51) (c:=bodyOf Tryz.f51) GG_stays tabOK Tryz.func51 rfl rfl mixed fun A hA X=>?_
 have lg:A.llen eg = (gates.length:Int):=by rw [llen hA,heg,lsAv_len]
 have hmk:AE.MakeR (A.llen eg) (A.llen eg) 1:=by
  have:A.llen eg ≤ 2 ^ 30 ∧ 0 ≤ A.llen eg:=by rw [lg]; omega
  constructor <;> omega
 have ls:A.llen es = (slots.length:Int):=by rw [llen hA,hes,lsAv_len]
 have hrep:A.lrep (A.llen eg) [.b false] = vo:=by
  rw [hvo,lg,lsAv_eq]; subst hA
  show List.replicate (Int.toNat _) _ = _
  rw [List.map_replicate]; rfl
 obtain ⟨gA,hgA⟩:∃ g:Nat → List (List AE.AV),∀ i,g i = lsAv As.c ((arms.take i).map firstA):=⟨_,fun _=>rfl⟩
 obtain ⟨gP,hgP⟩:∃ g:Nat → List (List AE.AV),∀ i,g i = lsAv Fr.c ((List.range i).map (frameAt slots)):=⟨_,fun _=>rfl⟩
 obtain ⟨q0,hq0⟩:∃ q,q = Q.of 0:=⟨_,rfl⟩
 have k1:=ratOf_ok 0 (by decide) (by decide) q0 hq0
 (repeat' (first|(refine X.g ?_; cbv)|refine X.splitT ?_|refine X.splitF ?_|refine X.sp (fun hc=>?_) (fun hc=>?_)|refine X.needT ?_|refine X.need _ _ _ hmk ?_))
 refine X.loopG _ _ _ (X.frzB 0 _ _ (Nat.zero_le _) (X.nilB 3 1 76 4 _ _ ?_))
 (refine X.g ?_; cbv)
 refine rangeLS X hA hea (by omega) (fun _=>True) (fun z _=>[(19,.v (.int .i64 z))]) (fun i o=>o.set 4 (.row 76 4 (gA i))) trivial ?_ (fun i z y hz hy hye c3 hI B hB=>?_) (fun z c3 hI B=>?_)
 ·have h0:[] = gA 0:=by rw [hgA]; exact (lsAv_nil _).symm
  (cbv <;> (and_intros <;> first|exact h0|rfl|trivial))
 ·obtain ⟨z1,z2⟩:=hzz y (List.mem_of_getElem? hy)
  have e3:=lapp_map hA firstA (f:=As.c) hy (hgA i) (hgA (i + 1))
  obtain ⟨name,base,links⟩:=y
  simp only at z1 z2
  obtain ⟨gQ,hgQ⟩:∃ g:Nat → List (List AE.AV),∀ i,g i = lsAv Q.c ((links.take i).map firstQ):=⟨_,fun _=>rfl⟩
  obtain ⟨gV,hgV⟩:∃ g:Nat → List (List AE.AV),∀ i,g i = lsAv Q.c ((links.take i).map fun _=>Q.of 0):=⟨_,fun _=>rfl⟩
  obtain ⟨el,hel⟩:∃ es,es = lsAv Lk.c links:=⟨_,rfl⟩
  have b1:lsAv Q.c (links.map firstQ) = gQ links.length:=by rw [hgQ,List.take_length]
  have b2:lsAv Q.c (links.map fun _=>Q.of 0) = gV links.length:=by rw [hgV,List.take_length]
  simp only [Ar.c,← hel] at hye
  simp only [firstA,As.c,b1,b2] at e3
  have hgrowA:∀ c,AE.GrowR (A.llen (gA i)) (A.llen [c]) 64:=fun c=>grow1 hA (n:=2 ^ 30) (by rw [hgA,lsAv_len,List.length_map,List.length_take]; omega) (by decide) (by decide)
  (repeat' (first|(refine X.g ?_; cbv)|refine X.splitT ?_|refine X.splitF ?_|refine X.sp (fun hc=>?_) (fun hc=>?_)|refine X.needT ?_|refine X.idx _ _ _ _ _ _ _ _ hye hz ?_))
  refine X.loopG _ _ _ (X.nilB 6 0 29 3 _ _ (X.nilB 6 1 29 3 _ _ ?_))
  (refine X.g ?_; cbv)
  refine rangeLS X hA hel (by omega) (fun _=>True) (fun z _=>[(27,.v (.int .i64 z))]) (fun i o=>(o.set 7 (.row 29 3 (gQ i))).set 8 (.row 29 3 (gV i))) trivial ?_ (fun k zk yl hzk hyl hyel c4 hI2 B2 hB2=>?_) (fun zk c4 hI2 B2=>?_)
  ·have h0:[] = gQ 0:=by rw [hgQ]; exact (lsAv_nil _).symm
   have h1:[] = gV 0:=by rw [hgV]; exact (lsAv_nil _).symm
   clear hB
   (cbv <;> (and_intros <;> first|exact h0|exact h1|rfl|trivial))
  ·have e1:=lapp_map hA firstQ (f:=Q.c) hyl (hgQ k) (hgQ (k + 1))
   have e2:=lapp_map hA (fun _=>Q.of 0) (f:=Q.c) hyl (hgV k) (hgV (k + 1))
   rw [← hq0] at e2
   obtain ⟨y1,y2⟩:=z2 yl (List.mem_of_getElem? hyl)
   obtain ⟨s1,hs1⟩:∃ z,z = sgnR yl.low.v:=⟨_,rfl⟩
   obtain ⟨s2,hs2⟩:∃ z,z = sgnR yl.high.v:=⟨_,rfl⟩
   have k2:=sign_ok yl.low (by omega) s1 hs1
   have k3:=sign_ok yl.high (by omega) s2 hs2
   have hgrowQ:∀ c,AE.GrowR (A.llen (gQ k)) (A.llen [c]) 40:=fun c=>grow1 hA (n:=2 ^ 30) (by rw [hgQ,lsAv_len,List.length_map,List.length_take]; omega) (by decide) (by decide)
   have hgrowV:∀ c,AE.GrowR (A.llen (gV k)) (A.llen [c]) 40:=fun c=>grow1 hA (n:=2 ^ 30) (by rw [hgV,lsAv_len,List.length_map,List.length_take]; omega) (by decide) (by decide)
   clear hB
   by_cases h1:0 < s1
   ·have c5:A.cmp .gtr s1 0 = true:=by rw [AE.c_gtr hA]; exact decide_eq_true h1
    rw [show firstQ yl = yl.low by rw [firstQ,if_pos (by rw [← hs1]; exact h1)]] at e1
    (repeat' (first|(refine X.g ?_; cbv)|refine X.splitT ?_|refine X.splitF ?_|refine X.sp (fun hc=>?_) (fun hc=>?_)|refine X.needT ?_|refine X.idx _ _ _ _ _ _ _ _ hyel hzk ?_|refine X.callsGA [] k1 ?_|refine X.callsGA [] k2 ?_|refine X.callsGA [] k3 ?_|refine X.need _ _ _ (hgrowQ _) ?_|refine X.need _ _ _ (hgrowV _) ?_))
    apply shareG X
    ·intro hs
     (repeat' (first|(refine X.g ?_; cbv)|refine X.splitT ?_|refine X.splitF ?_|refine X.sp (fun hc=>?_) (fun hc=>?_)|refine X.needT ?_|refine X.drawX _ _ _ (by kernel_rfl) (X.frzB 10 _ _ (Nat.zero_le _) ?_)|refine X.fork _ _ ?_ ?_|refine X.callsGA [] k1 ?_|refine X.need _ _ _ (hgrowQ _) ?_|refine X.need _ _ _ (hgrowV _) ?_|exact hs))
    ·refine hB2 trivial _ ?_; clear hB2; (cbv <;> (and_intros <;> first|exact e1|exact e2|rfl|trivial))
   ·have c5:A.cmp .gtr s1 0 = false:=by rw [AE.c_gtr hA]; exact decide_eq_false h1
    by_cases h2:s2 < 0
    ·have c6:A.cmp .lss s2 0 = true:=by rw [AE.c_lss hA]; exact decide_eq_true h2
     rw [show firstQ yl = yl.high by rw [firstQ,if_neg (by rw [← hs1]; exact h1),if_pos (by rw [← hs2]; exact h2)]] at e1
     (repeat' (first|(refine X.g ?_; cbv)|refine X.splitT ?_|refine X.splitF ?_|refine X.sp (fun hc=>?_) (fun hc=>?_)|refine X.needT ?_|refine X.idx _ _ _ _ _ _ _ _ hyel hzk ?_|refine X.callsGA [] k1 ?_|refine X.callsGA [] k2 ?_|refine X.callsGA [] k3 ?_|refine X.need _ _ _ (hgrowQ _) ?_|refine X.need _ _ _ (hgrowV _) ?_))
     apply shareG X
     ·intro hs
      (repeat' (first|(refine X.g ?_; cbv)|refine X.splitT ?_|refine X.splitF ?_|refine X.sp (fun hc=>?_) (fun hc=>?_)|refine X.needT ?_|refine X.drawX _ _ _ (by kernel_rfl) (X.frzB 10 _ _ (Nat.zero_le _) ?_)|refine X.fork _ _ ?_ ?_|refine X.callsGA [] k1 ?_|refine X.need _ _ _ (hgrowQ _) ?_|refine X.need _ _ _ (hgrowV _) ?_|exact hs))
     ·refine hB2 trivial _ ?_; clear hB2; (cbv <;> (and_intros <;> first|exact e1|exact e2|rfl|trivial))
    ·have c6:A.cmp .lss s2 0 = false:=by rw [AE.c_lss hA]; exact decide_eq_false h2
     rw [show firstQ yl = q0 by rw [hq0,firstQ,if_neg (by rw [← hs1]; exact h1),if_neg (by rw [← hs2]; exact h2)]] at e1
     (repeat' (first|(refine X.g ?_; cbv)|refine X.splitT ?_|refine X.splitF ?_|refine X.sp (fun hc=>?_) (fun hc=>?_)|refine X.needT ?_|refine X.idx _ _ _ _ _ _ _ _ hyel hzk ?_|refine X.callsGA [] k1 ?_|refine X.callsGA [] k2 ?_|refine X.callsGA [] k3 ?_|refine X.need _ _ _ (hgrowQ _) ?_|refine X.need _ _ _ (hgrowV _) ?_))
     apply shareG X
     ·intro hs
      (repeat' (first|(refine X.g ?_; cbv)|refine X.splitT ?_|refine X.splitF ?_|refine X.sp (fun hc=>?_) (fun hc=>?_)|refine X.needT ?_|refine X.drawX _ _ _ (by kernel_rfl) (X.frzB 10 _ _ (Nat.zero_le _) ?_)|refine X.fork _ _ ?_ ?_|refine X.callsGA [] k1 ?_|refine X.need _ _ _ (hgrowQ _) ?_|refine X.need _ _ _ (hgrowV _) ?_|exact hs))
     ·refine hB2 trivial _ ?_; clear hB2; (cbv <;> (and_intros <;> first|exact e1|exact e2|rfl|trivial))
  ·refine X.frz 7 _ _ (X.frz 8 _ _ ?_)
   (repeat' (first|(refine X.g ?_; cbv)|refine X.splitT ?_|refine X.splitF ?_|refine X.sp (fun hc=>?_) (fun hc=>?_)|refine X.needT ?_|refine X.need _ _ _ (hgrowA _) ?_))
   all_goals (refine hB trivial _ ?_; clear hB; (cbv <;> (and_intros <;> first|exact e3|rfl|trivial)))
 obtain ⟨f0,hf0⟩:∃ f,f = frame0:=⟨_,rfl⟩
 have k4:=frameZero_ok f0 hf0
 have r1:gA arms.length = va:=by rw [hgA,List.take_length,hva]; rfl
 have r2:gP parts.length = vp:=by rw [hgP,hvp]; rfl
 clear k1 hzz
 (repeat' (first|(refine X.g ?_; cbv)|refine X.splitT ?_|refine X.splitF ?_|refine X.sp (fun hc=>?_) (fun hc=>?_)|refine X.needT ?_))
 refine X.loopG _ _ _ (X.nilB 3 2 66 10 _ _ ?_)
 (refine X.g ?_; cbv)
 refine rangeLS X hA hep (by omega) (fun _=>True) (fun z _=>[(67,.v (.int .i64 z))]) (fun i o=>o.set 5 (.row 66 10 (gP i))) trivial ?_ (fun i z y hz hy hye c3 hI B hB=>?_) (fun z c3 hI B=>?_)
 ·have h0:[] = gP 0:=by rw [hgP]; exact (lsAv_nil _).symm
  (cbv <;> (and_intros <;> first|exact h0|rfl|trivial))
 ·have hil:i < parts.length:=(List.getElem?_eq_some_iff.1 hy).1
  have e1:A.lapp (gP i) [(frameAt slots i).c] = gP (i + 1):=by
   rw [hgP,hgP,List.range_succ,List.map_append,← lsAv_app,show lsAv Fr.c (List.map (frameAt slots) [i]) = [(frameAt slots i).c] by rw [lsAv_eq]; rfl]
   subst hA; rfl
  have hgrowP:∀ c,AE.GrowR (A.llen (gP i)) (A.llen [c]) 128:=fun c=>grow1 hA (n:=2 ^ 30) (by rw [hgP,lsAv_len,List.length_map,List.length_range]; omega) (by decide) (by decide)
  by_cases h:i < slots.length
  ·have c5:A.cmp .lss z (A.llen es) = true:=ltT hA hz ls h
   obtain ⟨s0,hs0⟩:∃ s,slots[i]? = some s:=⟨_,List.getElem?_eq_getElem h⟩
   have hse:es[i]? = some s0.c:=by rw [hes]; exact lsAv_get hs0
   rw [show frameAt slots i = s0.frame by rw [frameAt,hs0]] at e1
   (repeat' (first|(refine X.g ?_; cbv)|refine X.splitT ?_|refine X.splitF ?_|refine X.sp (fun hc=>?_) (fun hc=>?_)|refine X.needT ?_|refine X.drawX _ _ _ (by kernel_rfl) ?_|refine X.fork _ _ ?_ ?_|refine X.idx _ _ _ _ _ _ _ _ hse hz ?_|refine X.need _ _ _ (hgrowP _) ?_))
   all_goals (refine hB trivial _ ?_; clear hB; (cbv <;> (and_intros <;> first|exact e1|rfl|trivial)))
  ·have c5:A.cmp .lss z (A.llen es) = false:=ltF hA hz ls h
   rw [show frameAt slots i = f0 by rw [frameAt,List.getElem?_eq_none (by omega),hf0]] at e1
   (repeat' (first|(refine X.g ?_; cbv)|refine X.splitT ?_|refine X.splitF ?_|refine X.sp (fun hc=>?_) (fun hc=>?_)|refine X.needT ?_|refine X.drawX _ _ _ (by kernel_rfl) ?_|refine X.fork _ _ ?_ ?_|refine X.callsGA [] k4 ?_|refine X.need _ _ _ (hgrowP _) ?_))
   all_goals (refine hB trivial _ ?_; clear hB; (cbv <;> (and_intros <;> first|exact e1|rfl|trivial)))
 ·refine X.frz 2 _ _ (X.frz 4 _ _ (X.frz 5 _ _ ?_))
  (repeat' (first|(refine X.g ?_; cbv)|refine X.splitT ?_|refine X.splitF ?_|refine X.sp (fun hc=>?_) (fun hc=>?_)|refine X.needT ?_))
  all_goals (refine X.ret _ (X.done rfl ?_); cbv <;> (and_intros <;> first|exact r1|exact r2|exact fvw.symm|exact fvw|exact hrep|rfl|trivial))
end Go.Proofs.YthadehkggddgoaaGreatDoor
end
section
set_option maxRecDepth 100000
set_option maxHeartbeats 0
set_option linter.unusedVariables false
set_option linter.unusedSimpArgs false
namespace Go.Proofs.YthadehkggddgoaaGreatDoor
open Go Go.Num
theorem refName_ok (s:ByteArray) (hs:s.size < 2 ^ 60) (r:Bool) (hr:r = decide (nameOK s)):AE.ACall Tryz.prog 121 [] [.v (.string s)] [] (.b r):=by
 refine AE.ACall.of_walk (fn:=Tryz.f121) (c:=bodyOf Tryz.f121) tabOK Tryz.func121 rfl rfl mixed fun A hA X=>?_
 have hle:A.cmp .leq (A.slen s) 12 = decide (s.size ≤ 12):=leI hA (slen hA s) (b:=12) rfl
 by_cases h0:s = ⟨⟨[]⟩⟩
 ·have c1:A.scmp .neq s ⟨⟨[]⟩⟩ = false:=by rw [c_sneq hA,decide_eq_true h0]; rfl
  have e1:false = r:=by rw [hr,decide_eq_false (fun h=>by rw [h0] at h; exact absurd h.1 (by decide))]
  (repeat' (first|(refine X.g ?_; cbv)|refine X.splitT ?_|refine X.splitF ?_|refine X.sp (fun hc=>?_) (fun hc=>?_)|refine X.needT ?_))
  all_goals (refine X.ret _ (X.done rfl ?_); cbv <;> (and_intros <;> first|exact e1|rfl|trivial))
 have c1:A.scmp .neq s ⟨⟨[]⟩⟩ = true:=by rw [c_sneq hA,decide_eq_false h0]; rfl
 have h1:1 ≤ s.size:=by
  obtain ⟨b,l,hl⟩:=ba_cons h0
  rw [← size_data,hl]; simp
 by_cases h2:s.size ≤ 12
 ·have c2:A.cmp .leq (A.slen s) 12 = true:=by rw [hle,decide_eq_true h2]
  obtain ⟨t,ht⟩:∃ t:ByteArray,t = ⟨(Lib.trimS s.data.toList abc).toArray⟩:=⟨_,rfl⟩
  have k1:=trimAbc_ok s hs t ht
  have e1:A.scmp .eql t ⟨⟨[]⟩⟩ = r:=by
   rw [c_seql hA,hr]
   congr 1
   have:t = ⟨⟨[]⟩⟩ ↔ letters s.data.toList:=by
    rw [ht]
    constructor
    ·intro h
     have h' : (Lib.trimS s.data.toList abc).toArray = #[]:=by injection h
     have:Lib.trimS s.data.toList abc = []:=by simpa using h'
     exact fun b hb=>(abc_iff b).1 ((trim_nil _ _).1 this b hb)
    ·intro h
     have:Lib.trimS s.data.toList abc = []:=(trim_nil _ _).2 fun b hb=>(abc_iff b).2 (h b hb)
     rw [this]
   exact propext ⟨fun h=>⟨h1,h2,this.1 h⟩,fun h=>this.2 h.2.2⟩
  (repeat' (first|(refine X.g ?_; cbv)|refine X.splitT ?_|refine X.splitF ?_|refine X.sp (fun hc=>?_) (fun hc=>?_)|refine X.callsA [] k1 ?_|refine X.needT ?_))
  all_goals (refine X.ret _ (X.done rfl ?_); cbv <;> (and_intros <;> first|exact e1|rfl|trivial))
 ·have c2:A.cmp .leq (A.slen s) 12 = false:=by rw [hle,decide_eq_false h2]
  have e1:false = r:=by rw [hr,decide_eq_false (fun h=>h2 h.2.1)]
  (repeat' (first|(refine X.g ?_; cbv)|refine X.splitT ?_|refine X.splitF ?_|refine X.sp (fun hc=>?_) (fun hc=>?_)|refine X.needT ?_))
  all_goals (refine X.ret _ (X.done rfl ?_); cbv <;> (and_intros <;> first|exact e1|rfl|trivial))
theorem refSmall_ok (l:List Q) (hsz:∀ q ∈ l,q.sz ≤ 2 ^ 34) (hl:l.length < 2 ^ 40) (es:List (List AE.AV)) (hes:es = lsAv Q.c l) (r:Bool) (hr:r = decide (∀ q ∈ l,q.Small)):AE.ACallG GG Tryz.prog 126 [] [.l 3 es] [] (.b r):=by
 refine AE.ACallG.of_walk (fn:=Tryz.f126) (c:=bodyOf Tryz.f126) GG_stays tabOK Tryz.func126 rfl rfl mixed fun A hA X=>?_
 (repeat' (first|(refine X.g ?_; cbv)|refine X.splitT ?_|refine X.splitF ?_|refine X.sp (fun hc=>?_) (fun hc=>?_)|refine X.needT ?_))
 refine rangeL0 X hA hes (by omega) (fun i=>∀ q ∈ l.take i,q.Small) (fun z _=>[(7,.v (.int .i64 z))]) (fun b hb=>by simp at hb) ?_ (fun i z y hz hy he c3 hI B hB=>?_) (fun z c3 hI B=>?_)
 ·(cbv <;> (and_intros <;> first|rfl|trivial))
 ·have hm:=List.mem_of_getElem? hy
  obtain ⟨g,hg⟩:∃ g,g = decide y.Small:=⟨_,rfl⟩
  obtain ⟨gd,hgd⟩:∃ g,g = decide y.Good:=⟨_,rfl⟩
  have k1:=small_ok y (hsz y hm) g hg
  have k2:=good_ok y (hsz y hm) gd hgd
  by_cases h:y.Small
  ·have c4:A.bnot g = false:=by rw [AE.c_not hA,hg,decide_eq_true h]; rfl
   have c5:A.bnot gd = false:=by rw [AE.c_not hA,hgd,decide_eq_true h.1]; rfl
   have hI' : ∀ q ∈ l.take (i + 1),q.Small:=by
    rw [List.take_add_one,hy]
    intro x hx
    rcases List.mem_append.1 hx with hx|hx
    ·exact hI x hx
    ·simp at hx; rw [hx]; exact h
   (repeat' (first|(refine X.g ?_; cbv)|refine X.splitT ?_|refine X.splitF ?_|refine X.sp (fun hc=>?_) (fun hc=>?_)|refine X.needT ?_|refine X.idx _ _ _ _ _ _ _ _ he hz ?_|refine X.callsGA [] k1 ?_|refine X.callsGA [] k2 ?_))
   all_goals (refine hB hI' _ ?_; clear hB; (cbv <;> (and_intros <;> first|rfl|trivial)))
  ·have c4:A.bnot g = true:=by rw [AE.c_not hA,hg,decide_eq_false h]; rfl
   have e1:false = r:=by rw [hr,decide_eq_false (fun hh=>h (hh y hm))]
   clear hB
   (repeat' (first|(refine X.g ?_; cbv)|refine X.splitT ?_|refine X.splitF ?_|refine X.sp (fun hc=>?_) (fun hc=>?_)|refine X.needT ?_|refine X.idx _ _ _ _ _ _ _ _ he hz ?_|refine X.callsGA [] k1 ?_|refine X.callsGA [] k2 ?_))
   all_goals (refine X.ret _ (X.done rfl ?_); cbv <;> (and_intros <;> first|exact e1|rfl|trivial))
 ·rw [List.take_length] at hI
  have e1:true = r:=by rw [hr,decide_eq_true hI]
  (repeat' (first|(refine X.g ?_; cbv)|refine X.splitT ?_|refine X.splitF ?_|refine X.sp (fun hc=>?_) (fun hc=>?_)|refine X.needT ?_))
  all_goals (refine X.ret _ (X.done rfl ?_); cbv <;> (and_intros <;> first|exact e1|rfl|trivial))
theorem refFrame_ok (f:Fr) (hf:f.le (2 ^ 28)) (r:Bool) (hr:r = frameB f):AE.ACallG GG Tryz.prog 125 [] [.a f.c] [] (.b r):=by
 obtain ⟨z1,z2⟩:=hf
 obtain ⟨⟨q1,q2⟩,half,t⟩:=f
 simp only [V2.sz] at z1 z2
 refine AE.ACallG.of_walk (fn:=Tryz.f125) (c:=bodyOf Tryz.f125) GG_stays tabOK Tryz.func125 rfl rfl mixed fun A hA X=>?_
 obtain ⟨sm,hsm⟩:∃ b,b = decide (∀ q ∈ [q1,q2,t],q.Small):=⟨_,rfl⟩
 obtain ⟨z,hz⟩:∃ z,z = sgnR t.v:=⟨_,rfl⟩
 have hr2:r = (sm && (!half || decide (z = 0))):=by
  rw [hr,frameB,← hz,hsm,frameI]
  congr 1
  rw [← Bool.decide_and]
  congr 1
  simp [V2.Small,and_assoc]
 clear hr
 have k1:=refSmall_ok [q1,q2,t] (by simp only [List.mem_cons,List.not_mem_nil,or_false,forall_eq_or_imp,forall_eq]; omega) (by simp) [q1.c,q2.c,t.c] (by rw [lsAv_eq]; rfl) sm hsm
 have k4:=sign_ok t (by omega) z hz
 (repeat' (first|(refine X.g ?_; cbv)|refine X.splitT ?_|refine X.splitF ?_|refine X.sp (fun hc=>?_) (fun hc=>?_)|refine X.needT ?_|(refine X.isCall ?_; refine X.lendsG [1] k1 rfl ?_ (by cbv) ?_; focus (cbv <;> (and_intros <;> first|rfl|trivial)))|refine X.callsGA [] k4 ?_))
 all_goals (refine X.ret _ (X.done rfl ?_); cbv <;> (and_intros <;> first|rfl|trivial|(clear X k1 k4 hsm hz z1 z2; rw [hr2]; (try simp only [AE.c_lss hA,AE.c_leq hA,AE.c_gtr hA,AE.c_geq hA,AE.c_eql hA,AE.c_neq hA,AE.c_not hA,AE.c_and hA,AE.c_beq hA,AE.c_bne hA,decide_eq_true_eq,decide_eq_false_iff_not,Bool.not_eq_true,Bool.not_eq_false,Bool.not_eq_eq_eq_not,Bool.not_true,Bool.not_false,Int.not_lt,Int.not_le,Int.ofNat_eq_natCast] at *); clear hA hr2; cases sm <;> cases half <;> first|rfl|contradiction|(rw [decide_eq_true (by omega)]; rfl)|(rw [decide_eq_false (by omega)]; rfl)|simp)))
theorem refShape_ok (l:List V2) (hsz:∀ p ∈ l,p.sz ≤ 2 ^ 28) (hl:l.length < 2 ^ 40) (es:List (List AE.AV)) (hes:es = lsAv V2.c l) (r:Int) (hr:r = shapeC l):AE.ACallG GG Tryz.prog 124 [] [.l 6 es] [] (.v (.int .i64 r)):=by
 refine AE.ACallG.of_walk (fn:=Tryz.f124) (c:=bodyOf Tryz.f124) GG_stays tabOK Tryz.func124 rfl rfl mixed fun A hA X=>?_
 obtain ⟨pc,hpc⟩:∃ z,z = polyC 8 l:=⟨_,rfl⟩
 have k6:=polyCheck8_ok l hsz hl es hes pc hpc
 rw [shapeC,← hpc] at hr
 by_cases h0:pc = 0
 ·have c4:A.cmp .neq pc 0 = false:=by rw [AE.c_neq hA,h0]; rfl
  (repeat' (first|(refine X.g ?_; cbv)|refine X.splitT ?_|refine X.splitF ?_|refine X.sp (fun hc=>?_) (fun hc=>?_)|refine X.callsGA [] k6 ?_|refine X.needT ?_))
  refine rangeL0 X hA hes (by omega) (fun i=>∀ p ∈ l.take i,p.Small) (fun z _=>[(13,.v (.int .i64 z))]) (fun b hb=>by simp at hb) ?_ (fun i z y hz hy he c3 hI B hB=>?_) (fun z c3 hI B=>?_)
  ·(cbv <;> (and_intros <;> first|rfl|trivial))
  ·have hm:=List.mem_of_getElem? hy
   have ym:=hsz y hm
   simp only [V2.sz] at ym
   obtain ⟨g,hg⟩:∃ g,g = decide (∀ q ∈ [y.x,y.y],q.Small):=⟨_,rfl⟩
   have k1:=refSmall_ok [y.x,y.y] (by simp only [List.mem_cons,List.not_mem_nil,or_false,forall_eq_or_imp,forall_eq]; omega) (by simp) [y.x.c,y.y.c] (by rw [lsAv_eq]; rfl) g hg
   have hgs:g = decide y.Small:=by rw [hg]; congr 1; simp [V2.Small]
   clear k6
   by_cases h:y.Small
   ·have c4:A.bnot g = false:=by rw [AE.c_not hA,hgs,decide_eq_true h]; rfl
    have hI' : ∀ q ∈ l.take (i + 1),q.Small:=by
     rw [List.take_add_one,hy]
     intro x hx
     rcases List.mem_append.1 hx with hx|hx
     ·exact hI x hx
     ·simp at hx; rw [hx]; exact h
    (repeat' (first|(refine X.g ?_; cbv)|refine X.splitT ?_|refine X.splitF ?_|refine X.sp (fun hc=>?_) (fun hc=>?_)|refine X.needT ?_|refine X.idx _ _ _ _ _ _ _ _ he hz ?_|(refine X.isCall ?_; refine X.lendsG [1] k1 rfl ?_ (by cbv) ?_; focus (cbv <;> (and_intros <;> first|rfl|trivial)))))
    all_goals (refine hB hI' _ ?_; clear hB; (cbv <;> (and_intros <;> first|rfl|trivial)))
   ·have c4:A.bnot g = true:=by rw [AE.c_not hA,hgs,decide_eq_false h]; rfl
    have e1:1 = r:=by rw [hr,shapeI,if_neg (by omega),decide_eq_false (fun hh=>h (hh y hm))]; rfl
    clear hB
    (repeat' (first|(refine X.g ?_; cbv)|refine X.splitT ?_|refine X.splitF ?_|refine X.sp (fun hc=>?_) (fun hc=>?_)|refine X.needT ?_|refine X.idx _ _ _ _ _ _ _ _ he hz ?_|(refine X.isCall ?_; refine X.lendsG [1] k1 rfl ?_ (by cbv) ?_; focus (cbv <;> (and_intros <;> first|rfl|trivial)))))
    all_goals (refine X.ret _ (X.done rfl ?_); cbv <;> (and_intros <;> first|exact e1|rfl|trivial))
  ·rw [List.take_length] at hI
   have e1:0 = r:=by rw [hr,shapeI,if_neg (by omega),decide_eq_true hI]; rfl
   (repeat' (first|(refine X.g ?_; cbv)|refine X.splitT ?_|refine X.splitF ?_|refine X.sp (fun hc=>?_) (fun hc=>?_)|refine X.needT ?_))
   all_goals (refine X.ret _ (X.done rfl ?_); cbv <;> (and_intros <;> first|exact e1|rfl|trivial))
 ·have c4:A.cmp .neq pc 0 = true:=by rw [AE.c_neq hA]; simpa using h0
  have e1:pc = r:=by rw [hr,shapeI,if_pos h0]
  (repeat' (first|(refine X.g ?_; cbv)|refine X.splitT ?_|refine X.splitF ?_|refine X.sp (fun hc=>?_) (fun hc=>?_)|refine X.callsGA [] k6 ?_|refine X.needT ?_))
  all_goals (refine X.ret _ (X.done rfl ?_); cbv <;> (and_intros <;> first|exact e1|rfl|trivial))
def strC (s:ByteArray):List AE.AV:=[.v (.string s)]
theorem indexStr_ok (l:List ByteArray) (hl:l.length < 2 ^ 40) (es:List (List AE.AV)) (hes:es = lsAv strC l) (s:ByteArray) (r:Int) (hr:r = idxB (fun t=>decide (s = t)) l):AE.ACall Tryz.prog 191 [] [.l 1 es,.v (.string s)] [] (.v (.int .i64 r)):=by
 refine AE.ACall.of_walk (fn:=Tryz.f191) (c:=bodyOf Tryz.f191) tabOK Tryz.func191 rfl rfl mixed fun A hA X=>?_
 (repeat' (first|(refine X.g ?_; cbv)|refine X.splitT ?_|refine X.splitF ?_|refine X.sp (fun hc=>?_) (fun hc=>?_)|refine X.needT ?_))
 refine rangeL0 X hA hes (by omega) (fun i=>∀ x ∈ l.take i,decide (s = x) = false) (fun z _=>[(8,.v (.int .i64 z))]) (fun x h=>by simp at h) ?_ (fun i z y hz hy he c3 hI B hB=>?_) (fun z c3 hI B=>?_)
 ·(cbv <;> (and_intros <;> first|rfl|trivial))
 ·rw [strC] at he
  have hc:A.scmp .eql s y = decide (s = y):=c_seql hA s y
  by_cases h:s = y
  ·have c4:A.scmp .eql s y = true:=by rw [hc,decide_eq_true h]
   have e1:z = r:=by rw [hr,idx_hit (p:=fun t=>decide (s = t)) hI hy (decide_eq_true h),hz]
   clear hB
   (repeat' (first|(refine X.g ?_; cbv)|refine X.splitT ?_|refine X.splitF ?_|refine X.sp (fun hc=>?_) (fun hc=>?_)|refine X.needT ?_|refine X.idx _ _ _ _ _ _ _ _ he hz ?_))
   all_goals (refine X.ret _ (X.done rfl ?_); cbv <;> (and_intros <;> first|exact e1|rfl|trivial))
  ·have c4:A.scmp .eql s y = false:=by rw [hc,decide_eq_false h]
   have hI' := take_all (p:=fun t=>decide (s = t)) hI hy (decide_eq_false h)
   (repeat' (first|(refine X.g ?_; cbv)|refine X.splitT ?_|refine X.splitF ?_|refine X.sp (fun hc=>?_) (fun hc=>?_)|refine X.needT ?_|refine X.idx _ _ _ _ _ _ _ _ he hz ?_))
   all_goals (refine hB hI' _ ?_; clear hB; (cbv <;> (and_intros <;> first|rfl|trivial)))
 ·rw [List.take_length] at hI
  have e1:-1 = r:=by rw [hr,idx_none hI]
  (repeat' (first|(refine X.g ?_; cbv)|refine X.splitT ?_|refine X.splitF ?_|refine X.sp (fun hc=>?_) (fun hc=>?_)|refine X.needT ?_))
  all_goals (refine X.ret _ (X.done rfl ?_); cbv <;> (and_intros <;> first|exact e1|rfl|trivial))
theorem containsStr_ok (l:List ByteArray) (hl:l.length < 2 ^ 40) (es:List (List AE.AV)) (hes:es = lsAv strC l) (s:ByteArray) (r:Bool) (hr:r = decide (s ∈ l)):AE.ACall Tryz.prog 122 [] [.l 1 es,.v (.string s)] [] (.b r):=by
 refine AE.ACall.of_walk (fn:=Tryz.f122) (c:=bodyOf Tryz.f122) tabOK Tryz.func122 rfl rfl mixed fun A hA X=>?_
 obtain ⟨z,hz⟩:∃ z,z = idxB (fun t=>decide (s = t)) l:=⟨_,rfl⟩
 have k1:=indexStr_ok l hl es hes s z hz
 have e1:A.cmp .geq z 0 = r:=by
  rw [AE.c_geq hA,hr,hz,idx_ge]
  by_cases h:s ∈ l
  ·rw [decide_eq_true h,List.any_eq_true]; exact ⟨s,h,decide_eq_true rfl⟩
  ·rw [decide_eq_false h,List.any_eq_false]; intro x hx; simp only [decide_eq_true_eq]; rintro rfl; exact h hx
 (repeat' (first|(refine X.g ?_; cbv)|refine X.splitT ?_|refine X.splitF ?_|refine X.sp (fun hc=>?_) (fun hc=>?_)|refine X.callsA [] k1 ?_|refine X.needT ?_))
 all_goals (refine X.ret _ (X.done rfl ?_); cbv <;> (and_intros <;> first|exact e1|rfl|trivial))
theorem refNames_ok (ns:List ByteArray) (hn:ns.length < 1000) (s:ByteArray) (hs:s.size < 2 ^ 60) (es es' : List (List AE.AV)) (e:Int) (hes:es = lsAv strC ns) (hes' : es' = lsAv strC (addN ns s).2) (he:e = (addN ns s).1):AE.ACallG GG Tryz.prog 120 [.box [.r 1] 176,.row 9 1 es] [.v (.string s),.p 0 0] [.box [.r 1] 176,.row 9 1 es'] (.v (.int .i64 e)):=by
 refine AE.ACallG.of_walk (fn:=Tryz.f120) (c:=bodyOf Tryz.f120) GG_stays tabOK Tryz.func120 rfl rfl mixed fun A hA X=>?_
 obtain ⟨nm,hnm⟩:∃ b,b = decide (nameOK s):=⟨_,rfl⟩
 have k1:=refName_ok s hs nm hnm
 obtain ⟨b,hb⟩:∃ b,b = decide (s ∈ ns):=⟨_,rfl⟩
 have k2:=containsStr_ok ns (by omega) es hes s b hb
 by_cases h1:nameOK s
 ·have c1:A.bnot nm = false:=by rw [AE.c_not hA,hnm,decide_eq_true h1]; rfl
  by_cases h2:s ∈ ns
  ·have c2:b = true:=by rw [hb,decide_eq_true h2]
   rw [addN,if_neg (by simpa using h1),if_pos h2] at he hes'
   have e1:es = es' := by rw [hes,hes']
   (repeat' (first|(refine X.g ?_; cbv)|refine X.splitT ?_|refine X.splitF ?_|refine X.sp (fun hc=>?_) (fun hc=>?_)|refine X.needT ?_|refine X.callsA [] k1 ?_|(refine X.isCall ?_; refine X.lends [1] k2 rfl ?_ (by cbv) ?_; focus (cbv <;> (and_intros <;> first|rfl|trivial)))))
   all_goals (refine X.ret _ (X.done rfl ?_); cbv <;> (and_intros <;> first|exact he.symm|exact e1|rfl|trivial))
  ·have c2:b = false:=by rw [hb,decide_eq_false h2]
   rw [addN,if_neg (by simpa using h1),if_neg h2] at he hes'
   have hn1:A.llen es = ns.length:=by rw [llen hA,hes,lsAv_len]
   have e1:A.lapp es [[.v (.string s)]] = es' := by subst hA; rw [hes,hes', ← lsAv_app,show lsAv strC [s] = [[.v (.string s)]] by rw [lsAv_eq]; rfl]; rfl
   have hgrow:AE.GrowR (A.llen es) (A.llen [[AE.AV.v (.string s)]]) 16:=by
    have h1:A.llen [[AE.AV.v (.string s)]] = 1:=by subst hA; rfl
    constructor <;> rw [h1,hn1] <;> omega
   (repeat' (first|(refine X.g ?_; cbv)|refine X.splitT ?_|refine X.splitF ?_|refine X.sp (fun hc=>?_) (fun hc=>?_)|refine X.needT ?_|refine X.callsA [] k1 ?_|(refine X.isCall ?_; refine X.lends [1] k2 rfl ?_ (by cbv) ?_; focus (cbv <;> (and_intros <;> first|rfl|trivial)))|refine X.need _ _ _ hgrow ?_))
   all_goals (refine X.ret _ (X.done rfl ?_); cbv <;> (and_intros <;> first|exact he.symm|exact e1|rfl|trivial))
 ·have c1:A.bnot nm = true:=by rw [AE.c_not hA,hnm,decide_eq_false h1]; rfl
  rw [addN,if_pos h1] at he hes'
  have e1:es = es' := by rw [hes,hes']
  (repeat' (first|(refine X.g ?_; cbv)|refine X.splitT ?_|refine X.splitF ?_|refine X.sp (fun hc=>?_) (fun hc=>?_)|refine X.needT ?_|refine X.callsA [] k1 ?_))
  all_goals (refine X.ret _ (X.done rfl ?_); cbv <;> (and_intros <;> first|exact he.symm|exact e1|rfl|trivial))
end Go.Proofs.YthadehkggddgoaaGreatDoor
end
