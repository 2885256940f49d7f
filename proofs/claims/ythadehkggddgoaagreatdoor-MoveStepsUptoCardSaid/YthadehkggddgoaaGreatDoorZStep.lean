/- Contracts: fore.Frames, fore.Tip of a valid arm. Contracts: move.may, move.one and move.Step for one arm with one link that has power and does what it wishes. -/
import Derived.Test.YthadehkggddgoaaGreatDoorZThen
import Derived.Test.YthadehkggddgoaaGreatDoorZFitT
import Derived.Test.YthadehkggddgoaaGreatDoorZLong
import Derived.Test.YthadehkggddgoaaGreatDoorZInj
import Derived.Test.YthadehkggddgoaaGreatDoorZFuncsB
section
set_option maxRecDepth 100000
set_option maxHeartbeats 0
set_option linter.unusedVariables false
set_option linter.unusedSimpArgs false
namespace Go.Proofs.YthadehkggddgoaaGreatDoor
open Go Go.Num
def jointF (e:Fr) (q:Q):Fr:=e.then_ ⟨⟨Q.of 0,Q.of 0⟩,⟨false,Q.of q.v⟩⟩
def linkF (f:Fr) (k:Lk):Fr:=f.then_ ⟨⟨k.length,Q.of 0⟩,⟨false,Q.of 0⟩⟩
def qAt (q:List Q) (i:Nat):Q:=q.getD i Q.nil
def lkAt (l:List Lk) (i:Nat):Lk:=l.getD i ⟨Q.nil,Q.nil,Q.nil,Q.nil,Q.nil,[]⟩
def endN (a:Ar) (q:List Q):Nat → Fr
 | 0=>a.base
 | i + 1=>linkF (jointF (endN a q i) (qAt q i)) (lkAt a.links i)
def frmN (a:Ar) (q:List Q) (i:Nat):Fr:=jointF (endN a q i) (qAt q i)
def tipF (a:Ar) (q:List Q):Fr:=endN a q a.links.length
def sumQ (q:List Q) (i:Nat):Nat:=((q.take i).map Q.sz).sum
theorem sumQ_succ {q:List Q} {i:Nat} (h:i < q.length):sumQ q (i + 1) = sumQ q i + (qAt q i).sz:=by
 have:q[i]? = some (qAt q i):=by rw [qAt,List.getD_eq_getElem?_getD,List.getElem?_eq_getElem h]; rfl
 rw [sumQ,take_snoc this,List.map_append,List.sum_append]
 simp [sumQ]
theorem put_rs (f:Fr) (p:RV):(f.put p).rs ≤ f.at_.sz + 1 + 2 * p.rs + 8 * f.turn.t.sz + 51:=by
 have h1:=rvTurn_rs p f.turn
 have h2:=RV.rs_add f.at_.v (p.turn f.turn)
 have h3:=f.at_.rs
 have e:f.put p = f.at_.v.add (p.turn f.turn):=rfl
 rw [e]; omega
theorem joint_le (e:Fr) (q:Q):(jointF e q).turn.t.sz ≤ e.turn.t.sz + q.sz + 5 ∧ (jointF e q).at_.sz ≤ e.at_.sz + 8 * e.turn.t.sz + 60:=by
 constructor
 ·have:=thenT_sz e.turn ⟨false,Q.of q.v⟩
  show (thenT e.turn ⟨false,Q.of q.v⟩).t.sz ≤ _
  have h2:(⟨false,Q.of q.v⟩:Tn).t.sz = rs q.v:=sz_of _
  have h3:=q.rs
  omega
 ·show (V2.of _).sz ≤ _
  rw [V2.sz_of]
  show (e.put (⟨Q.of 0,Q.of 0⟩:V2).v).rs ≤ _
  have h1:=put_rs e (⟨Q.of 0,Q.of 0⟩:V2).v
  have h2:(⟨Q.of 0,Q.of 0⟩:V2).v.rs ≤ 1:=by
   show max (rs (Q.of 0).v) (rs (Q.of 0).v) ≤ 1
   rw [Q.v_of]; have:=rs0; omega
  omega
theorem link_le (f:Fr) (k:Lk):(linkF f k).turn.t.sz ≤ f.turn.t.sz + 5 ∧ (linkF f k).at_.sz ≤ f.at_.sz + 8 * f.turn.t.sz + 2 * k.length.sz + 60:=by
 constructor
 ·have:=thenT_sz f.turn ⟨false,Q.of 0⟩
  show (thenT f.turn ⟨false,Q.of 0⟩).t.sz ≤ _
  have h2:(⟨false,Q.of 0⟩:Tn).t.sz ≤ 1:=by show (Q.of 0).sz ≤ 1; rw [sz_of]; exact rs0
  omega
 ·show (V2.of _).sz ≤ _
  rw [V2.sz_of]
  show (f.put (⟨k.length,Q.of 0⟩:V2).v).rs ≤ _
  have h1:=put_rs f (⟨k.length,Q.of 0⟩:V2).v
  have h2:(⟨k.length,Q.of 0⟩:V2).v.rs ≤ k.length.sz + 1:=by
   show max (rs k.length.v) (rs (Q.of 0).v) ≤ _
   rw [Q.v_of]; have:=rs0; have:=k.length.rs; omega
  omega
theorem sumQ_le (q:List Q) {i j:Nat} (h:i ≤ j):sumQ q i ≤ sumQ q j:=by
 have:=(List.take_append_drop i (q.take j)).symm
 rw [List.take_take,Nat.min_eq_left h] at this
 rw [sumQ,sumQ,this,List.map_append,List.sum_append]; omega
theorem endN_le (a:Ar) (q:List Q) (hl:q.length = a.links.length) (hb1:a.base.turn.t.sz ≤ 3) (hb2:a.base.at_.sz ≤ 3) (hk:∀ k ∈ a.links,k.length.sz ≤ 3) (hn:a.links.length ≤ 3) (hS:sumQ q q.length ≤ 2 ^ 20):∀ i,i ≤ a.links.length → (endN a q i).turn.t.sz ≤ 3 + sumQ q i + 10 * i ∧ (endN a q i).at_.sz ≤ 3 + i * (16 * (2 ^ 20 + 40) + 300) + 8 * sumQ q i
 | 0,_=>⟨by show a.base.turn.t.sz ≤ _; omega,by show a.base.at_.sz ≤ _; omega⟩
 | i + 1,hi=>by
  obtain ⟨h1,h2⟩:=endN_le a q hl hb1 hb2 hk hn hS i (by omega)
  have h3:=sumQ_succ (q:=q) (i:=i) (by omega)
  have h4:=sumQ_le q (i:=i + 1) (j:=q.length) (by omega)
  obtain ⟨j1,j2⟩:=joint_le (endN a q i) (qAt q i)
  obtain ⟨l1,l2⟩:=link_le (jointF (endN a q i) (qAt q i)) (lkAt a.links i)
  have h5:(lkAt a.links i).length.sz ≤ 3:=hk _ (List.mem_of_getElem? (i:=i) (by rw [lkAt,List.getD_eq_getElem?_getD,List.getElem?_eq_getElem (by omega)]; rfl))
  have e:endN a q (i + 1) = linkF (jointF (endN a q i) (qAt q i)) (lkAt a.links i):=rfl
  rw [e]
  rw [Nat.add_mul,Nat.one_mul]
  constructor <;> omega
theorem foreFrames_ok (a:Ar) (ha:a.le (2 ^ 28)) (h0:armC a = 0) (q:List Q) (hl:q.length = a.links.length) (hq:∀ x ∈ q,x.sz ≤ 2 ^ 20) (hb1:a.base.turn.t.sz ≤ 3) (hb2:a.base.at_.sz ≤ 3) (hk:∀ k ∈ a.links,k.length.sz ≤ 3) (hS:sumQ q q.length ≤ 2 ^ 20) (eq er:List (List AE.AV)) (heq:eq = lsAv Q.c q) (her:er = lsAv Fr.c ((List.range a.links.length).map (frmN a q) ++ [tipF a q])):AE.ACallG GG Tryz.prog 107 [] [.a a.c,.l 3 eq] [] (.t [.l 10 er,.v (.int .i64 0)]):=by
 have hn:=(armC_zero h0).2.2.1
 have hz:=endN_le a q hl hb1 hb2 hk hn hS
 obtain ⟨v,hv⟩:∃ v:Int,v = q.length:=⟨_,rfl⟩
 have kH:=armHas_ok a ha v 0 (by rw [hasI,h0,hv,hl,if_neg (by decide),if_neg (by simp)])
 obtain ⟨z,hzz⟩:∃ x,x = Q.of 0:=⟨_,rfl⟩
 have zz:z.sz ≤ 1:=by rw [hzz,sz_of]; exact rs0
 have k1:=ratOf_ok 0 (by decide) (by decide) z hzz
 have k2:=turnOf_ok z (by omega) ⟨false,z⟩ (by rw [hzz,Q.v_of])
 obtain ⟨eN,heN⟩:∃ g:Nat → Fr,∀ i,g i = endN a q i:=⟨_,fun _=>rfl⟩
 obtain ⟨fN,hfN⟩:∃ g:Nat → Fr,∀ i,g i = frmN a q i:=⟨_,fun _=>rfl⟩
 have hsf:∀ i,fN i = jointF (eN i) (qAt q i):=fun i=>by rw [hfN,heN]; rfl
 have hse:∀ i,eN (i + 1) = linkF (fN i) (lkAt a.links i):=fun i=>by rw [heN,hfN]; rfl
 have hze:∀ i,i ≤ a.links.length → (eN i).le (2 ^ 26):=fun i hi=>by
  obtain ⟨g1,g2⟩:=hz i hi
  have g3:=sumQ_le q (i:=i) (j:=q.length) (by omega)
  have e2:i * (16 * (2 ^ 20 + 40) + 300) ≤ 3 * (16 * (2 ^ 20 + 40) + 300):=Nat.mul_le_mul_right _ (by omega)
  rw [heN]
  exact ⟨by omega,by omega⟩
 have hzf:∀ i,i < a.links.length → (fN i).le (2 ^ 26):=fun i hi=>by
  obtain ⟨g1,g2⟩:=hz i (by omega)
  have g3:=sumQ_le q (i:=i) (j:=q.length) (by omega)
  obtain ⟨j1,j2⟩:=joint_le (endN a q i) (qAt q i)
  have g4:(qAt q i).sz ≤ 2 ^ 20:=by
   rw [qAt,List.getD_eq_getElem?_getD,List.getElem?_eq_getElem (by omega)]; exact hq _ (List.getElem_mem _)
  have e2:i * (16 * (2 ^ 20 + 40) + 300) ≤ 2 * (16 * (2 ^ 20 + 40) + 300):=Nat.mul_le_mul_right _ (by omega)
  rw [hfN]
  refine ⟨?_,?_⟩
  ·show (jointF (endN a q i) (qAt q i)).at_.sz ≤ _; omega
  ·show (jointF (endN a q i) (qAt q i)).turn.t.sz ≤ _; omega
 obtain ⟨gF,hgF⟩:∃ g:Nat → List (List AE.AV),∀ i,g i = lsAv Fr.c ((List.range i).map fN):=⟨_,fun _=>rfl⟩
 have hfun:frmN a q = fN:=funext fun i=>(hfN i).symm
 have hb:a.base = eN 0:=by rw [heN]; rfl
 have ht:tipF a q = eN a.links.length:=by rw [heN]; rfl
 rw [hfun,ht] at her
 have hqa:∀ i,i < q.length → eq[i]? = some (qAt q i).c:=fun i hi=>by
  rw [heq]; exact lsAv_get (by rw [qAt,List.getD_eq_getElem?_getD,List.getElem?_eq_getElem hi]; rfl)
 have hqz:∀ i,i < q.length → (qAt q i).sz ≤ 2 ^ 20:=fun i hi=>by
  rw [qAt,List.getD_eq_getElem?_getD,List.getElem?_eq_getElem hi]; exact hq _ (List.getElem_mem _)
 have hlk:∀ (i:Nat) (y:Lk),a.links[i]? = some y → lkAt a.links i = y:=fun i y h=>by rw [lkAt,List.getD_eq_getElem?_getD,h]; rfl
 clear hz heN hfN hfun ht hb1 hb2 hS h0 ha hq
 obtain ⟨nm,base,ls⟩:=a
 simp only at hb hl hk hn hsf hse hze hzf her hlk
 subst hb
 obtain ⟨el,hel⟩:∃ es,es = lsAv Lk.c ls:=⟨_,rfl⟩
 simp only [Ar.c,← hel] at kH ⊢
 refine AE.ACallG.of_walk (fn:=Tryz.f107) (c:=bodyOf Tryz.f107) GG_stays tabOK Tryz.func107 rfl rfl mixed fun A hA X=>?_
 have hv:A.llen eq = v:=by rw [llen hA,heq,lsAv_len,hv]
 rw [← hv] at kH
 have c0:A.cmp .neq 0 0 = false:=by rw [AE.c_neq hA]; rfl
 obtain ⟨b0,hb0⟩:∃ f,f = eN 0:=⟨_,rfl⟩
 rw [← hb0] at kH ⊢
 obtain ⟨⟨b0x,b0y⟩,b0h,b0t⟩:=b0
 (repeat' (first|(refine X.g ?_; cbv)|refine X.splitT ?_|refine X.splitF ?_|refine X.sp (fun hc=>?_) (fun hc=>?_)|refine X.needT ?_|refine X.callsGA [] kH ?_|refine X.callsGA [] k1 ?_|refine X.callsGA [] k2 ?_|fail))
 refine X.loopG _ _ _ (X.frzB 0 _ _ (Nat.zero_le _) (X.frzB 2 _ _ (Nat.zero_le _) (X.frzB 3 _ _ (Nat.zero_le _) (X.nilT 10 66 10 _ _ ?_))))
 (refine X.g ?_; cbv)
 refine rangeLS X hA hel (by omega) (fun _=>True) (fun z _=>[(31,.v (.int .i64 z)),(10,.r 4)]) (fun i o=>(o.set 1 (.box (eN i).c 66)).set 4 (.row 66 10 (gF i))) trivial ?_ (fun i zi y hzi hy hye c9 hI B hB=>?_) (fun zi c9 hI B=>?_)
 ·have h0:[] = gF 0:=by rw [hgF]; exact (lsAv_nil _).symm
  rw [← hb0]
  clear kH k1 k2
  (cbv <;> (and_intros <;> first|exact h0|rfl|trivial))
 ·have hil:i < ls.length:=(List.getElem?_eq_some_iff.1 hy).1
  have hqi:=hqa i (by omega)
  have hqs:=hqz i (by omega)
  have hyl:=hk y (List.mem_of_getElem? hy)
  have y1:=hlk i y hy
  obtain ⟨qi,hqi'⟩:∃ x,x = qAt q i:=⟨_,rfl⟩
  rw [← hqi'] at hqi hqs
  obtain ⟨tq,htq⟩:∃ x,x = Q.of qi.v:=⟨_,rfl⟩
  have ztq:tq.sz ≤ 2 ^ 21:=by rw [htq,sz_of]; have:=qi.rs; omega
  have kj:=turnOf_ok qi (by omega) ⟨false,tq⟩ (by rw [htq])
  have kT1:=frameThen_ok (eN i) ⟨⟨z,z⟩,⟨false,tq⟩⟩ (hze i (by omega)) ⟨by show max z.sz z.sz ≤ _; omega,by show tq.sz ≤ _; omega⟩ (fN i) (by rw [hsf,jointF,htq,hqi', hzz])
  have kT2:=frameThen_ok (fN i) ⟨⟨y.length,z⟩,⟨false,z⟩⟩ (hzf i hil) ⟨by show max y.length.sz z.sz ≤ _; omega,by show z.sz ≤ _; omega⟩ (eN (i + 1)) (by rw [hse,y1,linkF,hzz])
  have e1:A.lapp (gF i) [(fN i).c] = gF (i + 1):=by
   rw [hgF,hgF,List.range_succ,List.map_append,← lsAv_app,show lsAv Fr.c ([i].map fN) = [(fN i).c] by rw [lsAv_eq]; rfl]
   subst hA; rfl
  have hgrow:∀ c,AE.GrowR (A.llen (gF i)) (A.llen [c]) 128:=fun c=>grow1 hA (n:=8) (by rw [hgF,lsAv_len,List.length_map,List.length_range]; omega) (by decide) (by decide)
  clear kH k2 hqi' htq hqs hsf hse hze hzf hgF
  obtain ⟨e,he⟩:∃ x,x = eN i:=⟨_,rfl⟩
  obtain ⟨f,hf⟩:∃ x,x = fN i:=⟨_,rfl⟩
  obtain ⟨e', he'⟩:∃ x,x = eN (i + 1):=⟨_,rfl⟩
  rw [← he,← hf] at kT1
  rw [← hf,← he'] at kT2
  rw [← hf] at e1
  rw [← he]
  rw [← he'] at hB
  clear he hf he'
  obtain ⟨⟨ex,ey⟩,eh,et⟩:=e
  obtain ⟨⟨fx,fy⟩,fh,ft⟩:=f
  obtain ⟨⟨gx,gy⟩,gh,gt⟩:=e'
  (repeat' (first|(refine X.g ?_; cbv)|refine X.splitT ?_|refine X.splitF ?_|refine X.sp (fun hc=>?_) (fun hc=>?_)|refine X.needT ?_|refine X.idx _ _ _ _ _ _ _ _ hye hzi ?_|fail))
  apply shareG X
  ·intro hs
   refine X.drawX _ _ _ (by kernel_rfl) (X.frzB 5 _ _ (Nat.zero_le _) ?_)
   (repeat' (first|(refine X.g ?_; cbv)|refine X.splitT ?_|refine X.splitF ?_|refine X.sp (fun hc=>?_) (fun hc=>?_)|refine X.needT ?_|refine X.fork _ _ ?_ ?_|refine X.idx _ _ _ _ _ _ _ _ hqi hzi ?_|refine X.callsGA [] kj ?_|refine X.callsGA [] kT1 ?_|fail))
   all_goals exact hs
  (repeat' (first|(refine X.g ?_; cbv)|refine X.splitT ?_|refine X.splitF ?_|refine X.sp (fun hc=>?_) (fun hc=>?_)|refine X.needT ?_|refine X.need _ _ _ (hgrow _) ?_|fail))
  apply shareG X
  ·intro hs
   refine X.drawX _ _ _ (by kernel_rfl) (X.frzB 6 _ _ (Nat.zero_le _) ?_)
   (repeat' (first|(refine X.g ?_; cbv)|refine X.splitT ?_|refine X.splitF ?_|refine X.sp (fun hc=>?_) (fun hc=>?_)|refine X.needT ?_|refine X.fork _ _ ?_ ?_|refine X.callsGA [] k1 ?_|refine X.callsGA [] kT2 ?_|fail))
   all_goals exact hs
  all_goals (refine hB trivial _ ?_; clear hB; (cbv <;> (and_intros <;> first|exact e1|rfl|trivial)))
 ·have hgrow:∀ c,AE.GrowR (A.llen (gF ls.length)) (A.llen [c]) 128:=fun c=>grow1 hA (n:=8) (by rw [hgF,lsAv_len,List.length_map,List.length_range]; omega) (by decide) (by decide)
  have e1:A.lapp (gF ls.length) [(eN ls.length).c] = er:=by
   rw [hgF,her,← lsAv_app,show lsAv Fr.c [eN ls.length] = [(eN ls.length).c] by rw [lsAv_eq]; rfl]
   subst hA; rfl
  obtain ⟨e,he⟩:∃ x,x = eN ls.length:=⟨_,rfl⟩
  rw [← he] at e1 ⊢
  clear kH k1 k2 he hsf hse hze hzf hgF her
  obtain ⟨⟨ex,ey⟩,eh,et⟩:=e
  (repeat' (first|(refine X.g ?_; cbv)|refine X.splitT ?_|refine X.splitF ?_|refine X.sp (fun hc=>?_) (fun hc=>?_)|refine X.needT ?_|refine X.need _ _ _ (hgrow _) ?_|fail))
  all_goals (refine X.ret _ (X.frz 4 _ _ (X.done rfl ?_)); cbv <;> (and_intros <;> first|exact e1|rfl|trivial))
theorem foreTip_ok (a:Ar) (ha:a.le (2 ^ 28)) (h0:armC a = 0) (q:List Q) (hl:q.length = a.links.length) (hq:∀ x ∈ q,x.sz ≤ 2 ^ 20) (hb1:a.base.turn.t.sz ≤ 3) (hb2:a.base.at_.sz ≤ 3) (hk:∀ k ∈ a.links,k.length.sz ≤ 3) (hS:sumQ q q.length ≤ 2 ^ 20) (eq:List (List AE.AV)) (heq:eq = lsAv Q.c q) (r:Fr) (hr:r = tipF a q):AE.ACallG GG Tryz.prog 37 [] [.a a.c,.l 3 eq] [] (.t [.a r.c,.v (.int .i64 0)]):=by
 have hn:=(armC_zero h0).2.2.1
 obtain ⟨er,her⟩:∃ e,e = lsAv Fr.c ((List.range a.links.length).map (frmN a q) ++ [tipF a q]):=⟨_,rfl⟩
 have k1:=foreFrames_ok a ha h0 q hl hq hb1 hb2 hk hS eq er heq her
 have hlen:er.length = a.links.length + 1:=by rw [her,lsAv_len]; simp
 have hget:er[a.links.length]? = some r.c:=by
  rw [her,hr]
  refine lsAv_get ?_
  rw [List.getElem?_append_right (by simp)]
  simp
 obtain ⟨n,hnn⟩:∃ n,n = a.links.length:=⟨_,rfl⟩
 rw [← hnn] at hn hlen hget
 clear her hr hb1 hb2 hk hS h0 ha hq hl
 obtain ⟨nm,base,ls⟩:=a
 obtain ⟨el,hel⟩:∃ es,es = lsAv Lk.c ls:=⟨_,rfl⟩
 simp only [Ar.c,← hel] at k1 ⊢
 obtain ⟨⟨rx,ry⟩,rh,rt⟩:=r
 refine AE.ACallG.of_walk (fn:=Tryz.f37) (c:=bodyOf Tryz.f37) GG_stays tabOK Tryz.func37 rfl rfl mixed fun A hA X=>?_
 have c0:A.cmp .neq 0 0 = false:=by rw [AE.c_neq hA]; rfl
 have hz:A.bin .sub .i64 (A.llen er) 1 = (n:Int):=by
  have h1:A.llen er = ((n + 1:Nat):Int):=by rw [llen hA,hlen]
  rw [subIz hA h1 (by omega)]; omega
 (repeat' (first|(refine X.g ?_; cbv)|refine X.splitT ?_|refine X.splitF ?_|refine X.sp (fun hc=>?_) (fun hc=>?_)|refine X.needT ?_|refine X.callsGA [] k1 ?_|refine X.idx _ _ _ _ _ _ _ _ hget hz ?_|fail))
 all_goals (refine X.ret _ (X.done rfl ?_); cbv <;> (and_intros <;> first|rfl|trivial))
end Go.Proofs.YthadehkggddgoaaGreatDoor
end
section
set_option maxRecDepth 100000
set_option maxHeartbeats 0
set_option linter.unusedVariables false
set_option linter.unusedSimpArgs false
namespace Go.Proofs.YthadehkggddgoaaGreatDoor
open Go Go.Num
theorem one_get {α : Type} {x y:α} {i:Nat} (h:[x][i]? = some y):i = 0 ∧ y = x:=by
 match i,h with
 | 0,h=>exact ⟨rfl,(Option.some.inj h).symm⟩
 | i + 1,h=>simp at h
theorem mayT_ok (a : Ar) (k : Lk) (hk : a.links = [k]) (zk : k.low.sz ≤ 2 ^ 28 ∧ k.high.sz ≤ 2 ^ 28 ∧ k.speed.sz ≤ 2 ^ 28) (q u : Q) (zq : q.sz ≤ 2 ^ 28) (zu : u.sz ≤ 2 ^ 28) (hg : u.Good) (h1 : absR u.v ≤ k.speed.v) (h2 : k.low.v ≤ q.v + u.v) (h3 : q.v + u.v ≤ k.high.v) (eq eu : List (List AE.AV)) (heq : eq = lsAv Q.c [q]) (heu : eu = lsAv Q.c [u]) : AE.ACallG GG Tryz.prog 164 [] [.a a.c, .l 3 eq, .l 3 eu] [] (.b true) := by
  obtain ⟨nm, bs, ls⟩ := a
  simp only at hk
  subst hk
  obtain ⟨el, hel⟩ : ∃ es, es = lsAv Lk.c [k] := ⟨_, rfl⟩
  simp only [Ar.c, ← hel]
  refine AE.ACallG.of_walk (fn := Tryz.f164) (c := bodyOf Tryz.f164) GG_stays tabOK Tryz.func164 rfl rfl mixed fun A hA X => ?_
  have l1 : A.llen el = 1 := by rw [llen hA, hel, lsAv_len]; rfl
  have l2 : A.llen eu = 1 := by rw [llen hA, heu, lsAv_len]; rfl
  have c1 : A.cmp .neq (A.llen eu) (A.llen el) = false := by rw [AE.c_neq hA, l1, l2]; rfl
  have n1 : A.bnot true = false := by rw [AE.c_not hA]; rfl
  obtain ⟨to, hto⟩ : ∃ x, x = Q.of (q.v + u.v) := ⟨_, rfl⟩
  obtain ⟨ab, hab⟩ : ∃ x, x = Q.of (absR u.v) := ⟨_, rfl⟩
  have b1 := rs_add q.v u.v
  have b2 := q.rs
  have b3 := u.rs
  have sto : to.sz ≤ 2 ^ 30 := by rw [hto, sz_of]; omega
  have sab : ab.sz ≤ 2 ^ 30 := by rw [hab, sz_of, rs_abs]; omega
  obtain ⟨d1, hd1⟩ : ∃ c, c = cmpR ab.v k.speed.v := ⟨_, rfl⟩
  obtain ⟨d2, hd2⟩ : ∃ c, c = cmpR to.v k.low.v := ⟨_, rfl⟩
  obtain ⟨d3, hd3⟩ : ∃ c, c = cmpR to.v k.high.v := ⟨_, rfl⟩
  have k1 := ratAdd_ok q u (by omega) (by omega) to hto
  have k2 := good_ok u (by omega) true (by simp [hg])
  have k3 := ratAbs_ok u (by omega) ab hab
  have k4 := ratCmp_ok ab k.speed (by omega) (by omega) d1 hd1
  have k5 := ratCmp_ok to k.low (by omega) (by omega) d2 hd2
  have k6 := ratCmp_ok to k.high (by omega) (by omega) d3 hd3
  have e1 : A.cmp .gtr d1 0 = false := by rw [AE.c_gtr hA]; exact decide_eq_false (by have : d1 ≤ 0 := by rw [hd1, hab, Q.v_of]; exact cmpR_le.2 h1
                                                                                      omega)
  have e2 : A.cmp .lss d2 0 = false := by rw [AE.c_lss hA]; exact decide_eq_false (by have : 0 ≤ d2 := by rw [hd2, hto, Q.v_of]; exact cmpR_ge.2 h2
                                                                                      omega)
  have e3 : A.cmp .gtr d3 0 = false := by rw [AE.c_gtr hA]; exact decide_eq_false (by have : d3 ≤ 0 := by rw [hd3, hto, Q.v_of]; exact cmpR_le.2 h3
                                                                                      omega)
  clear hto hab hd1 hd2 hd3
  (repeat' (first | (refine X.g ?_; cbv) | refine X.splitT ?_ | refine X.splitF ?_ | refine X.sp (fun hc => ?_) (fun hc => ?_) | refine X.needT ?_ | fail))
  refine X.loopG _ _ _ (X.frzB 0 _ _ (Nat.zero_le _) ?_)
  (refine X.g ?_; cbv)
  refine rangeL0 X hA hel (by simp) (fun _ => True) (fun z _ => [(19, .v (.int .i64 z))]) trivial ?_ (fun i z y hz hy hye c9 hI B hB => ?_) (fun z c9 hI B => ?_)
  · (cbv <;> (and_intros <;> first | rfl | trivial))
  · obtain ⟨rfl, rfl⟩ := one_get hy
    have g1 : eq[0]? = some q.c := by rw [heq]; exact lsAv_get (i := 0) (l := [q]) rfl
    have g2 : eu[0]? = some u.c := by rw [heu]; exact lsAv_get (i := 0) (l := [u]) rfl
    (repeat' (first | (refine X.g ?_; cbv) | refine X.splitT ?_ | refine X.splitF ?_ | refine X.sp (fun hc => ?_) (fun hc => ?_) | refine X.needT ?_ | refine X.idx _ _ _ _ _ _ _ _ hye hz ?_ | fail))
    apply shareG X
    · intro hs
      refine X.drawX _ _ _ (by kernel_rfl) ?_
      (repeat' (first | (refine X.g ?_; cbv) | refine X.splitT ?_ | refine X.splitF ?_ | refine X.sp (fun hc => ?_) (fun hc => ?_) | refine X.needT ?_ | refine X.fork _ _ ?_ ?_ | refine X.idx _ _ _ _ _ _ _ _ g1 hz ?_ | refine X.idx _ _ _ _ _ _ _ _ g2 hz ?_ | refine X.callsGA [] k1 ?_ | fail))
      all_goals exact hs
    refine X.drawX _ _ _ (by kernel_rfl) (X.frzB 1 _ _ (Nat.zero_le _) (X.frzB 2 _ _ (Nat.zero_le _) ?_))
    (repeat' (first | (refine X.g ?_; cbv) | refine X.splitT ?_ | refine X.splitF ?_ | refine X.sp (fun hc => ?_) (fun hc => ?_) | refine X.needT ?_ | refine X.fork _ _ ?_ ?_ | refine X.idx _ _ _ _ _ _ _ _ g2 hz ?_ | refine X.callsGA [] k2 ?_ | refine X.callsGA [] k3 ?_ | refine X.callsGA [] k4 ?_ | refine X.callsGA [] k5 ?_ | refine X.callsGA [] k6 ?_ | fail))
    all_goals (refine hB trivial _ ?_; clear hB; (cbv <;> (and_intros <;> first | rfl | trivial)))
  · (repeat' (first | (refine X.g ?_; cbv) | refine X.splitT ?_ | refine X.splitF ?_ | refine X.sp (fun hc => ?_) (fun hc => ?_) | refine X.needT ?_ | fail))
    all_goals (refine X.ret _ (X.done rfl ?_); cbv <;> (and_intros <;> first | rfl | trivial))
theorem oneT_ok (a:Ar) (k:Lk) (hk:a.links = [k]) (zk:k.low.sz ≤ 2 ^ 28 ∧ k.high.sz ≤ 2 ^ 28 ∧ k.speed.sz ≤ 2 ^ 28) (q v u:Q) (zq:q.sz ≤ 2 ^ 28) (zu:u.sz ≤ 2 ^ 28) (hg:u.Good) (h1:absR u.v ≤ k.speed.v) (h2:k.low.v ≤ q.v + u.v) (h3:q.v + u.v ≤ k.high.v) (eq ev eu es:List (List AE.AV)) (heq:eq = lsAv Q.c [q]) (heu:eu = lsAv Q.c [u]) (hes:es = lsAv Q.c [Q.of (q.v + u.v)]) (pw:Bool) (hl:Int):AE.ACallG GG Tryz.prog 93 [] [.a a.c,.a [.l 3 eq,.l 3 ev,.b pw,.v (.int .i64 hl)],.l 3 eu,.b true] [] (.t [.a [.l 3 es,.l 3 eu,.b true,.v (.int .i64 hl)],.v (.int .i64 0)]):=by
 have k1:=mayT_ok a k hk zk q u zq zu hg h1 h2 h3 eq eu heq heu
 have k2:=cloneRat_ok eu (by rw [heu,lsAv_len]; simp)
 obtain ⟨to,hto⟩:∃ x,x = Q.of (q.v + u.v):=⟨_,rfl⟩
 rw [← hto] at hes
 have k3:=ratAdd_ok q u (by omega) (by omega) to hto
 clear h1 h2 h3 hg zk hk
 obtain ⟨nm,bs,ls⟩:=a
 obtain ⟨el,hel⟩:∃ e,e = lsAv Lk.c ls:=⟨_,rfl⟩
 simp only [Ar.c,← hel] at k1 ⊢
 refine AE.ACallG.of_walk (fn:=Tryz.f93) (c:=bodyOf Tryz.f93) GG_stays tabOK Tryz.func93 rfl rfl mixed fun A hA X=>?_
 have n1:A.bnot true = false:=by rw [AE.c_not hA]; rfl
 obtain ⟨gQ,hgQ⟩:∃ g:Nat → List (List AE.AV),∀ i,g i = lsAv Q.c ([to].take i):=⟨_,fun _=>rfl⟩
 have r1:gQ 1 = es:=by rw [hgQ,hes]; rfl
 have e0:A.lapp (gQ 0) [to.c] = gQ 1:=lapp_take hA (l:=[to]) (i:=0) rfl (hgQ 0) (hgQ 1)
 have hgrow:∀ c,AE.GrowR (A.llen (gQ 0)) (A.llen [c]) 40:=fun c=>grow1 hA (n:=8) (by rw [hgQ,lsAv_len]; simp) (by decide) (by decide)
 (refine X.g ?_; cbv)
 apply shareG X
 ·intro hs
  (repeat' (first|(refine X.g ?_; cbv)|refine X.splitT ?_|refine X.splitF ?_|refine X.sp (fun hc=>?_) (fun hc=>?_)|refine X.needT ?_|refine X.callsGA [] k1 ?_|refine X.drawX _ _ _ (by kernel_rfl) ?_|refine X.fork _ _ ?_ ?_|refine X.callsA [] k2 ?_|fail))
  all_goals exact hs
 have g2:eu[0]? = some u.c:=by rw [heu]; exact lsAv_get (i:=0) (l:=[u]) rfl
 refine X.loopG _ _ _ (X.frzB 0 _ _ (Nat.zero_le _) (X.frzB 1 _ _ (Nat.zero_le _) (X.nilB 3 0 29 3 _ _ ?_)))
 (refine X.g ?_; cbv)
 refine rangeLS X hA heq (by simp) (fun _=>True) (fun z _=>[(45,.v (.int .i64 z))]) (fun i o=>o.set 4 (.row 29 3 (gQ i))) trivial ?_ (fun i z y hz hy hye c9 hI B hB=>?_) (fun z c9 hI B=>?_)
 ·have h0:[] = gQ 0:=by rw [hgQ]; exact (lsAv_nil _).symm
  (cbv <;> (and_intros <;> first|exact h0|rfl|trivial))
 ·obtain ⟨rfl,rfl⟩:=one_get hy
  clear k1 k2
  (repeat' (first|(refine X.g ?_; cbv)|refine X.splitT ?_|refine X.splitF ?_|refine X.sp (fun hc=>?_) (fun hc=>?_)|refine X.needT ?_|refine X.idx _ _ _ _ _ _ _ _ hye hz ?_|fail))
  apply shareG X
  ·intro hs
   refine X.drawX _ _ _ (by kernel_rfl) (X.frzB 5 _ _ (Nat.zero_le _) ?_)
   (repeat' (first|(refine X.g ?_; cbv)|refine X.splitT ?_|refine X.splitF ?_|refine X.sp (fun hc=>?_) (fun hc=>?_)|refine X.needT ?_|refine X.fork _ _ ?_ ?_|refine X.idx _ _ _ _ _ _ _ _ g2 hz ?_|refine X.callsGA [] k3 ?_|refine X.need _ _ _ (hgrow _) ?_|fail))
   all_goals exact hs
  all_goals (refine hB trivial _ ?_; clear hB; (cbv <;> (and_intros <;> first|exact e0|rfl|trivial)))
 ·clear k1 k2 k3
  have r2:gQ [q].length = es:=r1
  rw [r2]
  (repeat' (first|(refine X.g ?_; cbv)|refine X.splitT ?_|refine X.splitF ?_|refine X.sp (fun hc=>?_) (fun hc=>?_)|refine X.needT ?_|fail))
  all_goals (refine X.ret _ (X.frz 4 _ _ (X.done rfl ?_)); cbv <;> (and_intros <;> first|rfl|trivial))
theorem stepT_ok (w:Wk) (hw:w.Le) (a:Ar) (k:Lk) (ha:w.arms = [a]) (hk:a.links = [k]) (zk:k.low.sz ≤ 2 ^ 28 ∧ k.high.sz ≤ 2 ^ 28 ∧ k.speed.sz ≤ 2 ^ 28) (s:Ss) (hs:s.Le) (hf:s.Few) (h0:stateC w s = 0) (x:As) (hx:s.arms = [x]) (q u:Q) (hq:x.q = [q]) (hh:x.holds = -1) (hp:s.parts = []) (hv:s.people = []) (ht:s.tick ≠ 2000) (zq:q.sz ≤ 2 ^ 28) (zu:u.sz ≤ 2 ^ 28) (hg:u.Good) (h1:absR u.v ≤ k.speed.v) (h2:k.low.v ≤ q.v + u.v) (h3:q.v + u.v ≤ k.high.v) (eu es ex2:List (List AE.AV)) (heu:eu = lsAv Q.c [u]) (hes:es = lsAv Q.c [Q.of (q.v + u.v)]) (hex2:ex2 = lsAv As.c [⟨[Q.of (q.v + u.v)],[u],true,-1⟩]) (tk:Int) (htk:tk = AE.std.bin .add .i64 s.tick 1):AE.ACallG GG Tryz.prog 30 [] [.a w.c,.a s.c,.l 1 [[.l 3 eu]],.l 1 [[.v (.bool true)]],.l 6 []] [] (.t [.a [.v (.int .i64 tk),.l 4 ex2,.l 10 [],.l 6 [],.l 1 (lsAv boolC s.opens)],.v (.int .i64 0)]):=by
 have kC:=worldCheck_ok w hw s hs 0 h0.symm
 obtain ⟨tick,xs,fs,ps,os⟩:=s
 simp only at hx hp hv ht htk
 subst hx hp hv
 obtain ⟨xq,xv,xp,xh⟩:=x
 simp only at hq hh
 subst hq hh
 obtain ⟨eq,heq⟩:∃ e,e = lsAv Q.c [q]:=⟨_,rfl⟩
 obtain ⟨ev,hev⟩:∃ e,e = lsAv Q.c xv:=⟨_,rfl⟩
 obtain ⟨ex,hex⟩:∃ e,e = lsAv As.c [(⟨[q],xv,xp,-1⟩:As)]:=⟨_,rfl⟩
 obtain ⟨eo,heo⟩:∃ e,e = lsAv boolC os:=⟨_,rfl⟩
 have kY:=worldCopyO_ok ⟨tick,[⟨[q],xv,xp,-1⟩],[],[],os⟩ hf ex [] [] eo hex (lsAv_nil _).symm (lsAv_nil _).symm heo
 have kO:=oneT_ok a k hk zk q q u zq zu hg h1 h2 h3 eq ev eu es heq heu hes xp (-1)
 obtain ⟨arms,walls,parts,slots,gates,walk⟩:=w
 simp only at ha
 subst ha
 obtain ⟨ea,hea⟩:∃ es,es = lsAv Ar.c [a]:=⟨_,rfl⟩
 obtain ⟨ew,hew⟩:∃ es,es = lsAv wallC walls:=⟨_,rfl⟩
 obtain ⟨ep,hep⟩:∃ es,es = lsAv Pt.c parts:=⟨_,rfl⟩
 obtain ⟨es', hes'⟩:∃ es,es = lsAv Sl.c slots:=⟨_,rfl⟩
 obtain ⟨eg,heg⟩:∃ es,es = lsAv Gt.c gates:=⟨_,rfl⟩
 have hex0:ex[0]? = some [.l 3 eq,.l 3 ev,.b xp,.v (.int .i64 (-1))]:=by
  rw [hex,heq,hev]; exact lsAv_get (i:=0) (l:=[(⟨[q],xv,xp,-1⟩:As)]) rfl
 have hex2' : ex.set 0 [.l 3 es,.l 3 eu,.b true,.v (.int .i64 (-1))] = ex2:=by
  rw [hex,hex2,hes,heu]
  exact (lsAv_set As.c [(⟨[q],xv,xp,-1⟩:As)] 0 ⟨[Q.of (q.v + u.v)],[u],true,-1⟩)
 have lex:ex.length = 1:=by rw [hex,lsAv_len]; rfl
 simp only [Wk.c,Ss.c,lsAv_nil,← hea,← hew,← hep,← hes', ← heg,← hex,← heo] at kC kY ⊢
 clear hw hs hf h0 h1 h2 h3 zq zu hg zk hk hew hep hes' heg hex hex2
 refine AE.ACallG.of_walk (fn:=Tryz.f30) (c:=bodyOf Tryz.f30) GG_stays tabOK Tryz.func30 rfl rfl mixed fun A hA X=>?_
 have htk:A.bin .add .i64 tick 1 = tk:=by rw [htk,hA]
 have la:A.llen ea = 1:=by rw [llen hA,hea,lsAv_len]; rfl
 have l1:A.llen [[AE.AV.l 3 eu]] = 1:=by rw [llen hA]; rfl
 have l2:A.llen [[AE.AV.v (.bool true)]] = 1:=by rw [llen hA]; rfl
 have c0:A.cmp .neq 0 0 = false:=by rw [AE.c_neq hA]; rfl
 have c1:A.cmp .neq (A.llen [[AE.AV.l 3 eu]]) (A.llen ea) = false:=by rw [AE.c_neq hA,l1,la]; rfl
 have c2:A.cmp .neq (A.llen [[AE.AV.v (.bool true)]]) (A.llen ea) = false:=by rw [AE.c_neq hA,l2,la]; rfl
 have c3:A.cmp .neq (A.llen []) (A.llen []) = false:=by rw [AE.c_neq hA]; simp
 have c4:A.cmp .eql tick 2000 = false:=by rw [AE.c_eql hA]; exact decide_eq_false ht
 have c5:A.cmp .geq (-1) 0 = false:=by rw [AE.c_geq hA]; rfl
 have ati:AE.AtR 0 ex:=⟨by omega⟩
 have hset:A.lset ex 0 [.l 3 es,.l 3 eu,.b true,.v (.int .i64 (-1))] = ex2:=by rw [lset_std hA]; exact hex2'
 clear l1 l2 la
 (repeat' (first|(refine X.g ?_; cbv)|refine X.splitT ?_|refine X.splitF ?_|refine X.sp (fun hc=>?_) (fun hc=>?_)|refine X.needT ?_|refine X.callsGA [] kC ?_|fail))
 refine X.loopG _ _ _ (X.frzB 0 _ _ (Nat.zero_le _) (X.frzB 1 _ _ (Nat.zero_le _) ?_))
 (refine X.g ?_; cbv)
 refine rangeL0 X hA (f:=V2.c) (l:=[]) (lsAv_nil _).symm (by simp) (fun _=>True) (fun z _=>[(54,.v (.int .i64 z))]) trivial ?_ (fun i z y hz hy hye c9 hI B hB=>?_) (fun z c9 hI B=>?_)
 ·(cbv <;> (and_intros <;> first|rfl|trivial))
 ·simp at hy
 (repeat' (first|(refine X.g ?_; cbv)|refine X.splitT ?_|refine X.splitF ?_|refine X.sp (fun hc=>?_) (fun hc=>?_)|refine X.needT ?_|refine X.callsA [] kY ?_|fail))
 obtain ⟨gX,hgX⟩:∃ g:Nat → List (List AE.AV),∀ i,g i = if i = 0 then ex else ex2:=⟨_,fun _=>rfl⟩
 have g0:ex = gX 0:=by rw [hgX]; rfl
 have g1:ex2 = gX 1:=by rw [hgX]; rfl
 have hw0:[[AE.AV.l 3 eu]][0]? = some [.l 3 eu]:=rfl
 have hp0:[[AE.AV.v (.bool true)]][0]? = some [.v (.bool true)]:=rfl
 refine rangeLS X hA hea (by simp) (fun _=>True) (fun z _=>[(101,.v (.int .i64 z))]) (fun i o=>o.set 9 (.row 76 4 (gX i))) trivial ?_ (fun i z y hz hy hye c10 hI B hB=>?_) (fun z c10 hI B=>?_)
 ·clear kC kO kY
  (cbv <;> (and_intros <;> first|exact g0|rfl|trivial))
 ·obtain ⟨rfl,rfl⟩:=one_get hy
  rw [← g0]
  have hset1:=hset.trans g1
  have hset2:=hset1
  cbv at hset2
  clear kC kY
  (repeat' (first|(refine X.g ?_; cbv)|refine X.splitT ?_|refine X.splitF ?_|refine X.sp (fun hc=>?_) (fun hc=>?_)|refine X.needT ?_|refine X.idx _ _ _ _ _ _ _ _ hye hz ?_|fail))
  apply shareG X
  ·intro hs
   refine X.drawX _ _ _ (by kernel_rfl) (X.frzB 11 _ _ (Nat.zero_le _) ?_)
   (repeat' (first|(refine X.g ?_; cbv)|refine X.splitT ?_|refine X.splitF ?_|refine X.sp (fun hc=>?_) (fun hc=>?_)|refine X.needT ?_|refine X.fork _ _ ?_ ?_|refine X.idx _ _ _ _ _ _ _ _ hex0 hz ?_|refine X.idx _ _ _ _ _ _ _ _ hw0 hz ?_|refine X.idx _ _ _ _ _ _ _ _ hp0 hz ?_|refine X.callsGA [] kO ?_|fail))
   all_goals exact hs
  (repeat' (first|(refine X.g ?_; cbv)|refine X.splitT ?_|refine X.splitF ?_|refine X.sp (fun hc=>?_) (fun hc=>?_)|refine X.needT ?_|refine X.idxA 0 ati hz ?_|refine X.need _ _ _ ati ?_|fail))
  all_goals (refine hB trivial _ ?_; clear hB; (cbv <;> (and_intros <;> first|exact hset1|exact hset2|rfl|trivial)))
 ·have r1:gX [a].length = ex2:=g1.symm
  rw [r1]
  clear kC kO kY
  (repeat' (first|(refine X.g ?_; cbv)|refine X.splitT ?_|refine X.splitF ?_|refine X.sp (fun hc=>?_) (fun hc=>?_)|refine X.needT ?_|fail))
  refine rangeL0 X hA (f:=V2.c) (l:=[]) (lsAv_nil _).symm (by simp) (fun _=>True) (fun z _=>[(155,.v (.int .i64 z))]) trivial ?_ (fun i z y hz hy hye c11 hI B hB=>?_) (fun z c11 hI B=>?_)
  ·(cbv <;> (and_intros <;> first|rfl|trivial))
  ·simp at hy
  (repeat' (first|(refine X.g ?_; cbv)|refine X.splitT ?_|refine X.splitF ?_|refine X.sp (fun hc=>?_) (fun hc=>?_)|refine X.needT ?_|fail))
  all_goals (refine X.ret _ ?_; refine X.frz 5 _ _ ?_; refine X.frz 6 _ _ ?_; refine X.frz 7 _ _ ?_; refine X.frz 9 _ _ ?_; refine X.done rfl ?_; cbv <;> (and_intros <;> first|exact htk|exact heo|rfl|trivial))
end Go.Proofs.YthadehkggddgoaaGreatDoor
end
