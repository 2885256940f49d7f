/- Contracts: move.ready, move.Put; gantref2.moves, copied. -/
import Derived.Test.YthadehkggddgoaaGreatDoorZLawMG
import Derived.Test.YthadehkggddgoaaGreatDoorZFitT
set_option maxRecDepth 100000
set_option maxHeartbeats 0
set_option linter.unusedVariables false
set_option linter.unusedSimpArgs false
namespace Go.Proofs.YthadehkggddgoaaGreatDoor
open Go Go.Num
def asAt (s:Ss) (n:Int):As:=s.arms.getD n.toNat ⟨[],[],false,-1⟩
def readyI (st n na:Int) (mv:Bool):Int:=if st ≠ 0 then st else if n < 0 ∨ na ≤ n then 1 else if mv then 7 else 0
def readyC (w:Wk) (s:Ss) (n:Int):Int:=readyI (stateC w s) n w.arms.length (movB (asAt s n))
theorem moveReady_ok (w:Wk) (hw:w.Le) (s:Ss) (hs:s.Le) (n:Int) (e:Int) (he:e = readyC w s n):AE.ACallG GG Tryz.prog 112 [] [.a w.c,.a s.c,.v (.int .i64 n)] [] (.v (.int .i64 e)):=by
 obtain ⟨st,hst⟩:∃ e,e = stateC w s:=⟨_,rfl⟩
 have k1:=worldCheck_ok w hw s hs st hst
 rw [readyC,← hst] at he
 have hal:st = 0 → s.arms.length = w.arms.length:=fun h=>(stateC_opens (h ▸ hst).symm).2.2.1
 have hsa:=hs.arms
 obtain ⟨na,hna⟩:∃ k:Int,k = (w.arms.length:Int):=⟨_,rfl⟩
 rw [← hna] at he
 have hal2:st = 0 → ∀ i:Nat,n = i → n < na → s.arms[i]? = some (asAt s n):=fun h i hi hlt=>by
  have hx:=hal h
  rw [asAt,hi,Int.toNat_natCast]
  exact getD_some (by rw [hi,hna] at hlt; omega) _
 have hmv:∀ b,b = movB (asAt s n) → st = 0 → ∀ i:Nat,n = i → n < na → AE.ACallG GG Tryz.prog 28 [] [.a (asAt s n).c] [] (.b b):=fun b hb h i hi hlt=>by
  obtain ⟨_,x2,_,x4⟩:=hsa _ (List.mem_of_getElem? (hal2 h i hi hlt))
  exact worldMoving_ok _ ⟨fun q hq=>by have:=x2 q hq; omega,x4⟩ b hb
 obtain ⟨x,hx⟩:∃ x,x = asAt s n:=⟨_,rfl⟩
 rw [← hx] at he hal2 hmv
 clear hx hw hs hst hal hsa
 obtain ⟨arms,walls,parts,slots,gates,walk⟩:=w
 obtain ⟨tick,xs,fs,ps,os⟩:=s
 simp only at hna hal2
 obtain ⟨ea,hea⟩:∃ es,es = lsAv Ar.c arms:=⟨_,rfl⟩
 obtain ⟨ew,hew⟩:∃ es,es = lsAv wallC walls:=⟨_,rfl⟩
 obtain ⟨ep,hep⟩:∃ es,es = lsAv Pt.c parts:=⟨_,rfl⟩
 obtain ⟨es,hes⟩:∃ es,es = lsAv Sl.c slots:=⟨_,rfl⟩
 obtain ⟨eg,heg⟩:∃ es,es = lsAv Gt.c gates:=⟨_,rfl⟩
 obtain ⟨ex,hex⟩:∃ es,es = lsAv As.c xs:=⟨_,rfl⟩
 obtain ⟨ef,hef⟩:∃ es,es = lsAv Fr.c fs:=⟨_,rfl⟩
 obtain ⟨ev,hev⟩:∃ es,es = lsAv V2.c ps:=⟨_,rfl⟩
 obtain ⟨eo,heo⟩:∃ es,es = lsAv boolC os:=⟨_,rfl⟩
 have hx0:st = 0 → ∀ i:Nat,n = i → n < na → ex[i]? = some x.c:=fun h i hi hlt=>by rw [hex]; exact lsAv_get (hal2 h i hi hlt)
 clear hal2
 simp only [Wk.c,Ss.c,← hea,← hew,← hep,← hes,← heg,← hex,← hef,← hev,← heo] at k1 ⊢
 clear hew hep hes heg hex hef hev heo
 refine AE.ACallG.of_walk (fn:=Tryz.f112) (c:=bodyOf Tryz.f112) GG_stays tabOK Tryz.func112 rfl rfl mixed fun A hA X=>?_
 have la:A.llen ea = na:=by rw [hna,llen hA,hea,lsAv_len]
 clear hea hna
 by_cases h0:st = 0
 rotate_left
 ·have c0:A.cmp .neq st 0 = true:=by rw [AE.c_neq hA]; simpa using h0
  have e1:e = st:=by rw [he,readyI,if_pos h0]
  (repeat' (first|(refine X.g ?_; cbv)|refine X.splitT ?_|refine X.splitF ?_|refine X.sp (fun hc=>?_) (fun hc=>?_)|refine X.needT ?_|refine X.callsGA [] k1 ?_|fail))
  all_goals (refine X.ret _ (X.done rfl ?_); cbv <;> (and_intros <;> first|exact e1.symm|rfl|trivial))
 have c0:A.cmp .neq st 0 = false:=by rw [AE.c_neq hA,h0]; rfl
 by_cases h1:n < 0
 ·have c1:A.cmp .lss n 0 = true:=by rw [AE.c_lss hA]; exact decide_eq_true h1
  have e1:e = 1:=by rw [he,readyI,if_neg (fun h=>h h0),if_pos (Or.inl h1)]
  (repeat' (first|(refine X.g ?_; cbv)|refine X.splitT ?_|refine X.splitF ?_|refine X.sp (fun hc=>?_) (fun hc=>?_)|refine X.needT ?_|refine X.callsGA [] k1 ?_|fail))
  all_goals (refine X.ret _ (X.done rfl ?_); cbv <;> (and_intros <;> first|exact e1.symm|rfl|trivial))
 have c1:A.cmp .lss n 0 = false:=by rw [AE.c_lss hA]; exact decide_eq_false h1
 by_cases h2:na ≤ n
 ·have c2:A.cmp .geq n (A.llen ea) = true:=by rw [AE.c_geq hA,la]; exact decide_eq_true h2
  have e1:e = 1:=by rw [he,readyI,if_neg (fun h=>h h0),if_pos (Or.inr h2)]
  (repeat' (first|(refine X.g ?_; cbv)|refine X.splitT ?_|refine X.splitF ?_|refine X.sp (fun hc=>?_) (fun hc=>?_)|refine X.needT ?_|refine X.callsGA [] k1 ?_|fail))
  all_goals (refine X.ret _ (X.done rfl ?_); cbv <;> (and_intros <;> first|exact e1.symm|rfl|trivial))
 have c2:A.cmp .geq n (A.llen ea) = false:=by rw [AE.c_geq hA,la]; exact decide_eq_false h2
 obtain ⟨i,hi⟩:∃ i:Nat,n = i:=⟨n.toNat,by omega⟩
 have hxi:=hx0 h0 i hi (by omega)
 obtain ⟨b,hb⟩:∃ b,b = movB x:=⟨_,rfl⟩
 have k2:=hmv b hb h0 i hi (by omega)
 rw [readyI,if_neg (fun h=>h h0),if_neg (by omega),← hb] at he
 clear hmv hx0 hb
 obtain ⟨xq,xv,xp,xh⟩:=x
 cases b
 ·have e1:e = 0:=he
  (repeat' (first|(refine X.g ?_; cbv)|refine X.splitT ?_|refine X.splitF ?_|refine X.sp (fun hc=>?_) (fun hc=>?_)|refine X.needT ?_|refine X.callsGA [] k1 ?_|refine X.idx _ _ _ _ _ _ _ _ hxi hi ?_|refine X.callsGA [] k2 ?_|fail))
  all_goals (refine X.ret _ (X.done rfl ?_); cbv <;> (and_intros <;> first|exact e1.symm|rfl|trivial))
 ·have e1:e = 7:=he
  (repeat' (first|(refine X.g ?_; cbv)|refine X.splitT ?_|refine X.splitF ?_|refine X.sp (fun hc=>?_) (fun hc=>?_)|refine X.needT ?_|refine X.callsGA [] k1 ?_|refine X.idx _ _ _ _ _ _ _ _ hxi hi ?_|refine X.callsGA [] k2 ?_|fail))
  all_goals (refine X.ret _ (X.done rfl ?_); cbv <;> (and_intros <;> first|exact e1.symm|rfl|trivial))
theorem refMoves_ok (x:As) (hx:(∀ q ∈ x.v,q.sz ≤ 2 ^ 34) ∧ x.v.length < 2 ^ 40) (r:Bool) (hr:r = movB x):AE.ACallG GG Tryz.prog 134 [] [.a x.c] [] (.b r):=by
 obtain ⟨xq,v,xp,xh⟩:=x
 simp only at hx
 have hr:r = v.any fun q=>decide (sgnR q.v ≠ 0):=hr
 obtain ⟨eq,heq⟩:∃ es,es = lsAv Q.c xq:=⟨_,rfl⟩
 obtain ⟨ev,hev⟩:∃ es,es = lsAv Q.c v:=⟨_,rfl⟩
 simp only [As.c,← heq,← hev]
 refine AE.ACallG.of_walk (fn:=Tryz.f134) (c:=bodyOf Tryz.f134) GG_stays tabOK Tryz.func134 rfl rfl mixed fun A hA X=>?_
 (repeat' (first|(refine X.g ?_; cbv)|refine X.splitT ?_|refine X.splitF ?_|refine X.sp (fun hc=>?_) (fun hc=>?_)|refine X.needT ?_|fail))
 refine rangeL0 X hA hev (by omega) (fun i=>∀ q ∈ v.take i,sgnR q.v = 0) (fun z _=>[(8,.v (.int .i64 z))]) (fun x h=>by simp at h) ?_ (fun i z y hz hy hye c3 hI B hB=>?_) (fun z c3 hI B=>?_)
 ·(cbv <;> (and_intros <;> first|rfl|trivial))
 ·obtain ⟨c,hc⟩:∃ c,c = sgnR y.v:=⟨_,rfl⟩
  have k1:=sign_ok y (hx.1 y (List.mem_of_getElem? hy)) c hc
  by_cases h0:c = 0
  ·have d1:A.cmp .neq c 0 = false:=by rw [AE.c_neq hA,h0]; rfl
   have hI' : ∀ q ∈ v.take (i + 1),sgnR q.v = 0:=by
    rw [take_snoc hy]; intro q hq
    rcases List.mem_append.1 hq with hq|hq
    ·exact hI q hq
    ·rw [List.mem_singleton.1 hq,← hc]; exact h0
   (repeat' (first|(refine X.g ?_; cbv)|refine X.splitT ?_|refine X.splitF ?_|refine X.sp (fun hc=>?_) (fun hc=>?_)|refine X.needT ?_|refine X.idx _ _ _ _ _ _ _ _ hye hz ?_|refine X.callsGA [] k1 ?_|fail))
   all_goals (refine hB hI' _ ?_; clear hB; (cbv <;> (and_intros <;> first|rfl|trivial)))
  ·have d1:A.cmp .neq c 0 = true:=by rw [AE.c_neq hA]; simpa using h0
   have e1:true = r:=by
    rw [hr]; symm; rw [List.any_eq_true]
    exact ⟨y,List.mem_of_getElem? hy,decide_eq_true (by rw [← hc]; exact h0)⟩
   clear hB
   (repeat' (first|(refine X.g ?_; cbv)|refine X.splitT ?_|refine X.splitF ?_|refine X.sp (fun hc=>?_) (fun hc=>?_)|refine X.needT ?_|refine X.idx _ _ _ _ _ _ _ _ hye hz ?_|refine X.callsGA [] k1 ?_|fail))
   all_goals (refine X.ret _ (X.done rfl ?_); cbv <;> (and_intros <;> first|exact e1|rfl|trivial))
 ·have e1:false = r:=by
   rw [List.take_length] at hI
   rw [hr]; symm; rw [List.any_eq_false]
   intro q hq; simp [hI q hq]
  (repeat' (first|(refine X.g ?_; cbv)|refine X.splitT ?_|refine X.splitF ?_|refine X.sp (fun hc=>?_) (fun hc=>?_)|refine X.needT ?_|fail))
  all_goals (refine X.ret _ (X.done rfl ?_); cbv <;> (and_intros <;> first|exact e1|rfl|trivial))
theorem cloneAsO_ok (es:List (List AE.AV)) (hl:es.length ≤ 2 ^ 30):AE.ACall Tryz.prog 66 [] [.l 4 es] [.row 76 4 es] (.r 0):=by
 refine AE.ACall.of_walk (fn:=Tryz.f66) (c:=bodyOf Tryz.f66) tabOK Tryz.func66 rfl rfl mixed fun A hA X=>?_
 have hg:=grow0 hA hl (b:=64) (by decide) (by decide)
 have e1:A.lapp [] es = es:=by subst hA; rfl
 (refine X.g ?_; cbv)
 refine X.coin _ _ _ _ _ (fun b hb=>?_)
 cases b
 ·(repeat' (first|(refine X.g ?_; cbv)|refine X.splitT ?_|refine X.splitF ?_|refine X.sp (fun hc=>?_) (fun hc=>?_)|refine X.needT ?_|refine X.need _ _ _ hg ?_|fail))
  all_goals (refine X.ret _ (X.done rfl ?_); cbv <;> (and_intros <;> first|exact e1|rfl|trivial))
 ·have e2:=hb rfl
  (repeat' (first|(refine X.g ?_; cbv)|refine X.splitT ?_|refine X.splitF ?_|refine X.sp (fun hc=>?_) (fun hc=>?_)|refine X.needT ?_|fail))
  all_goals (refine X.ret _ (X.nilT 2 76 4 _ _ (X.done rfl ?_)); cbv <;> (and_intros <;> first|exact e2.symm|exact e2|rfl|trivial))
theorem refCopied_ok (tick:Int) (ex ef ev eo:List (List AE.AV)) (h1:ex.length ≤ 2 ^ 30) (h2:ef.length ≤ 2 ^ 30) (h3:ev.length ≤ 2 ^ 30) (h4:eo.length ≤ 2 ^ 30):AE.ACall Tryz.prog 129 [] [.a [.v (.int .i64 tick),.l 4 ex,.l 10 ef,.l 6 ev,.l 1 eo]] [.box [.any,.any,.any,.any,.any] 37,.box [.any,.any,.any,.any,.any] 37,.row 76 4 ex,.row 66 10 ef,.row 44 6 ev,.row 4 1 eo] (.a [.v (.int .i64 tick),.r 2,.r 3,.r 4,.r 5]):=by
 have k1:=cloneAsO_ok ex h1
 have k2:=cloneFrameO_ok ef h2
 have k3:=cloneVecO_ok ev h3
 have k4:=cloneBoolO_ok eo h4
 refine AE.ACall.of_walk (fn:=Tryz.f129) (c:=bodyOf Tryz.f129) tabOK Tryz.func129 rfl rfl mixed fun A hA X=>?_
 (repeat' (first|(refine X.g ?_; cbv)|refine X.splitT ?_|refine X.splitF ?_|refine X.sp (fun hc=>?_) (fun hc=>?_)|refine X.needT ?_|refine X.drawX _ _ _ (by kernel_rfl) ?_|refine X.fork _ _ ?_ ?_|refine X.callsA [] k1 ?_|refine X.callsA [] k2 ?_|refine X.callsA [] k3 ?_|refine X.callsA [] k4 ?_|fail))
 all_goals (refine X.ret _ (X.done rfl ?_); cbv <;> (and_intros <;> first|rfl|trivial))
def Ss.holding (s:Ss) (i:Nat) (h:Int):Ss:={ s with arms:=s.arms.set i { s.arms.getD i ⟨[],[],false,-1⟩ with holds:=h } }
def putC (w:Wk) (s:Ss) (n:Int):Int:=if readyC w s n ≠ 0 then readyC w s n else if (asAt s n).holds < 0 then 7 else 0
theorem ready_in {w:Wk} {s:Ss} {n:Int} (h:readyC w s n = 0):stateC w s = 0 ∧ 0 ≤ n ∧ n < w.arms.length ∧ movB (asAt s n) = false:=by
 rw [readyC,readyI] at h
 split at h
 ·omega
 ·split at h
  ·omega
  ·split at h
   ·omega
   ·rename_i h1 h2 h3
    exact ⟨Classical.not_not.1 h1,by omega,by omega,by simpa using h3⟩
theorem Ss.nil_t:Ss.nil.c = [.v (.int .i64 0),.l 4 [],.l 10 [],.l 6 [],.l 1 []]:=by rw [Ss.c,Ss.nil]; simp only [lsAv_nil]
theorem movePut_ok (w:Wk) (hw:w.Le) (s:Ss) (hs:s.Le) (hf:s.Few) (n:Int) (r:Ss) (e:Int) (he:e = putC w s n) (hr:r = if e ≠ 0 then Ss.nil else s.holding n.toNat (-1)):AE.ACallG GG Tryz.prog 43 [] [.a w.c,.a s.c,.v (.int .i64 n)] [] (.t [.a r.c,.v (.int .i64 e)]):=by
 obtain ⟨rd,hrd⟩:∃ e,e = readyC w s n:=⟨_,rfl⟩
 have k1:=moveReady_ok w hw s hs n rd hrd
 rw [putC,← hrd] at he
 have hin:rd = 0 → ∃ i:Nat,n = i ∧ s.arms[i]? = some (asAt s n):=fun h=>by
  obtain ⟨g1,g2,g3,_⟩:=ready_in (hrd.symm.trans h)
  have hx:=(stateC_opens g1).2.2.1
  refine ⟨n.toNat,by omega,?_⟩
  rw [asAt]
  exact getD_some (by omega) _
 clear hrd
 obtain ⟨ex,hex⟩:∃ es,es = lsAv As.c s.arms:=⟨_,rfl⟩
 obtain ⟨ef,hef⟩:∃ es,es = lsAv Fr.c s.parts:=⟨_,rfl⟩
 obtain ⟨ev,hev⟩:∃ es,es = lsAv V2.c s.people:=⟨_,rfl⟩
 obtain ⟨eo,heo⟩:∃ es,es = lsAv boolC s.opens:=⟨_,rfl⟩
 have k2:=worldCopyO_ok s hf ex ef ev eo hex hef hev heo
 by_cases h0:rd = 0
 rotate_left
 ·have e1:e = rd:=by rw [he,if_pos h0]
  have r1:r = Ss.nil:=by rw [hr,if_pos (by rw [e1]; exact h0)]
  subst e1; subst r1
  rw [Ss.nil_t]
  clear hin he hr k2 hw hs hf
  obtain ⟨arms,walls,parts,slots,gates,walk⟩:=w
  obtain ⟨tick,xs,fs,ps,os⟩:=s
  simp only at hex hef hev heo
  simp only [Ss.c,← hex,← hef,← hev,← heo] at k1 ⊢
  obtain ⟨wc,hwc⟩:∃ c,c = (⟨arms,walls,parts,slots,gates,walk⟩:Wk).c:=⟨_,rfl⟩
  simp only [Wk.c] at k1 ⊢
  refine AE.ACallG.of_walk (fn:=Tryz.f43) (c:=bodyOf Tryz.f43) GG_stays tabOK Tryz.func43 rfl rfl mixed fun A hA X=>?_
  have c0:A.cmp .neq e 0 = true:=by rw [AE.c_neq hA]; simpa using h0
  (repeat' (first|(refine X.g ?_; cbv)|refine X.splitT ?_|refine X.splitF ?_|refine X.sp (fun hc=>?_) (fun hc=>?_)|refine X.needT ?_|refine X.callsGA [] k1 ?_|fail))
  all_goals (refine X.ret _ (X.done rfl ?_); cbv <;> (and_intros <;> first|rfl|trivial))
 obtain ⟨i,hi,hxi⟩:=hin h0
 have hit:n.toNat = i:=by rw [hi]; rfl
 obtain ⟨x,hx⟩:∃ x,x = asAt s n:=⟨_,rfl⟩
 rw [← hx] at he hxi
 have hgd:s.arms.getD i ⟨[],[],false,-1⟩ = x:=by rw [List.getD_eq_getElem?_getD,hxi]; rfl
 subst h0
 rw [if_neg (fun h=>h rfl)] at he
 obtain ⟨xq,xv,xp,xh⟩:=x
 simp only at he
 obtain ⟨ex2,hex2⟩:∃ es,es = lsAv As.c (s.arms.set i ⟨xq,xv,xp,-1⟩):=⟨_,rfl⟩
 have hxe:ex[i]? = some (As.c ⟨xq,xv,xp,xh⟩):=by rw [hex]; exact lsAv_get hxi
 have hset:ex.set i (As.c ⟨xq,xv,xp,-1⟩) = ex2:=by rw [hex,hex2,← lsAv_set]
 have hrc:¬ xh < 0 → r.c = [.v (.int .i64 s.tick),.l 4 ex2,.l 10 ef,.l 6 ev,.l 1 eo] ∧ e = 0:=fun h=>by
  have e1:e = 0:=by rw [he,if_neg h]
  refine ⟨?_,e1⟩
  rw [hr,if_neg (by rw [e1]; decide),hit,Ss.holding,hgd,Ss.c,hex2,hef,hev,heo]
 have hrb:xh < 0 → r = Ss.nil ∧ e = 7:=fun h=>by
  have e1:e = 7:=by rw [he,if_pos h]
  exact ⟨by rw [hr,if_pos (by rw [e1]; decide)],e1⟩
 have ati:AE.AtR i ex:=⟨by rw [hex,lsAv_len]; exact (List.getElem?_eq_some_iff.1 hxi).1⟩
 obtain ⟨eq,heq⟩:∃ es,es = lsAv Q.c xq:=⟨_,rfl⟩
 obtain ⟨ew', hew'⟩:∃ es,es = lsAv Q.c xv:=⟨_,rfl⟩
 simp only [As.c,← heq,← hew'] at hxe hset
 clear hr he hin hw hs hf hx hgd hxi heq hew' hex2
 obtain ⟨arms,walls,parts,slots,gates,walk⟩:=w
 obtain ⟨tick,xs,fs,ps,os⟩:=s
 simp only at hex hef hev heo hrc
 simp only [Ss.c,← hex,← hef,← hev,← heo] at k1 k2 ⊢
 simp only [Wk.c] at k1 ⊢
 clear hex hef hev heo
 by_cases h1:xh < 0
 ·obtain ⟨r1,e1⟩:=hrb h1
  subst r1; subst e1
  have hn:=Ss.nil_t
  simp only [Ss.c] at hn
  rw [hn]
  refine AE.ACallG.of_walk (fn:=Tryz.f43) (c:=bodyOf Tryz.f43) GG_stays tabOK Tryz.func43 rfl rfl mixed fun A hA X=>?_
  have c0:A.cmp .neq 0 0 = false:=by rw [AE.c_neq hA]; rfl
  have c1:A.cmp .lss xh 0 = true:=by rw [AE.c_lss hA]; exact decide_eq_true h1
  (repeat' (first|(refine X.g ?_; cbv)|refine X.splitT ?_|refine X.splitF ?_|refine X.sp (fun hc=>?_) (fun hc=>?_)|refine X.needT ?_|refine X.callsGA [] k1 ?_|refine X.idx _ _ _ _ _ _ _ _ hxe hi ?_|fail))
  all_goals (refine X.ret _ (X.done rfl ?_); cbv <;> (and_intros <;> first|rfl|trivial))
 ·obtain ⟨r1,e1⟩:=hrc h1
  simp only [Ss.c] at r1
  rw [r1]
  subst e1
  refine AE.ACallG.of_walk (fn:=Tryz.f43) (c:=bodyOf Tryz.f43) GG_stays tabOK Tryz.func43 rfl rfl mixed fun A hA X=>?_
  have c0:A.cmp .neq 0 0 = false:=by rw [AE.c_neq hA]; rfl
  have c1:A.cmp .lss xh 0 = false:=by rw [AE.c_lss hA]; exact decide_eq_false h1
  have hset2:=hset
  cbv at hset2
  (repeat' (first|(refine X.g ?_; cbv)|refine X.splitT ?_|refine X.splitF ?_|refine X.sp (fun hc=>?_) (fun hc=>?_)|refine X.needT ?_|refine X.callsGA [] k1 ?_|refine X.callsA [] k2 ?_|refine X.idx _ _ _ _ _ _ _ _ hxe hi ?_|refine X.idxA i ati hi ?_|refine X.stq _ _ _ _ _ _ _ _ _ _ hxe ?_|fail))
  all_goals (refine X.ret _ ?_; refine X.frz 5 _ _ ?_; refine X.frz 6 _ _ ?_; refine X.frz 7 _ _ ?_; refine X.frz 9 _ _ ?_; refine X.done rfl ?_; cbv <;> (and_intros <;> first|exact hset|exact hset2|rfl|trivial))
end Go.Proofs.YthadehkggddgoaaGreatDoor
