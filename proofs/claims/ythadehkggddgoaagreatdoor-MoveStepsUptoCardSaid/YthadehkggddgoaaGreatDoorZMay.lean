/- Contracts: braking and wishes: stop.Slower, stop.fits, stop.Brake, gantref2.slower, gantref2.braked, move.may, gantref2.Possible. Contracts: what an arm does in a tick: gantref2.braked, move.may, gantref2.Possible, move.one. -/
import Derived.Test.YthadehkggddgoaaGreatDoorZFitM
import Derived.Test.YthadehkggddgoaaGreatDoorZRState
import Derived.Test.YthadehkggddgoaaGreatDoorZStep
section
set_option maxRecDepth 100000
set_option maxHeartbeats 0
set_option linter.unusedVariables false
set_option linter.unusedSimpArgs false
namespace Go.Proofs.YthadehkggddgoaaGreatDoor
open Go Go.Num
def slowR (b v:Rat):Rat:=if absR v≤b then 0 else if v<0 then v+b else v - b
theorem slow_pos {b v:Rat} (h0:0<b) (h:¬ absR v≤b):0<v↔¬ v<0:=by
 unfold absR at h
 grind
theorem rs_slow (b v:Rat):rs (slowR b v)≤rs v+rs b+1:=by
 rw [slowR]
 split
 ·have h0:rs (0:Rat)≤1:=rs0
  have h1:1≤rs b:=by
   apply Classical.byContradiction; intro h
   have:=(rs_le (r:=b) (k:=0)).1 (by omega)
   have:=b.den_pos
   omega
  omega
 ·split
  ·exact rs_add v b
  ·exact rs_sub v b
theorem stopSlower_ok (b v:Q) (zb:b.sz≤2^28) (zv:v.sz≤2^28) (h0:0<b.v) (r:Q) (hr:r=Q.of (slowR b.v v.v)):AE.ACallG GG Tryz.prog 206 [] [.a b.c,.a v.c] [] (.a r.c):=by
 obtain ⟨sb,hsb⟩:∃ c,c=sgnR b.v:=⟨_,rfl⟩
 obtain ⟨sv,hsv⟩:∃ c,c=sgnR v.v:=⟨_,rfl⟩
 obtain ⟨ab,hab⟩:∃ q,q=Q.of (absR v.v):=⟨_,rfl⟩
 obtain ⟨c,hc⟩:∃ c,c=cmpR ab.v b.v:=⟨_,rfl⟩
 have k1:=sign_ok b (by omega) sb hsb
 have k2:=sign_ok v (by omega) sv hsv
 have k3:=ratAbs_ok v (by omega) ab hab
 have k4:=ratCmp_ok ab b (by rw [hab,sz_of,rs_abs]; have:=v.rs; omega) (by omega) c hc
 have hs0:0<sb:=by rw [hsb]; exact sgn_pos_iff.2 h0
 have hcc:c≤0↔absR v.v≤b.v:=by rw [hc,cmpR_le,hab,Q.v_of]
 have hn:¬ c≤0→(0<sv↔¬ v.v<0):=fun h=>by rw [hsv,sgn_pos_iff]; exact slow_pos h0 fun h2=>h (hcc.2 h2)
 rw [slowR] at hr
 by_cases h1:c≤0
 ·rw [if_pos (hcc.1 h1)] at hr
  have k5:=ratOf_ok 0 (by decide) (by decide) r (by rw [hr]; rfl)
  clear hr hab hc hn hcc hsb hsv
  refine AE.ACallG.of_walk (fn:=Tryz.f206) (c:=bodyOf Tryz.f206) GG_stays tabOK Tryz.func206 rfl rfl mixed fun A hA X=>?_
  have d0:A.cmp .leq sb 0=false:=by rw [AE.c_leq hA]; exact decide_eq_false (by omega)
  have d1:A.cmp .leq c 0=true:=by rw [AE.c_leq hA]; exact decide_eq_true h1
  (repeat' (first|(refine X.g ?_; cbv)|refine X.splitT ?_|refine X.splitF ?_|refine X.sp (fun hc=>?_) (fun hc=>?_)|refine X.needT ?_|refine X.drawX _ _ _ (by kernel_rfl) (X.frzB 0 _ _ (Nat.zero_le _) (X.frzB 1 _ _ (Nat.zero_le _) ?_))|refine X.fork _ _ ?_ ?_|refine X.callsGA [] k1 ?_|refine X.callsGA [] k3 ?_|refine X.callsGA [] k4 ?_|refine X.callsGA [] k5 ?_|fail))
  all_goals (refine X.ret _ (X.done rfl ?_); cbv <;> (and_intros <;> first|rfl|trivial))
 rw [if_neg fun h=>h1 (hcc.2 h)] at hr
 have hn:=hn h1
 by_cases h2:v.v<0
 ·rw [if_pos h2] at hr
  have k5:=ratAdd_ok v b (by omega) (by omega) r hr
  have h3:¬ 0<sv:=fun h=>hn.1 h h2
  clear hr hab hc hn hcc hsb hsv
  refine AE.ACallG.of_walk (fn:=Tryz.f206) (c:=bodyOf Tryz.f206) GG_stays tabOK Tryz.func206 rfl rfl mixed fun A hA X=>?_
  have d0:A.cmp .leq sb 0=false:=by rw [AE.c_leq hA]; exact decide_eq_false (by omega)
  have d1:A.cmp .leq c 0=false:=by rw [AE.c_leq hA]; exact decide_eq_false h1
  have d2:A.cmp .gtr sv 0=false:=by rw [AE.c_gtr hA]; exact decide_eq_false h3
  (repeat' (first|(refine X.g ?_; cbv)|refine X.splitT ?_|refine X.splitF ?_|refine X.sp (fun hc=>?_) (fun hc=>?_)|refine X.needT ?_|refine X.drawX _ _ _ (by kernel_rfl) (X.frzB 0 _ _ (Nat.zero_le _) (X.frzB 1 _ _ (Nat.zero_le _) ?_))|refine X.fork _ _ ?_ ?_|refine X.callsGA [] k1 ?_|refine X.callsGA [] k2 ?_|refine X.callsGA [] k3 ?_|refine X.callsGA [] k4 ?_|refine X.callsGA [] k5 ?_|fail))
  all_goals (refine X.ret _ (X.done rfl ?_); cbv <;> (and_intros <;> first|rfl|trivial))
 ·rw [if_neg h2] at hr
  have k5:=ratSub_ok v b (by omega) (by omega) r hr
  have h3:0<sv:=hn.2 h2
  clear hr hab hc hn hcc hsb hsv
  refine AE.ACallG.of_walk (fn:=Tryz.f206) (c:=bodyOf Tryz.f206) GG_stays tabOK Tryz.func206 rfl rfl mixed fun A hA X=>?_
  have d0:A.cmp .leq sb 0=false:=by rw [AE.c_leq hA]; exact decide_eq_false (by omega)
  have d1:A.cmp .leq c 0=false:=by rw [AE.c_leq hA]; exact decide_eq_false h1
  have d2:A.cmp .gtr sv 0=true:=by rw [AE.c_gtr hA]; exact decide_eq_true h3
  (repeat' (first|(refine X.g ?_; cbv)|refine X.splitT ?_|refine X.splitF ?_|refine X.sp (fun hc=>?_) (fun hc=>?_)|refine X.needT ?_|refine X.drawX _ _ _ (by kernel_rfl) (X.frzB 0 _ _ (Nat.zero_le _) (X.frzB 1 _ _ (Nat.zero_le _) ?_))|refine X.fork _ _ ?_ ?_|refine X.callsGA [] k1 ?_|refine X.callsGA [] k2 ?_|refine X.callsGA [] k3 ?_|refine X.callsGA [] k4 ?_|refine X.callsGA [] k5 ?_|fail))
  all_goals (refine X.ret _ (X.done rfl ?_); cbv <;> (and_intros <;> first|rfl|trivial))
theorem refSlower_ok (b v:Q) (zb:b.sz≤2^28) (zv:v.sz≤2^28) (r:Q) (hr:r=Q.of (slowR b.v v.v)):AE.ACallG GG Tryz.prog 197 [] [.a b.c,.a v.c] [] (.a r.c):=by
 obtain ⟨sv,hsv⟩:∃ c,c=sgnR v.v:=⟨_,rfl⟩
 obtain ⟨ab,hab⟩:∃ q,q=Q.of (absR v.v):=⟨_,rfl⟩
 obtain ⟨c,hc⟩:∃ c,c=cmpR ab.v b.v:=⟨_,rfl⟩
 have k2:=sign_ok v (by omega) sv hsv
 have k3:=ratAbs_ok v (by omega) ab hab
 have k4:=ratCmp_ok ab b (by rw [hab,sz_of,rs_abs]; have:=v.rs; omega) (by omega) c hc
 have hcc:c≤0↔absR v.v≤b.v:=by rw [hc,cmpR_le,hab,Q.v_of]
 have hn:sv<0↔v.v<0:=by rw [hsv,sgn_neg_iff]
 rw [slowR] at hr
 by_cases h1:c≤0
 ·rw [if_pos (hcc.1 h1)] at hr
  have k5:=ratOf_ok 0 (by decide) (by decide) r (by rw [hr]; rfl)
  clear hr hab hc hn hcc hsv
  refine AE.ACallG.of_walk (fn:=Tryz.f197) (c:=bodyOf Tryz.f197) GG_stays tabOK Tryz.func197 rfl rfl mixed fun A hA X=>?_
  have d1:A.cmp .leq c 0=true:=by rw [AE.c_leq hA]; exact decide_eq_true h1
  (repeat' (first|(refine X.g ?_; cbv)|refine X.splitT ?_|refine X.splitF ?_|refine X.sp (fun hc=>?_) (fun hc=>?_)|refine X.needT ?_|refine X.drawX _ _ _ (by kernel_rfl) (X.frzB 0 _ _ (Nat.zero_le _) (X.frzB 1 _ _ (Nat.zero_le _) ?_))|refine X.fork _ _ ?_ ?_|refine X.callsGA [] k3 ?_|refine X.callsGA [] k4 ?_|refine X.callsGA [] k5 ?_|fail))
  all_goals (refine X.ret _ (X.done rfl ?_); cbv <;> (and_intros <;> first|rfl|trivial))
 rw [if_neg fun h=>h1 (hcc.2 h)] at hr
 by_cases h2:v.v<0
 ·rw [if_pos h2] at hr
  have k5:=ratAdd_ok v b (by omega) (by omega) r hr
  have h3:sv<0:=hn.2 h2
  clear hr hab hc hn hcc hsv
  refine AE.ACallG.of_walk (fn:=Tryz.f197) (c:=bodyOf Tryz.f197) GG_stays tabOK Tryz.func197 rfl rfl mixed fun A hA X=>?_
  have d1:A.cmp .leq c 0=false:=by rw [AE.c_leq hA]; exact decide_eq_false h1
  have d2:A.cmp .lss sv 0=true:=by rw [AE.c_lss hA]; exact decide_eq_true h3
  (repeat' (first|(refine X.g ?_; cbv)|refine X.splitT ?_|refine X.splitF ?_|refine X.sp (fun hc=>?_) (fun hc=>?_)|refine X.needT ?_|refine X.drawX _ _ _ (by kernel_rfl) (X.frzB 0 _ _ (Nat.zero_le _) (X.frzB 1 _ _ (Nat.zero_le _) ?_))|refine X.fork _ _ ?_ ?_|refine X.callsGA [] k2 ?_|refine X.callsGA [] k3 ?_|refine X.callsGA [] k4 ?_|refine X.callsGA [] k5 ?_|fail))
  all_goals (refine X.ret _ (X.done rfl ?_); cbv <;> (and_intros <;> first|rfl|trivial))
 ·rw [if_neg h2] at hr
  have k5:=ratSub_ok v b (by omega) (by omega) r hr
  have h3:¬ sv<0:=fun h=>h2 (hn.1 h)
  clear hr hab hc hn hcc hsv
  refine AE.ACallG.of_walk (fn:=Tryz.f197) (c:=bodyOf Tryz.f197) GG_stays tabOK Tryz.func197 rfl rfl mixed fun A hA X=>?_
  have d1:A.cmp .leq c 0=false:=by rw [AE.c_leq hA]; exact decide_eq_false h1
  have d2:A.cmp .lss sv 0=false:=by rw [AE.c_lss hA]; exact decide_eq_false h3
  (repeat' (first|(refine X.g ?_; cbv)|refine X.splitT ?_|refine X.splitF ?_|refine X.sp (fun hc=>?_) (fun hc=>?_)|refine X.needT ?_|refine X.drawX _ _ _ (by kernel_rfl) (X.frzB 0 _ _ (Nat.zero_le _) (X.frzB 1 _ _ (Nat.zero_le _) ?_))|refine X.fork _ _ ?_ ?_|refine X.callsGA [] k2 ?_|refine X.callsGA [] k3 ?_|refine X.callsGA [] k4 ?_|refine X.callsGA [] k5 ?_|fail))
  all_goals (refine X.ret _ (X.done rfl ?_); cbv <;> (and_intros <;> first|rfl|trivial))
theorem stopFits_ok (a:Ar) (ha:a.le (2^28)) (h0:armC a=0) (eq ev:List (List AE.AV)) (hq:eq.length=a.links.length) (hv:ev.length=a.links.length):AE.ACallG GG Tryz.prog 205 [] [.a a.c,.l 3 eq,.l 3 ev] [] (.v (.int .i64 0)):=by
 have k1:=armCheck_ok a ha 0 h0.symm
 clear h0 ha
 obtain ⟨nm,bs,ls⟩:=a
 simp only at hq hv
 obtain ⟨el,hel⟩:∃ es,es=lsAv Lk.c ls:=⟨_,rfl⟩
 simp only [Ar.c,← hel] at k1 ⊢
 refine AE.ACallG.of_walk (fn:=Tryz.f205) (c:=bodyOf Tryz.f205) GG_stays tabOK Tryz.func205 rfl rfl mixed fun A hA X=>?_
 have l1:A.llen el=(ls.length:Int):=by rw [llen hA,hel,lsAv_len]
 have l2:A.llen eq=(ls.length:Int):=by rw [llen hA,hq]
 have l3:A.llen ev=(ls.length:Int):=by rw [llen hA,hv]
 have c0:A.cmp .neq 0 0=false:=by rw [AE.c_neq hA]; rfl
 have c1:A.cmp .neq (A.llen eq) (A.llen el)=false:=by rw [AE.c_neq hA,l1,l2]; simp
 have c2:A.cmp .neq (A.llen ev) (A.llen el)=false:=by rw [AE.c_neq hA,l1,l3]; simp
 clear l1 l2 l3 hel hq hv
 (repeat' (first|(refine X.g ?_; cbv)|refine X.splitT ?_|refine X.splitF ?_|refine X.sp (fun hc=>?_) (fun hc=>?_)|refine X.needT ?_|refine X.callsGA [] k1 ?_|fail))
 all_goals (refine X.ret _ (X.done rfl ?_); cbv <;> (and_intros <;> first|rfl|trivial))
theorem cloneRatO_ok (es:List (List AE.AV)) (hl:es.length≤2^30):AE.ACall Tryz.prog 80 [] [.l 3 es] [.row 29 3 es] (.r 0):=by
 refine AE.ACall.of_walk (fn:=Tryz.f80) (c:=bodyOf Tryz.f80) tabOK Tryz.func80 rfl rfl mixed fun A hA X=>?_
 have hg:=grow0 hA hl (b:=40) (by decide) (by decide)
 have e1:A.lapp [] es=es:=by subst hA; rfl
 (refine X.g ?_; cbv)
 refine X.coin _ _ _ _ _ (fun b hb=>?_)
 cases b
 ·(repeat' (first|(refine X.g ?_; cbv)|refine X.splitT ?_|refine X.splitF ?_|refine X.sp (fun hc=>?_) (fun hc=>?_)|refine X.needT ?_|refine X.need _ _ _ hg ?_|fail))
  all_goals (refine X.ret _ (X.done rfl ?_); cbv <;> (and_intros <;> first|exact e1|rfl|trivial))
 ·have e2:=hb rfl
  (repeat' (first|(refine X.g ?_; cbv)|refine X.splitT ?_|refine X.splitF ?_|refine X.sp (fun hc=>?_) (fun hc=>?_)|refine X.needT ?_|fail))
  all_goals (refine X.ret _ (X.nilT 2 29 3 _ _ (X.done rfl ?_)); cbv <;> (and_intros <;> first|exact e2.symm|exact e2|rfl|trivial))
theorem mix_set {α : Type} {l m:List α} {i:Nat} {y:α} (h:m[i]? = some y) (hl:l.length=m.length):(m.take i++l.drop i).set i y=m.take (i+1)++l.drop (i+1):=by
 have hi:=(List.getElem?_eq_some_iff.1 h).1
 have e1:(m.take i).length=i:=by rw [List.length_take]; omega
 rw [take_snoc h,List.set_append_right _ _ (by omega),e1,Nat.sub_self,List.drop_eq_getElem_cons (by omega),List.set_cons_zero,List.append_assoc]; rfl
theorem mix_get {α : Type} {l m:List α} {i:Nat} {y:α} (h:m[i]? = some y):(m.take (i+1)++l.drop (i+1))[i]? = some y:=by
 have hi:=(List.getElem?_eq_some_iff.1 h).1
 rw [List.getElem?_append_left (by rw [List.length_take]; omega),List.getElem?_take_of_lt (by omega),h]
theorem mix_len {α : Type} {l m:List α} {i:Nat} (hl:l.length=m.length) (hi:i≤m.length):(m.take i++l.drop i).length=m.length:=by
 rw [List.length_append,List.length_take,List.length_drop]; omega
def brakedV (a:Ar) (v:List Q):List Q:=List.zipWith (fun k v=>Q.of (slowR k.brake.v v.v)) a.links v
def addQ (q u:List Q):List Q:=List.zipWith (fun q u=>Q.of (q.v+u.v)) q u
def brakedA (a:Ar) (x:As):As:=⟨addQ x.q (brakedV a x.v),brakedV a x.v,false,x.holds⟩
theorem zip_get {α β γ : Type} {f:α → β → γ} {l:List α} {m:List β} {i:Nat} {x:α} {y:β} (h1:l[i]? = some x) (h2:m[i]? = some y):(List.zipWith f l m)[i]? = some (f x y):=by
 rw [List.getElem?_zipWith,h1,h2]
theorem zip_len {α β γ : Type} {f:α → β → γ} {l:List α} {m:List β} {n:Nat} (h1:l.length=n) (h2:m.length=n):(List.zipWith f l m).length=n:=by
 rw [List.length_zipWith]; omega
theorem brakedV_len {a:Ar} {v:List Q} (h:v.length=a.links.length):(brakedV a v).length=a.links.length:=zip_len rfl h
theorem addQ_len {q u:List Q} {n:Nat} (h1:q.length=n) (h2:u.length=n):(addQ q u).length=n:=zip_len h1 h2
structure BrakeOK (a:Ar) (q v:List Q):Prop where
 le:a.le (2^28)
 ok:armC a=0
 ql:q.length=a.links.length
 vl:v.length=a.links.length
 qs:∀ x∈q,x.sz≤2^28
 vs:∀ x∈v,x.sz≤2^26
theorem BrakeOK.link {a:Ar} {q v:List Q} (h:BrakeOK a q v) {k:Lk} (hk:k∈a.links):k.brake.sz≤3∧0<k.brake.v:=by
 obtain ⟨_,_,_,_,h5,_,_,_,h9⟩:=linkC_zero ((armC_zero h.ok).1 k hk)
 have:=h5.size
 exact ⟨by simp only [Q.sz]; omega,sgn_pos_iff.1 h9⟩
theorem stopBrake_ok (a:Ar) (q v:List Q) (h:BrakeOK a q v) (pw:Bool) (hl:Int) (eq ev nv nq:List (List AE.AV)) (heq:eq=lsAv Q.c q) (hev:ev=lsAv Q.c v) (hnv:nv=lsAv Q.c (brakedV a v)) (hnq:nq=lsAv Q.c (addQ q (brakedV a v))):AE.ACallG GG Tryz.prog 165 [] [.a a.c,.a [.l 3 eq,.l 3 ev,.b pw,.v (.int .i64 hl)]] [] (.t [.a [.l 3 nq,.l 3 nv,.b pw,.v (.int .i64 hl)],.v (.int .i64 0)]):=by
 have n3:=(armC_zero h.ok).2.2.1
 have kf:=stopFits_ok a h.le h.ok eq ev (by rw [heq,lsAv_len]; exact h.ql) (by rw [hev,lsAv_len]; exact h.vl)
 have kc1:=cloneRatO_ok eq (by rw [heq,lsAv_len,h.ql]; omega)
 have kc2:=cloneRatO_ok ev (by rw [hev,lsAv_len,h.vl]; omega)
 have hlk:∀ k∈a.links,k.brake.sz≤3∧0<k.brake.v:=fun k hk=>h.link hk
 obtain ⟨bv,hbv⟩:∃ l,l=brakedV a v:=⟨_,rfl⟩
 obtain ⟨bq,hbq⟩:∃ l,l=addQ q bv:=⟨_,rfl⟩
 have lbv:bv.length=a.links.length:=by rw [hbv]; exact brakedV_len h.vl
 have lbq:bq.length=a.links.length:=by rw [hbq]; exact addQ_len h.ql lbv
 obtain ⟨_,_,hql,hvl,hqs,hvs⟩:=h
 have hel' : ∃ es,es=lsAv Lk.c a.links:=⟨_,rfl⟩
 obtain ⟨gV,hgV⟩:∃ g:Nat→List (List AE.AV),∀ i,g i=lsAv Q.c (bv.take i++v.drop i):=⟨_,fun _=>rfl⟩
 obtain ⟨gQ,hgQ⟩:∃ g:Nat→List (List AE.AV),∀ i,g i=lsAv Q.c (bq.take i++q.drop i):=⟨_,fun _=>rfl⟩
 have hV0:ev=gV 0:=by rw [hgV,hev]; rfl
 have hQ0:eq=gQ 0:=by rw [hgQ,heq]; rfl
 have hVn:gV a.links.length=nv:=by
  rw [hgV,hnv,← hbv,List.take_of_length_le (by omega),List.drop_of_length_le (by omega),List.append_nil]
 have hQn:gQ a.links.length=nq:=by
  rw [hgQ,hnq,← hbv,← hbq,List.take_of_length_le (by omega),List.drop_of_length_le (by omega),List.append_nil]
 clear hnv hnq
 obtain ⟨nm,bs,ls⟩:=a
 obtain ⟨el,hel⟩:=hel'
 simp only at hel hlk lbv lbq hql hvl hVn hQn n3 hbv
 have hbv:bv=List.zipWith (fun k v=>Q.of (slowR k.brake.v v.v)) ls v:=hbv
 have hbq:bq=List.zipWith (fun q u=>Q.of (q.v+u.v)) q bv:=hbq
 simp only [Ar.c,← hel] at kf ⊢
 refine AE.ACallG.of_walk (fn:=Tryz.f165) (c:=bodyOf Tryz.f165) GG_stays tabOK Tryz.func165 rfl rfl mixed fun A hA X=>?_
 have c0:A.cmp .neq 0 0=false:=by rw [AE.c_neq hA]; rfl
 (repeat' (first|(refine X.g ?_; cbv)|refine X.splitT ?_|refine X.splitF ?_|refine X.sp (fun hc=>?_) (fun hc=>?_)|refine X.needT ?_|refine X.callsGA [] kf ?_|fail))
 apply shareG X
 ·intro hs
  refine X.drawX _ _ _ (by kernel_rfl) (X.frzB 0 _ _ (Nat.zero_le _) (X.frzB 1 _ _ (Nat.zero_le _) ?_))
  (repeat' (first|(refine X.g ?_; cbv)|refine X.splitT ?_|refine X.splitF ?_|refine X.sp (fun hc=>?_) (fun hc=>?_)|refine X.needT ?_|refine X.fork _ _ ?_ ?_|refine X.callsA [] kc1 ?_|refine X.callsA [] kc2 ?_|fail))
  all_goals first|exact hs|(refine X.loopG _ _ _ (X.perm [0,1,2,3,5,4] [5] _ _ rfl ?_); (refine X.g ?_; cbv); exact hs)|(refine X.loopG _ _ _ (X.perm [0,1,2,4,5,3] [5] _ _ rfl ?_); (refine X.g ?_; cbv); exact hs)
 refine rangeLS X hA hel (by omega) (fun _=>True) (fun z _=>[(34,.v (.int .i64 z))]) (fun i o=>(o.set 3 (.row 29 3 (gQ i))).set 4 (.row 29 3 (gV i))) trivial ?_ (fun i z y hz hy hye c9 hI B hB=>?_) (fun z c9 hI B=>?_)
 ·clear kf kc1 kc2
  (cbv <;> (and_intros <;> first|exact hV0|exact hQ0|rfl|trivial))
 ·have hi:=(List.getElem?_eq_some_iff.1 hy).1
  obtain ⟨b1,b2⟩:=hlk y (List.mem_of_getElem? hy)
  obtain ⟨vi,hvi⟩:∃ x,v[i]? = some x:=⟨_,List.getElem?_eq_getElem (by omega)⟩
  obtain ⟨qi,hqi⟩:∃ x,q[i]? = some x:=⟨_,List.getElem?_eq_getElem (by omega)⟩
  have zv:=hvs vi (List.mem_of_getElem? hvi)
  have zq:=hqs qi (List.mem_of_getElem? hqi)
  obtain ⟨nv', hnv'⟩:∃ r,r=Q.of (slowR y.brake.v vi.v):=⟨_,rfl⟩
  have k1:=stopSlower_ok y.brake vi (by omega) (by omega) b2 nv' hnv'
  have znv:nv'.sz≤2^27:=by
   rw [hnv', sz_of]
   have:=rs_slow y.brake.v vi.v; have:=y.brake.rs; have:=vi.rs; omega
  obtain ⟨nq', hnq'⟩:∃ r,r=Q.of (qi.v+nv'.v):=⟨_,rfl⟩
  have k2:=ratAdd_ok qi nv' (by omega) (by omega) nq' hnq'
  have hbvi:bv[i]? = some nv' := by rw [hbv,hnv']; exact zip_get hy hvi
  have hbqi:bq[i]? = some nq' := by rw [hbq,hnq']; exact zip_get hqi hbvi
  have hsV:A.lset (gV i) i nv'.c=gV (i+1):=by rw [lset_std hA,hgV,hgV,lsAv_set,mix_set hbvi (by omega)]
  have hsQ:A.lset (gQ i) i nq'.c=gQ (i+1):=by rw [lset_std hA,hgQ,hgQ,lsAv_set,mix_set hbqi (by omega)]
  have gvi:ev[i]? = some vi.c:=by rw [hev]; exact lsAv_get hvi
  have gqi:eq[i]? = some qi.c:=by rw [heq]; exact lsAv_get hqi
  have gni:(gV (i+1))[i]? = some nv'.c:=by rw [hgV]; exact lsAv_get (mix_get hbvi)
  have atV:AE.AtR i (gV i):=⟨by rw [hgV,lsAv_len,mix_len (by omega) (by omega)]; omega⟩
  have atV2:AE.AtR i (gV (i+1)):=⟨by rw [hgV,lsAv_len,mix_len (by omega) (by omega)]; omega⟩
  have atQ:AE.AtR i (gQ i):=⟨by rw [hgQ,lsAv_len,mix_len (by omega) (by omega)]; omega⟩
  clear kf kc1 kc2 hnv' hnq' hbvi hbqi hV0 hQ0 hVn hQn hbv hbq
  obtain ⟨nv1,nv2,nv3⟩:=nv'
  obtain ⟨nq1,nq2,nq3⟩:=nq'
  simp only [Q.c] at hsV hsQ gni
  obtain ⟨g1,hg1⟩:∃ g,g=gV (i+1):=⟨_,rfl⟩
  obtain ⟨g2,hg2⟩:∃ g,g=gQ (i+1):=⟨_,rfl⟩
  rw [← hg1] at hsV gni atV2
  rw [← hsV] at gni atV2
  rw [← hg2] at hsQ
  have hsV2:=hsV
  cbv at hsV2
  have hsQ2:=hsQ
  cbv at hsQ2
  (repeat' (first|(refine X.g ?_; cbv)|refine X.splitT ?_|refine X.splitF ?_|refine X.sp (fun hc=>?_) (fun hc=>?_)|refine X.needT ?_|refine X.idx _ _ _ _ _ _ _ _ hye hz ?_|fail))
  apply shareG X
  ·intro hs
   refine X.drawX _ _ _ (by kernel_rfl) (X.frzB 6 _ _ (Nat.zero_le _) ?_)
   (repeat' (first|(refine X.g ?_; cbv)|refine X.splitT ?_|refine X.splitF ?_|refine X.sp (fun hc=>?_) (fun hc=>?_)|refine X.needT ?_|refine X.fork _ _ ?_ ?_|refine X.idx _ _ _ _ _ _ _ _ gvi hz ?_|refine X.callsGA [] k1 ?_|refine X.idxA i atV hz ?_|refine X.need _ _ _ atV ?_|fail))
   all_goals exact hs
  apply shareG X
  ·intro hs
   refine X.drawX _ _ _ (by kernel_rfl) ?_
   (repeat' (first|(refine X.g ?_; cbv)|refine X.splitT ?_|refine X.splitF ?_|refine X.sp (fun hc=>?_) (fun hc=>?_)|refine X.needT ?_|refine X.fork _ _ ?_ ?_|refine X.idx _ _ _ _ _ _ _ _ gqi hz ?_|refine X.callsGA [] k2 ?_|refine X.idxA i atV2 hz ?_|refine X.ldq _ _ _ _ _ _ _ _ _ gni ?_|refine X.idxA i atQ hz ?_|refine X.need _ _ _ atQ ?_|fail))
   all_goals exact hs
  all_goals (refine hB trivial _ ?_; clear hB; (cbv <;> (and_intros <;> first|exact hsQ2.trans hg2|exact hsV2.trans hg1|rfl|trivial)))
 ·rw [hVn,hQn]
  clear kf kc1 kc2
  (repeat' (first|(refine X.g ?_; cbv)|refine X.splitT ?_|refine X.splitF ?_|refine X.sp (fun hc=>?_) (fun hc=>?_)|refine X.needT ?_|fail))
  all_goals (refine X.ret _ ?_; refine X.frz 3 _ _ ?_; refine X.frz 4 _ _ ?_; refine X.done rfl ?_; cbv <;> (and_intros <;> first|rfl|trivial))
end Go.Proofs.YthadehkggddgoaaGreatDoor
end
section
set_option maxRecDepth 100000
set_option maxHeartbeats 0
set_option linter.unusedVariables false
set_option linter.unusedSimpArgs false
namespace Go.Proofs.YthadehkggddgoaaGreatDoor
open Go Go.Num
theorem refBraked_ok (a:Ar) (q v:List Q) (h:BrakeOK a q v) (pw:Bool) (hl:Int) (eq ev nv nq:List (List AE.AV)) (heq:eq=lsAv Q.c q) (hev:ev=lsAv Q.c v) (hnv:nv=lsAv Q.c (brakedV a v)) (hnq:nq=lsAv Q.c (addQ q (brakedV a v))):AE.ACallG GG Tryz.prog 130 [] [.a a.c,.a [.l 3 eq,.l 3 ev,.b pw,.v (.int .i64 hl)]] [] (.a [.l 3 nq,.l 3 nv,.b false,.v (.int .i64 hl)]):=by
 have n3:=(armC_zero h.ok).2.2.1
 have hlk:∀ k∈a.links,k.brake.sz≤3∧0<k.brake.v:=fun k hk=>h.link hk
 obtain ⟨bv,hbv⟩:∃ l,l=brakedV a v:=⟨_,rfl⟩
 obtain ⟨bq,hbq⟩:∃ l,l=addQ q bv:=⟨_,rfl⟩
 have lbv:bv.length=a.links.length:=by rw [hbv]; exact brakedV_len h.vl
 have lbq:bq.length=a.links.length:=by rw [hbq]; exact addQ_len h.ql lbv
 obtain ⟨_,_,hql,hvl,hqs,hvs⟩:=h
 have hel' : ∃ es,es=lsAv Lk.c a.links:=⟨_,rfl⟩
 obtain ⟨gV,hgV⟩:∃ g:Nat→List (List AE.AV),∀ i,g i=lsAv Q.c (bv.take i):=⟨_,fun _=>rfl⟩
 obtain ⟨gQ,hgQ⟩:∃ g:Nat→List (List AE.AV),∀ i,g i=lsAv Q.c (bq.take i):=⟨_,fun _=>rfl⟩
 have hV0:[]=gV 0:=by rw [hgV]; exact (lsAv_nil _).symm
 have hQ0:[]=gQ 0:=by rw [hgQ]; exact (lsAv_nil _).symm
 have hVn:gV a.links.length=nv:=by rw [hgV,hnv,← hbv,List.take_of_length_le (by omega)]
 have hQn:gQ a.links.length=nq:=by rw [hgQ,hnq,← hbv,← hbq,List.take_of_length_le (by omega)]
 clear hnv hnq
 obtain ⟨nm,bs,ls⟩:=a
 obtain ⟨el,hel⟩:=hel'
 simp only at hel hlk lbv lbq hql hvl hVn hQn n3 hbv
 have hbv:bv=List.zipWith (fun k v=>Q.of (slowR k.brake.v v.v)) ls v:=hbv
 have hbq:bq=List.zipWith (fun q u=>Q.of (q.v+u.v)) q bv:=hbq
 simp only [Ar.c,← hel]
 refine AE.ACallG.of_walk (fn:=Tryz.f130) (c:=bodyOf Tryz.f130) GG_stays tabOK Tryz.func130 rfl rfl mixed fun A hA X=>?_
 (repeat' (first|(refine X.g ?_; cbv)|refine X.splitT ?_|refine X.splitF ?_|refine X.sp (fun hc=>?_) (fun hc=>?_)|refine X.needT ?_|fail))
 refine X.loopG _ _ _ (X.frzB 0 _ _ (Nat.zero_le _) (X.frzB 1 _ _ (Nat.zero_le _) (X.nilB 3 0 29 3 _ _ (X.nilB 3 1 29 3 _ _ ?_))))
 (refine X.g ?_; cbv)
 refine rangeLS X hA hel (by omega) (fun _=>True) (fun z _=>[(15,.v (.int .i64 z))]) (fun i o=>(o.set 4 (.row 29 3 (gQ i))).set 5 (.row 29 3 (gV i))) trivial ?_ (fun i z y hz hy hye c9 hI B hB=>?_) (fun z c9 hI B=>?_)
 ·(cbv <;> (and_intros <;> first|exact hV0|exact hQ0|rfl|trivial))
 ·have hi:=(List.getElem?_eq_some_iff.1 hy).1
  obtain ⟨b1,b2⟩:=hlk y (List.mem_of_getElem? hy)
  obtain ⟨vi,hvi⟩:∃ x,v[i]? = some x:=⟨_,List.getElem?_eq_getElem (by omega)⟩
  obtain ⟨qi,hqi⟩:∃ x,q[i]? = some x:=⟨_,List.getElem?_eq_getElem (by omega)⟩
  have zv:=hvs vi (List.mem_of_getElem? hvi)
  have zq:=hqs qi (List.mem_of_getElem? hqi)
  obtain ⟨nv', hnv'⟩:∃ r,r=Q.of (slowR y.brake.v vi.v):=⟨_,rfl⟩
  have k1:=refSlower_ok y.brake vi (by omega) (by omega) nv' hnv'
  have znv:nv'.sz≤2^27:=by
   rw [hnv', sz_of]
   have:=rs_slow y.brake.v vi.v; have:=y.brake.rs; have:=vi.rs; omega
  obtain ⟨nq', hnq'⟩:∃ r,r=Q.of (qi.v+nv'.v):=⟨_,rfl⟩
  have k2:=ratAdd_ok qi nv' (by omega) (by omega) nq' hnq'
  have hbvi:bv[i]? = some nv' := by rw [hbv,hnv']; exact zip_get hy hvi
  have hbqi:bq[i]? = some nq' := by rw [hbq,hnq']; exact zip_get hqi hbvi
  have eV:A.lapp (gV i) [nv'.c]=gV (i+1):=lapp_take hA hbvi (hgV i) (hgV (i+1))
  have eQ:A.lapp (gQ i) [nq'.c]=gQ (i+1):=lapp_take hA hbqi (hgQ i) (hgQ (i+1))
  have gvi:ev[i]? = some vi.c:=by rw [hev]; exact lsAv_get hvi
  have gqi:eq[i]? = some qi.c:=by rw [heq]; exact lsAv_get hqi
  have grV:∀ c,AE.GrowR (A.llen (gV i)) (A.llen [c]) 40:=fun c=>grow1 hA (n:=8) (by rw [hgV,lsAv_len,List.length_take]; omega) (by decide) (by decide)
  have grQ:∀ c,AE.GrowR (A.llen (gQ i)) (A.llen [c]) 40:=fun c=>grow1 hA (n:=8) (by rw [hgQ,lsAv_len,List.length_take]; omega) (by decide) (by decide)
  clear hnv' hnq' hbvi hbqi hV0 hQ0 hVn hQn hbv hbq
  obtain ⟨nv1,nv2,nv3⟩:=nv'
  obtain ⟨nq1,nq2,nq3⟩:=nq'
  simp only [Q.c] at eV eQ
  (repeat' (first|(refine X.g ?_; cbv)|refine X.splitT ?_|refine X.splitF ?_|refine X.sp (fun hc=>?_) (fun hc=>?_)|refine X.needT ?_|refine X.idx _ _ _ _ _ _ _ _ hye hz ?_|fail))
  apply shareG X
  ·intro hs
   refine X.drawX _ _ _ (by kernel_rfl) (X.frzB 6 _ _ (Nat.zero_le _) ?_)
   (repeat' (first|(refine X.g ?_; cbv)|refine X.splitT ?_|refine X.splitF ?_|refine X.sp (fun hc=>?_) (fun hc=>?_)|refine X.needT ?_|refine X.fork _ _ ?_ ?_|refine X.idx _ _ _ _ _ _ _ _ gvi hz ?_|refine X.callsGA [] k1 ?_|fail))
   all_goals exact hs
  apply shareG X
  ·intro hs
   refine X.drawX _ _ _ (by kernel_rfl) (X.frzB 7 _ _ (Nat.zero_le _) ?_)
   (repeat' (first|(refine X.g ?_; cbv)|refine X.splitT ?_|refine X.splitF ?_|refine X.sp (fun hc=>?_) (fun hc=>?_)|refine X.needT ?_|refine X.fork _ _ ?_ ?_|refine X.idx _ _ _ _ _ _ _ _ gqi hz ?_|refine X.callsGA [] k2 ?_|refine X.need _ _ _ (grV _) ?_|refine X.need _ _ _ (grQ _) ?_|fail))
   all_goals exact hs
  all_goals (refine hB trivial _ ?_; clear hB; (cbv <;> (and_intros <;> first|exact eV|exact eQ|rfl|trivial)))
 ·rw [hVn,hQn]
  (repeat' (first|(refine X.g ?_; cbv)|refine X.splitT ?_|refine X.splitF ?_|refine X.sp (fun hc=>?_) (fun hc=>?_)|refine X.needT ?_|fail))
  all_goals (refine X.ret _ ?_; refine X.frz 4 _ _ ?_; refine X.frz 5 _ _ ?_; refine X.done rfl ?_; cbv <;> (and_intros <;> first|rfl|trivial))
def mayAll:List Q→List Q→List Lk→Prop
 | q :: qs,u :: us,k :: ks=>(absR u.v≤k.speed.v∧k.low.v≤q.v+u.v∧q.v+u.v≤k.high.v)∧mayAll qs us ks
 | _,_,_=>True
instance mayAll_dec:∀ (q u:List Q) (k:List Lk),Decidable (mayAll q u k)
 | q :: qs,u :: us,k :: ks=>by unfold mayAll; exact @instDecidableAnd _ _ _ (mayAll_dec qs us ks)
 | [],_,_=>by unfold mayAll; infer_instance
 | _ :: _,[],_=>by unfold mayAll; infer_instance
 | _ :: _,_ :: _,[]=>by unfold mayAll; infer_instance
theorem mayAll_drop {qs us:List Q} {ks:List Lk} {i:Nat} {q u:Q} {k:Lk} (h1:qs[i]? = some q) (h2:us[i]? = some u) (h3:ks[i]? = some k):mayAll (qs.drop i) (us.drop i) (ks.drop i)↔(absR u.v≤k.speed.v∧k.low.v≤q.v+u.v∧q.v+u.v≤k.high.v)∧mayAll (qs.drop (i+1)) (us.drop (i+1)) (ks.drop (i+1)):=by
 obtain ⟨hi,rfl⟩:=List.getElem?_eq_some_iff.1 h1
 obtain ⟨hj,rfl⟩:=List.getElem?_eq_some_iff.1 h2
 obtain ⟨hk,rfl⟩:=List.getElem?_eq_some_iff.1 h3
 rw [List.drop_eq_getElem_cons hi,List.drop_eq_getElem_cons hj,List.drop_eq_getElem_cons hk,mayAll]
theorem good_drop {us:List Q} {i:Nat} {u:Q} (h:us[i]? = some u):(∀ x∈us.drop i,x.Good)↔u.Good∧∀ x∈us.drop (i+1),x.Good:=by
 obtain ⟨hi,rfl⟩:=List.getElem?_eq_some_iff.1 h
 rw [List.drop_eq_getElem_cons hi]
 exact List.forall_mem_cons
theorem mayAll_nil:∀ q u:List Q,mayAll q u []
 | [],_=>trivial
 | _ :: _,[]=>trivial
 | _ :: _,_ :: _=>trivial
def mayB (a:Ar) (q u:List Q):Bool:=decide (u.length=a.links.length∧(∀ x∈u,x.Good)∧mayAll q u a.links)
theorem moveMay_ok (a:Ar) (ha:a.le (2^28)) (q u:List Q) (hq:∀ x∈q,x.sz≤2^28) (hu:∀ x∈u,x.sz≤2^28) (hl:q.length=a.links.length) (eq eu:List (List AE.AV)) (heq:eq=lsAv Q.c q) (heu:eu=lsAv Q.c u) (r:Bool) (hr:r=mayB a q u):AE.ACallG GG Tryz.prog 164 [] [.a a.c,.l 3 eq,.l 3 eu] [] (.b r):=by
 obtain ⟨_,_,hk,hkl⟩:=ha
 rw [mayB] at hr
 obtain ⟨nm,bs,ls⟩:=a
 simp only at hk hkl hl hr
 obtain ⟨el,hel⟩:∃ es,es=lsAv Lk.c ls:=⟨_,rfl⟩
 simp only [Ar.c,← hel]
 refine AE.ACallG.of_walk (fn:=Tryz.f164) (c:=bodyOf Tryz.f164) GG_stays tabOK Tryz.func164 rfl rfl mixed fun A hA X=>?_
 have l1:A.llen el=(ls.length:Int):=by rw [llen hA,hel,lsAv_len]
 have l2:A.llen eu=(u.length:Int):=by rw [llen hA,heu,lsAv_len]
 have n1:A.bnot true=false:=by rw [AE.c_not hA]; rfl
 have n2:A.bnot false=true:=by rw [AE.c_not hA]; rfl
 by_cases h0:u.length=ls.length
 rotate_left
 ·have c1:A.cmp .neq (A.llen eu) (A.llen el)=true:=by rw [AE.c_neq hA,l1,l2,decide_eq_false (by omega)]; rfl
  have e1:false=r:=by rw [hr]; exact (decide_eq_false fun h=>h0 h.1).symm
  (repeat' (first|(refine X.g ?_; cbv)|refine X.splitT ?_|refine X.splitF ?_|refine X.sp (fun hc=>?_) (fun hc=>?_)|refine X.needT ?_|fail))
  all_goals (refine X.ret _ (X.done rfl ?_); cbv <;> (and_intros <;> first|exact e1|rfl|trivial))
 have c1:A.cmp .neq (A.llen eu) (A.llen el)=false:=by rw [AE.c_neq hA,l1,l2,h0]; simp
 have hr:r=decide ((∀ x∈u.drop 0,x.Good)∧mayAll (q.drop 0) (u.drop 0) (ls.drop 0)):=by
  rw [hr,decide_eq_decide]; exact ⟨fun h=>h.2,fun h=>⟨h0,h⟩⟩
 clear l1 l2
 (repeat' (first|(refine X.g ?_; cbv)|refine X.splitT ?_|refine X.splitF ?_|refine X.sp (fun hc=>?_) (fun hc=>?_)|refine X.needT ?_|fail))
 refine X.loopG _ _ _ (X.frzB 0 _ _ (Nat.zero_le _) ?_)
 (refine X.g ?_; cbv)
 refine rangeL0 X hA hel (by omega) (fun i=>r=decide ((∀ x∈u.drop i,x.Good)∧mayAll (q.drop i) (u.drop i) (ls.drop i))) (fun z _=>[(19,.v (.int .i64 z))]) hr ?_ (fun i z y hz hy hye c9 hI B hB=>?_) (fun z c9 hI B=>?_)
 ·(cbv <;> (and_intros <;> first|rfl|trivial))
 ·have hi:=(List.getElem?_eq_some_iff.1 hy).1
  obtain ⟨_,z2,z3,z4,_⟩:=hk y (List.mem_of_getElem? hy)
  obtain ⟨ui,hui⟩:∃ x,u[i]? = some x:=⟨_,List.getElem?_eq_getElem (by omega)⟩
  obtain ⟨qi,hqi⟩:∃ x,q[i]? = some x:=⟨_,List.getElem?_eq_getElem (by omega)⟩
  have zu:=hu ui (List.mem_of_getElem? hui)
  have zq:=hq qi (List.mem_of_getElem? hqi)
  obtain ⟨to,hto⟩:∃ x,x=Q.of (qi.v+ui.v):=⟨_,rfl⟩
  obtain ⟨ab,hab⟩:∃ x,x=Q.of (absR ui.v):=⟨_,rfl⟩
  have b1:=rs_add qi.v ui.v
  have b2:=qi.rs
  have b3:=ui.rs
  have sto:to.sz≤2^30:=by rw [hto,sz_of]; omega
  have sab:ab.sz≤2^30:=by rw [hab,sz_of,rs_abs]; omega
  obtain ⟨g,hg⟩:∃ b,b=decide ui.Good:=⟨_,rfl⟩
  obtain ⟨d1,hd1⟩:∃ c,c=cmpR ab.v y.speed.v:=⟨_,rfl⟩
  obtain ⟨d2,hd2⟩:∃ c,c=cmpR to.v y.low.v:=⟨_,rfl⟩
  obtain ⟨d3,hd3⟩:∃ c,c=cmpR to.v y.high.v:=⟨_,rfl⟩
  have k1:=ratAdd_ok qi ui (by omega) (by omega) to hto
  have k2:=good_ok ui (by omega) g hg
  have k3:=ratAbs_ok ui (by omega) ab hab
  have k4:=ratCmp_ok ab y.speed (by omega) (by omega) d1 hd1
  have k5:=ratCmp_ok to y.low (by omega) (by omega) d2 hd2
  have k6:=ratCmp_ok to y.high (by omega) (by omega) d3 hd3
  have g1:eq[i]? = some qi.c:=by rw [heq]; exact lsAv_get hqi
  have g2:eu[i]? = some ui.c:=by rw [heu]; exact lsAv_get hui
  have t1:d1≤0↔absR ui.v≤y.speed.v:=by rw [hd1,cmpR_le,hab,Q.v_of]
  have t2:0≤d2↔y.low.v≤qi.v+ui.v:=by rw [hd2,cmpR_ge,hto,Q.v_of]
  have t3:d3≤0↔qi.v+ui.v≤y.high.v:=by rw [hd3,cmpR_le,hto,Q.v_of]
  have hI2:r=decide ((g=true∧∀ x∈u.drop (i+1),x.Good)∧(d1≤0∧0≤d2∧d3≤0)∧mayAll (q.drop (i+1)) (u.drop (i+1)) (ls.drop (i+1))):=by
   rw [hI,decide_eq_decide,good_drop hui,mayAll_drop hqi hui hy,t1,t2,t3,hg,decide_eq_true_iff]
  clear hto hab hd1 hd2 hd3 hg t1 t2 t3 hI
  (repeat' (first|(refine X.g ?_; cbv)|refine X.splitT ?_|refine X.splitF ?_|refine X.sp (fun hc=>?_) (fun hc=>?_)|refine X.needT ?_|refine X.idx _ _ _ _ _ _ _ _ hye hz ?_|fail))
  apply shareG X
  ·intro hs
   refine X.drawX _ _ _ (by kernel_rfl) ?_
   (repeat' (first|(refine X.g ?_; cbv)|refine X.splitT ?_|refine X.splitF ?_|refine X.sp (fun hc=>?_) (fun hc=>?_)|refine X.needT ?_|refine X.fork _ _ ?_ ?_|refine X.idx _ _ _ _ _ _ _ _ g1 hz ?_|refine X.idx _ _ _ _ _ _ _ _ g2 hz ?_|refine X.callsGA [] k1 ?_|fail))
   all_goals exact hs
  clear k1
  cases g
  ·have e1:false=r:=by rw [hI2]; exact (decide_eq_false fun h=>by cases h.1.1).symm
   clear hB
   refine X.drawX _ _ _ (by kernel_rfl) (X.frzB 1 _ _ (Nat.zero_le _) (X.frzB 2 _ _ (Nat.zero_le _) ?_))
   (repeat' (first|(refine X.g ?_; cbv)|refine X.splitT ?_|refine X.splitF ?_|refine X.sp (fun hc=>?_) (fun hc=>?_)|refine X.needT ?_|refine X.fork _ _ ?_ ?_|refine X.idx _ _ _ _ _ _ _ _ g2 hz ?_|refine X.callsGA [] k2 ?_|fail))
   all_goals (refine X.ret _ (X.done rfl ?_); cbv <;> (and_intros <;> first|exact e1|rfl|trivial))
  by_cases h1:d1≤0
  rotate_left
  ·have f1:A.cmp .gtr d1 0=true:=by rw [AE.c_gtr hA]; exact decide_eq_true (by omega)
   have e1:false=r:=by rw [hI2]; exact (decide_eq_false fun h=>h1 h.2.1.1).symm
   clear hB
   refine X.drawX _ _ _ (by kernel_rfl) (X.frzB 1 _ _ (Nat.zero_le _) (X.frzB 2 _ _ (Nat.zero_le _) ?_))
   (repeat' (first|(refine X.g ?_; cbv)|refine X.splitT ?_|refine X.splitF ?_|refine X.sp (fun hc=>?_) (fun hc=>?_)|refine X.needT ?_|refine X.fork _ _ ?_ ?_|refine X.idx _ _ _ _ _ _ _ _ g2 hz ?_|refine X.callsGA [] k2 ?_|refine X.callsGA [] k3 ?_|refine X.callsGA [] k4 ?_|fail))
   all_goals (refine X.ret _ (X.done rfl ?_); cbv <;> (and_intros <;> first|exact e1|rfl|trivial))
  have f1:A.cmp .gtr d1 0=false:=by rw [AE.c_gtr hA]; exact decide_eq_false (by omega)
  by_cases h2:0≤d2
  rotate_left
  ·have f2:A.cmp .lss d2 0=true:=by rw [AE.c_lss hA]; exact decide_eq_true (by omega)
   have e1:false=r:=by rw [hI2]; exact (decide_eq_false fun h=>h2 h.2.1.2.1).symm
   clear hB
   refine X.drawX _ _ _ (by kernel_rfl) (X.frzB 1 _ _ (Nat.zero_le _) (X.frzB 2 _ _ (Nat.zero_le _) ?_))
   (repeat' (first|(refine X.g ?_; cbv)|refine X.splitT ?_|refine X.splitF ?_|refine X.sp (fun hc=>?_) (fun hc=>?_)|refine X.needT ?_|refine X.fork _ _ ?_ ?_|refine X.idx _ _ _ _ _ _ _ _ g2 hz ?_|refine X.callsGA [] k2 ?_|refine X.callsGA [] k3 ?_|refine X.callsGA [] k4 ?_|refine X.callsGA [] k5 ?_|fail))
   all_goals (refine X.ret _ (X.done rfl ?_); cbv <;> (and_intros <;> first|exact e1|rfl|trivial))
  have f2:A.cmp .lss d2 0=false:=by rw [AE.c_lss hA]; exact decide_eq_false (by omega)
  by_cases h3:d3≤0
  rotate_left
  ·have f3:A.cmp .gtr d3 0=true:=by rw [AE.c_gtr hA]; exact decide_eq_true (by omega)
   have e1:false=r:=by rw [hI2]; exact (decide_eq_false fun h=>h3 h.2.1.2.2).symm
   clear hB
   refine X.drawX _ _ _ (by kernel_rfl) (X.frzB 1 _ _ (Nat.zero_le _) (X.frzB 2 _ _ (Nat.zero_le _) ?_))
   (repeat' (first|(refine X.g ?_; cbv)|refine X.splitT ?_|refine X.splitF ?_|refine X.sp (fun hc=>?_) (fun hc=>?_)|refine X.needT ?_|refine X.fork _ _ ?_ ?_|refine X.idx _ _ _ _ _ _ _ _ g2 hz ?_|refine X.callsGA [] k2 ?_|refine X.callsGA [] k3 ?_|refine X.callsGA [] k4 ?_|refine X.callsGA [] k5 ?_|refine X.callsGA [] k6 ?_|fail))
   all_goals (refine X.ret _ (X.done rfl ?_); cbv <;> (and_intros <;> first|exact e1|rfl|trivial))
  have f3:A.cmp .gtr d3 0=false:=by rw [AE.c_gtr hA]; exact decide_eq_false (by omega)
  have hI' : r=decide ((∀ x∈u.drop (i+1),x.Good)∧mayAll (q.drop (i+1)) (u.drop (i+1)) (ls.drop (i+1))):=by
   rw [hI2,decide_eq_decide]; exact ⟨fun h=>⟨h.1.2,h.2.2⟩,fun h=>⟨⟨rfl,h.1⟩,⟨h1,h2,h3⟩,h.2⟩⟩
  refine X.drawX _ _ _ (by kernel_rfl) (X.frzB 1 _ _ (Nat.zero_le _) (X.frzB 2 _ _ (Nat.zero_le _) ?_))
  (repeat' (first|(refine X.g ?_; cbv)|refine X.splitT ?_|refine X.splitF ?_|refine X.sp (fun hc=>?_) (fun hc=>?_)|refine X.needT ?_|refine X.fork _ _ ?_ ?_|refine X.idx _ _ _ _ _ _ _ _ g2 hz ?_|refine X.callsGA [] k2 ?_|refine X.callsGA [] k3 ?_|refine X.callsGA [] k4 ?_|refine X.callsGA [] k5 ?_|refine X.callsGA [] k6 ?_|fail))
  all_goals (refine hB hI' _ ?_; clear hB; (cbv <;> (and_intros <;> first|rfl|trivial)))
 ·have e1:true=r:=by
   rw [hI,List.drop_of_length_le (by omega),List.drop_of_length_le (l:=ls) (by omega)]
   exact (decide_eq_true ⟨fun x hx=>(by cases hx),mayAll_nil _ _⟩).symm
  (repeat' (first|(refine X.g ?_; cbv)|refine X.splitT ?_|refine X.splitF ?_|refine X.sp (fun hc=>?_) (fun hc=>?_)|refine X.needT ?_|fail))
  all_goals (refine X.ret _ (X.done rfl ?_); cbv <;> (and_intros <;> first|exact e1|rfl|trivial))
theorem refPossible_ok (a:Ar) (ha:a.le (2^28)) (q u:List Q) (hq:∀ x∈q,x.sz≤2^28) (hu:∀ x∈u,x.sz≤2^28) (hl:q.length=a.links.length) (hul:u.length<2^40) (eq eu:List (List AE.AV)) (heq:eq=lsAv Q.c q) (heu:eu=lsAv Q.c u) (r:Bool) (hr:r=mayB a q u):AE.ACallG GG Tryz.prog 131 [] [.a a.c,.l 3 eq,.l 3 eu] [] (.b r):=by
 obtain ⟨gd,hgd⟩:∃ b,b=decide (∀ x∈u,x.Good):=⟨_,rfl⟩
 have k0:=refGood_ok u (fun x hx=>by have:=hu x hx; omega) hul eu heu gd hgd
 obtain ⟨_,_,hk,hkl⟩:=ha
 rw [mayB] at hr
 obtain ⟨nm,bs,ls⟩:=a
 simp only at hk hkl hl hr
 obtain ⟨el,hel⟩:∃ es,es=lsAv Lk.c ls:=⟨_,rfl⟩
 simp only [Ar.c,← hel]
 refine AE.ACallG.of_walk (fn:=Tryz.f131) (c:=bodyOf Tryz.f131) GG_stays tabOK Tryz.func131 rfl rfl mixed fun A hA X=>?_
 have l1:A.llen el=(ls.length:Int):=by rw [llen hA,hel,lsAv_len]
 have l2:A.llen eu=(u.length:Int):=by rw [llen hA,heu,lsAv_len]
 have n1:A.bnot true=false:=by rw [AE.c_not hA]; rfl
 have n2:A.bnot false=true:=by rw [AE.c_not hA]; rfl
 by_cases h0:u.length=ls.length
 rotate_left
 ·have c1:A.cmp .neq (A.llen eu) (A.llen el)=true:=by rw [AE.c_neq hA,l1,l2,decide_eq_false (by omega)]; rfl
  have e1:false=r:=by rw [hr]; exact (decide_eq_false fun h=>h0 h.1).symm
  (repeat' (first|(refine X.g ?_; cbv)|refine X.splitT ?_|refine X.splitF ?_|refine X.sp (fun hc=>?_) (fun hc=>?_)|refine X.needT ?_|fail))
  all_goals (refine X.ret _ (X.done rfl ?_); cbv <;> (and_intros <;> first|exact e1|rfl|trivial))
 have c1:A.cmp .neq (A.llen eu) (A.llen el)=false:=by rw [AE.c_neq hA,l1,l2,h0]; simp
 clear l1 l2
 cases gd
 ·have e1:false=r:=by rw [hr]; exact (decide_eq_false fun h=>of_decide_eq_false hgd.symm h.2.1).symm
  (repeat' (first|(refine X.g ?_; cbv)|refine X.splitT ?_|refine X.splitF ?_|refine X.sp (fun hc=>?_) (fun hc=>?_)|refine X.needT ?_|refine X.callsGA [] k0 ?_|fail))
  all_goals (refine X.ret _ (X.done rfl ?_); cbv <;> (and_intros <;> first|exact e1|rfl|trivial))
 have hgd:=of_decide_eq_true hgd.symm
 have hr:r=decide (mayAll (q.drop 0) (u.drop 0) (ls.drop 0)):=by
  rw [hr,decide_eq_decide]; exact ⟨fun h=>h.2.2,fun h=>⟨h0,hgd,h⟩⟩
 (repeat' (first|(refine X.g ?_; cbv)|refine X.splitT ?_|refine X.splitF ?_|refine X.sp (fun hc=>?_) (fun hc=>?_)|refine X.needT ?_|refine X.callsGA [] k0 ?_|fail))
 refine X.loopG _ _ _ (X.frzB 0 _ _ (Nat.zero_le _) ?_)
 (refine X.g ?_; cbv)
 refine rangeL0 X hA hel (by omega) (fun i=>r=decide (mayAll (q.drop i) (u.drop i) (ls.drop i))) (fun z _=>[(24,.v (.int .i64 z))]) hr ?_ (fun i z y hz hy hye c9 hI B hB=>?_) (fun z c9 hI B=>?_)
 ·(cbv <;> (and_intros <;> first|rfl|trivial))
 ·have hi:=(List.getElem?_eq_some_iff.1 hy).1
  obtain ⟨_,z2,z3,z4,_⟩:=hk y (List.mem_of_getElem? hy)
  obtain ⟨ui,hui⟩:∃ x,u[i]? = some x:=⟨_,List.getElem?_eq_getElem (by omega)⟩
  obtain ⟨qi,hqi⟩:∃ x,q[i]? = some x:=⟨_,List.getElem?_eq_getElem (by omega)⟩
  have zu:=hu ui (List.mem_of_getElem? hui)
  have zq:=hq qi (List.mem_of_getElem? hqi)
  obtain ⟨to,hto⟩:∃ x,x=Q.of (qi.v+ui.v):=⟨_,rfl⟩
  obtain ⟨ab,hab⟩:∃ x,x=Q.of (absR ui.v):=⟨_,rfl⟩
  have b1:=rs_add qi.v ui.v
  have b2:=qi.rs
  have b3:=ui.rs
  have sto:to.sz≤2^30:=by rw [hto,sz_of]; omega
  have sab:ab.sz≤2^30:=by rw [hab,sz_of,rs_abs]; omega
  obtain ⟨d1,hd1⟩:∃ c,c=cmpR ab.v y.speed.v:=⟨_,rfl⟩
  obtain ⟨d2,hd2⟩:∃ c,c=cmpR y.low.v to.v:=⟨_,rfl⟩
  obtain ⟨d3,hd3⟩:∃ c,c=cmpR to.v y.high.v:=⟨_,rfl⟩
  have k1:=ratAdd_ok qi ui (by omega) (by omega) to hto
  have k3:=ratAbs_ok ui (by omega) ab hab
  have k4:=ratCmp_ok ab y.speed (by omega) (by omega) d1 hd1
  have k5:=ratCmp_ok y.low to (by omega) (by omega) d2 hd2
  have k6:=ratCmp_ok to y.high (by omega) (by omega) d3 hd3
  have g1:eq[i]? = some qi.c:=by rw [heq]; exact lsAv_get hqi
  have g2:eu[i]? = some ui.c:=by rw [heu]; exact lsAv_get hui
  have t1:d1≤0↔absR ui.v≤y.speed.v:=by rw [hd1,cmpR_le,hab,Q.v_of]
  have t2:d2≤0↔y.low.v≤qi.v+ui.v:=by rw [hd2,cmpR_le,hto,Q.v_of]
  have t3:d3≤0↔qi.v+ui.v≤y.high.v:=by rw [hd3,cmpR_le,hto,Q.v_of]
  have hI2:r=decide ((d1≤0∧d2≤0∧d3≤0)∧mayAll (q.drop (i+1)) (u.drop (i+1)) (ls.drop (i+1))):=by
   rw [hI,decide_eq_decide,mayAll_drop hqi hui hy,t1,t2,t3]
  clear hto hab hd1 hd2 hd3 t1 t2 t3 hI k0
  (repeat' (first|(refine X.g ?_; cbv)|refine X.splitT ?_|refine X.splitF ?_|refine X.sp (fun hc=>?_) (fun hc=>?_)|refine X.needT ?_|refine X.idx _ _ _ _ _ _ _ _ hye hz ?_|fail))
  apply shareG X
  ·intro hs
   refine X.drawX _ _ _ (by kernel_rfl) ?_
   (repeat' (first|(refine X.g ?_; cbv)|refine X.splitT ?_|refine X.splitF ?_|refine X.sp (fun hc=>?_) (fun hc=>?_)|refine X.needT ?_|refine X.fork _ _ ?_ ?_|refine X.idx _ _ _ _ _ _ _ _ g1 hz ?_|refine X.idx _ _ _ _ _ _ _ _ g2 hz ?_|refine X.callsGA [] k1 ?_|fail))
   all_goals exact hs
  clear k1
  by_cases h1:d1≤0
  rotate_left
  ·have f1:A.cmp .gtr d1 0=true:=by rw [AE.c_gtr hA]; exact decide_eq_true (by omega)
   have e1:false=r:=by rw [hI2]; exact (decide_eq_false fun h=>h1 h.1.1).symm
   clear hB
   refine X.drawX _ _ _ (by kernel_rfl) (X.frzB 1 _ _ (Nat.zero_le _) (X.frzB 2 _ _ (Nat.zero_le _) ?_))
   (repeat' (first|(refine X.g ?_; cbv)|refine X.splitT ?_|refine X.splitF ?_|refine X.sp (fun hc=>?_) (fun hc=>?_)|refine X.needT ?_|refine X.fork _ _ ?_ ?_|refine X.idx _ _ _ _ _ _ _ _ g2 hz ?_|refine X.callsGA [] k3 ?_|refine X.callsGA [] k4 ?_|fail))
   all_goals (refine X.ret _ (X.done rfl ?_); cbv <;> (and_intros <;> first|exact e1|rfl|trivial))
  have f1:A.cmp .gtr d1 0=false:=by rw [AE.c_gtr hA]; exact decide_eq_false (by omega)
  by_cases h2:d2≤0
  rotate_left
  ·have f2:A.cmp .gtr d2 0=true:=by rw [AE.c_gtr hA]; exact decide_eq_true (by omega)
   have e1:false=r:=by rw [hI2]; exact (decide_eq_false fun h=>h2 h.1.2.1).symm
   clear hB
   refine X.drawX _ _ _ (by kernel_rfl) (X.frzB 1 _ _ (Nat.zero_le _) (X.frzB 2 _ _ (Nat.zero_le _) ?_))
   (repeat' (first|(refine X.g ?_; cbv)|refine X.splitT ?_|refine X.splitF ?_|refine X.sp (fun hc=>?_) (fun hc=>?_)|refine X.needT ?_|refine X.fork _ _ ?_ ?_|refine X.idx _ _ _ _ _ _ _ _ g2 hz ?_|refine X.callsGA [] k3 ?_|refine X.callsGA [] k4 ?_|refine X.callsGA [] k5 ?_|fail))
   all_goals (refine X.ret _ (X.done rfl ?_); cbv <;> (and_intros <;> first|exact e1|rfl|trivial))
  have f2:A.cmp .gtr d2 0=false:=by rw [AE.c_gtr hA]; exact decide_eq_false (by omega)
  by_cases h3:d3≤0
  rotate_left
  ·have f3:A.cmp .gtr d3 0=true:=by rw [AE.c_gtr hA]; exact decide_eq_true (by omega)
   have e1:false=r:=by rw [hI2]; exact (decide_eq_false fun h=>h3 h.1.2.2).symm
   clear hB
   refine X.drawX _ _ _ (by kernel_rfl) (X.frzB 1 _ _ (Nat.zero_le _) (X.frzB 2 _ _ (Nat.zero_le _) ?_))
   (repeat' (first|(refine X.g ?_; cbv)|refine X.splitT ?_|refine X.splitF ?_|refine X.sp (fun hc=>?_) (fun hc=>?_)|refine X.needT ?_|refine X.fork _ _ ?_ ?_|refine X.idx _ _ _ _ _ _ _ _ g2 hz ?_|refine X.callsGA [] k3 ?_|refine X.callsGA [] k4 ?_|refine X.callsGA [] k5 ?_|refine X.callsGA [] k6 ?_|fail))
   all_goals (refine X.ret _ (X.done rfl ?_); cbv <;> (and_intros <;> first|exact e1|rfl|trivial))
  have f3:A.cmp .gtr d3 0=false:=by rw [AE.c_gtr hA]; exact decide_eq_false (by omega)
  have hI' : r=decide (mayAll (q.drop (i+1)) (u.drop (i+1)) (ls.drop (i+1))):=by
   rw [hI2,decide_eq_decide]; exact ⟨fun h=>h.2,fun h=>⟨⟨h1,h2,h3⟩,h⟩⟩
  refine X.drawX _ _ _ (by kernel_rfl) (X.frzB 1 _ _ (Nat.zero_le _) (X.frzB 2 _ _ (Nat.zero_le _) ?_))
  (repeat' (first|(refine X.g ?_; cbv)|refine X.splitT ?_|refine X.splitF ?_|refine X.sp (fun hc=>?_) (fun hc=>?_)|refine X.needT ?_|refine X.fork _ _ ?_ ?_|refine X.idx _ _ _ _ _ _ _ _ g2 hz ?_|refine X.callsGA [] k3 ?_|refine X.callsGA [] k4 ?_|refine X.callsGA [] k5 ?_|refine X.callsGA [] k6 ?_|fail))
  all_goals (refine hB hI' _ ?_; clear hB; (cbv <;> (and_intros <;> first|rfl|trivial)))
 ·have e1:true=r:=by
   rw [hI,List.drop_of_length_le (by omega),List.drop_of_length_le (l:=ls) (by omega)]
   exact (decide_eq_true (mayAll_nil _ _)).symm
  (repeat' (first|(refine X.g ?_; cbv)|refine X.splitT ?_|refine X.splitF ?_|refine X.sp (fun hc=>?_) (fun hc=>?_)|refine X.needT ?_|fail))
  all_goals (refine X.ret _ (X.done rfl ?_); cbv <;> (and_intros <;> first|exact e1|rfl|trivial))
def oneA (a:Ar) (x:As) (u:List Q) (pw:Bool):As:=if pw=true∧mayB a x.q u=true then ⟨addQ x.q u,u,true,x.holds⟩ else brakedA a x
theorem moveOne_ok (a:Ar) (x:As) (h:BrakeOK a x.q x.v) (u:List Q) (hu:∀ y∈u,y.sz≤2^28) (hul:u.length<2^40) (eu:List (List AE.AV)) (heu:eu=lsAv Q.c u) (pw:Bool) (r:As) (hr:r=oneA a x u pw):AE.ACallG GG Tryz.prog 93 [] [.a a.c,.a x.c,.l 3 eu,.b pw] [] (.t [.a r.c,.v (.int .i64 0)]):=by
 have n3:=(armC_zero h.ok).2.2.1
 obtain ⟨xq,xv,xp,xh⟩:=x
 simp only at h
 rw [oneA] at hr
 simp only at hr
 obtain ⟨eq,heq⟩:∃ es,es=lsAv Q.c xq:=⟨_,rfl⟩
 obtain ⟨ev,hev⟩:∃ es,es=lsAv Q.c xv:=⟨_,rfl⟩
 obtain ⟨m,hm⟩:∃ b,b=mayB a xq u:=⟨_,rfl⟩
 have k1:=moveMay_ok a h.le xq u h.qs hu h.ql eq eu heq heu m hm
 by_cases hpm:pw=true∧m=true
 rotate_left
 ·rw [← hm,if_neg hpm] at hr
  obtain ⟨nv,hnv⟩:∃ es,es=lsAv Q.c (brakedV a xv):=⟨_,rfl⟩
  obtain ⟨nq,hnq⟩:∃ es,es=lsAv Q.c (addQ xq (brakedV a xv)):=⟨_,rfl⟩
  have k2:=stopBrake_ok a xq xv h xp xh eq ev nv nq heq hev hnv hnq
  have hrc:r.c=[.l 3 nq,.l 3 nv,.b false,.v (.int .i64 xh)]:=by rw [hr,brakedA,As.c,hnq,hnv]
  rw [hrc]
  clear hr hrc hm h n3
  obtain ⟨nm,bs,ls⟩:=a
  obtain ⟨el,hel⟩:∃ es,es=lsAv Lk.c ls:=⟨_,rfl⟩
  simp only [Ar.c,As.c,← hel,← heq,← hev] at k1 k2 ⊢
  clear hel heq hev hnv hnq heu
  cases pw
  ·refine AE.ACallG.of_walk (fn:=Tryz.f93) (c:=bodyOf Tryz.f93) GG_stays tabOK Tryz.func93 rfl rfl mixed fun A hA X=>?_
   have n2:A.bnot false=true:=by rw [AE.c_not hA]; rfl
   (repeat' (first|(refine X.g ?_; cbv)|refine X.splitT ?_|refine X.splitF ?_|refine X.sp (fun hc=>?_) (fun hc=>?_)|refine X.needT ?_|refine X.callsGA [] k2 ?_|refine X.drawX _ _ _ (by kernel_rfl) (X.frzB 1 _ _ (Nat.zero_le _) ?_)|refine X.fork _ _ ?_ ?_|fail))
   all_goals (refine X.ret _ (X.done rfl ?_); cbv <;> (and_intros <;> first|rfl|trivial))
  ·have hm0:m=false:=by cases m; rfl; exact absurd ⟨rfl,rfl⟩ hpm
   subst hm0
   refine AE.ACallG.of_walk (fn:=Tryz.f93) (c:=bodyOf Tryz.f93) GG_stays tabOK Tryz.func93 rfl rfl mixed fun A hA X=>?_
   have n1:A.bnot true=false:=by rw [AE.c_not hA]; rfl
   have n2:A.bnot false=true:=by rw [AE.c_not hA]; rfl
   (repeat' (first|(refine X.g ?_; cbv)|refine X.splitT ?_|refine X.splitF ?_|refine X.sp (fun hc=>?_) (fun hc=>?_)|refine X.needT ?_|refine X.callsGA [] k1 ?_|refine X.callsGA [] k2 ?_|refine X.drawX _ _ _ (by kernel_rfl) (X.frzB 1 _ _ (Nat.zero_le _) ?_)|refine X.fork _ _ ?_ ?_|fail))
   all_goals (refine X.ret _ (X.done rfl ?_); cbv <;> (and_intros <;> first|rfl|trivial))
 ·obtain ⟨rfl,rfl⟩:=hpm
  rw [← hm,if_pos ⟨rfl,rfl⟩] at hr
  have hul2:u.length=a.links.length:=(of_decide_eq_true hm.symm).1
  have k2:=cloneRat_ok eu (by rw [heu,lsAv_len]; omega)
  have hql:=h.ql
  have hqs:=h.qs
  obtain ⟨bq,hbq⟩:∃ l,l=addQ xq u:=⟨_,rfl⟩
  have lbq:bq.length=a.links.length:=by rw [hbq]; exact addQ_len hql hul2
  obtain ⟨gQ,hgQ⟩:∃ g:Nat→List (List AE.AV),∀ i,g i=lsAv Q.c (bq.take i):=⟨_,fun _=>rfl⟩
  have hQ0:[]=gQ 0:=by rw [hgQ]; exact (lsAv_nil _).symm
  obtain ⟨nq,hnq⟩:∃ es,es=lsAv Q.c bq:=⟨_,rfl⟩
  have hQn:gQ xq.length=nq:=by rw [hgQ,hnq,List.take_of_length_le (by omega)]
  have hrc:r.c=[.l 3 nq,.l 3 eu,.b true,.v (.int .i64 xh)]:=by rw [hr,As.c,hnq,heu,hbq]
  rw [hrc]
  clear hr hrc hm h
  have hbq:bq=List.zipWith (fun q u=>Q.of (q.v+u.v)) xq u:=hbq
  obtain ⟨nm,bs,ls⟩:=a
  simp only at lbq hul2 hql n3
  obtain ⟨el,hel⟩:∃ es,es=lsAv Lk.c ls:=⟨_,rfl⟩
  simp only [Ar.c,As.c,← hel,← heq,← hev] at k1 ⊢
  clear hel hev hnq
  refine AE.ACallG.of_walk (fn:=Tryz.f93) (c:=bodyOf Tryz.f93) GG_stays tabOK Tryz.func93 rfl rfl mixed fun A hA X=>?_
  have n1:A.bnot true=false:=by rw [AE.c_not hA]; rfl
  (refine X.g ?_; cbv)
  apply shareG X
  ·intro hs
   (repeat' (first|(refine X.g ?_; cbv)|refine X.splitT ?_|refine X.splitF ?_|refine X.sp (fun hc=>?_) (fun hc=>?_)|refine X.needT ?_|refine X.callsGA [] k1 ?_|refine X.drawX _ _ _ (by kernel_rfl) (X.frzB 1 _ _ (Nat.zero_le _) ?_)|refine X.fork _ _ ?_ ?_|refine X.callsA [] k2 ?_|fail))
   all_goals exact hs
  refine X.loopG _ _ _ (X.frzB 0 _ _ (Nat.zero_le _) (X.nilB 3 0 29 3 _ _ ?_))
  (refine X.g ?_; cbv)
  refine rangeLS X hA heq (by omega) (fun _=>True) (fun z _=>[(45,.v (.int .i64 z))]) (fun i o=>o.set 4 (.row 29 3 (gQ i))) trivial ?_ (fun i z y hz hy hye c9 hI B hB=>?_) (fun z c9 hI B=>?_)
  ·clear k1 k2
   (cbv <;> (and_intros <;> first|exact hQ0|rfl|trivial))
  ·have hi:=(List.getElem?_eq_some_iff.1 hy).1
   obtain ⟨ui,hui⟩:∃ x,u[i]? = some x:=⟨_,List.getElem?_eq_getElem (by omega)⟩
   have zu:=hu ui (List.mem_of_getElem? hui)
   have zq:=hqs y (List.mem_of_getElem? hy)
   obtain ⟨nq', hnq'⟩:∃ r,r=Q.of (y.v+ui.v):=⟨_,rfl⟩
   have k3:=ratAdd_ok y ui (by omega) (by omega) nq' hnq'
   have hbqi:bq[i]? = some nq' := by rw [hbq,hnq']; exact zip_get hy hui
   have eQ:A.lapp (gQ i) [nq'.c]=gQ (i+1):=lapp_take hA hbqi (hgQ i) (hgQ (i+1))
   have g2:eu[i]? = some ui.c:=by rw [heu]; exact lsAv_get hui
   have hgrow:∀ c,AE.GrowR (A.llen (gQ i)) (A.llen [c]) 40:=fun c=>grow1 hA (n:=8) (by rw [hgQ,lsAv_len,List.length_take]; omega) (by decide) (by decide)
   clear k1 k2 hnq' hbqi hQ0 hQn hbq
   (repeat' (first|(refine X.g ?_; cbv)|refine X.splitT ?_|refine X.splitF ?_|refine X.sp (fun hc=>?_) (fun hc=>?_)|refine X.needT ?_|refine X.idx _ _ _ _ _ _ _ _ hye hz ?_|fail))
   apply shareG X
   ·intro hs
    refine X.drawX _ _ _ (by kernel_rfl) (X.frzB 5 _ _ (Nat.zero_le _) ?_)
    (repeat' (first|(refine X.g ?_; cbv)|refine X.splitT ?_|refine X.splitF ?_|refine X.sp (fun hc=>?_) (fun hc=>?_)|refine X.needT ?_|refine X.fork _ _ ?_ ?_|refine X.idx _ _ _ _ _ _ _ _ g2 hz ?_|refine X.callsGA [] k3 ?_|refine X.need _ _ _ (hgrow _) ?_|fail))
    all_goals exact hs
   all_goals (refine hB trivial _ ?_; clear hB; (cbv <;> (and_intros <;> first|exact eQ|rfl|trivial)))
  ·clear k1 k2
   rw [hQn]
   (repeat' (first|(refine X.g ?_; cbv)|refine X.splitT ?_|refine X.splitF ?_|refine X.sp (fun hc=>?_) (fun hc=>?_)|refine X.needT ?_|fail))
   all_goals (refine X.ret _ (X.frz 4 _ _ (X.done rfl ?_)); cbv <;> (and_intros <;> first|rfl|trivial))
end Go.Proofs.YthadehkggddgoaaGreatDoor
end
