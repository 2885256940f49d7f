/- Plain laws: in a valid state of a small bulk all tips can be reckoned; how large a state is when a part was taken or put down. Contract: the law MoveTakes. -/
import Derived.Test.YthadehkggddgoaaGreatDoorZTakeB
import Derived.Test.YthadehkggddgoaaGreatDoorZFitT
import Derived.Test.YthadehkggddgoaaGreatDoorZTakeR
import Derived.Test.YthadehkggddgoaaGreatDoorZLawMG
section
set_option linter.unusedVariables false
set_option linter.unusedSimpArgs false
namespace Go.Proofs.YthadehkggddgoaaGreatDoor
open Go Go.Num
theorem oneC_zero {a:Ar} {x:As} {n:Int} (h:oneC a x n = 0):(∀ q ∈ x.q,q.Good) ∧ (∀ q ∈ x.v,q.Good) ∧ fitsC a x.q = 0 ∧ (x.v.length:Int) = a.links.length ∧ -1 ≤ x.holds ∧ x.holds < n ∧ slowE x.v a.links:=by
 rw [oneC,oneI] at h
 split at h
 ·omega
 ·rename_i h1
  split at h
  ·rename_i h2; exact absurd h h2
  ·rename_i h2
   split at h
   ·omega
   ·rename_i h3
    refine ⟨?_,?_,Classical.not_not.1 h2,by omega,by omega,by omega,?_⟩
    ·exact Classical.byContradiction fun hn=>h1 (.inl (decide_eq_false hn))
    ·exact Classical.byContradiction fun hn=>h1 (.inr (decide_eq_false hn))
    ·exact Classical.byContradiction fun hn=>by rw [if_neg hn] at h; omega
theorem fitsC_zero {a:Ar} {q:List Q} (h:fitsC a q = 0):q.length = a.links.length ∧ allBetween q a.links:=by
 rw [fitsC] at h
 split at h
 ·rename_i h1; exact absurd h h1
 ·rename_i h1
  have h1:=Classical.not_not.1 h1
  refine ⟨?_,Classical.byContradiction fun hn=>by rw [if_neg hn] at h; omega⟩
  rw [hasI] at h1
  split at h1
  ·omega
  ·split at h1
   ·omega
   ·omega
theorem armsC_get {n:Int}:∀ {bs:List Ar} {xs:List As} {hs:List Int},armsC n hs bs xs = 0 → ∀ (i:Nat) a x,bs[i]? = some a → xs[i]? = some x → oneC a x n = 0
 | [],_,_,_,i,a,x,h1,_=>by simp at h1
 | _ :: _,[],_,_,i,a,x,_,h2=>by simp at h2
 | b :: bs,y :: xs,hs,h,i,a,x,h1,h2=>by
  rw [armsC] at h
  split at h
  ·rename_i h3; exact absurd h h3
  ·rename_i h3
   split at h
   ·omega
   ·cases i with
    | zero=>simp at h1 h2; subst h1; subst h2; exact Classical.not_not.1 h3
    | succ i=>exact armsC_get h i a x (by simpa using h1) (by simpa using h2)
theorem stateE_arms {w:Wk} {s:Ss} (h:stateC w s = 0):armsC w.parts.length [] w.arms s.arms = 0:=by
 have h:=(stateC_opens h).2.2.2.2.2.1
 rw [stateE] at h
 split at h
 ·rename_i h1; exact absurd h h1
 ·rename_i h1; exact Classical.not_not.1 h1
theorem stateC_one {w:Wk} {s:Ss} (h:stateC w s = 0) {i:Nat} {a:Ar} {x:As} (h1:w.arms[i]? = some a) (h2:s.arms[i]? = some x):oneC a x w.parts.length = 0:=armsC_get (stateE_arms h) i a x h1 h2
theorem sum_sz:∀ l:List Q,(l.map Q.sz).sum ≤ (l.map Q.wt).sum
 | []=>Nat.le_refl _
 | q :: l=>by
  have:=sum_sz l
  have:=q.sz_wt
  simp only [List.map_cons,List.sum_cons]; omega
theorem tips_wt (w:Wk) (s:Ss) (h1:w.wt ≤ 1048576) (h2:s.wt ≤ 1048576) (h0:stateC w s = 0):Tips w s:=by
 have hw:=worksC_zero (stateC_opens h0).2.2.2.2.1
 have hle:=w.le_wt h1 (by decide)
 obtain ⟨w1,_,w3,w4,_,_⟩:=w.parts_wt h1
 obtain ⟨s1,s2,_,_⟩:=s.parts_wt h2
 refine ⟨fun i a x ha hx=>?_,fun i p f hp hf=>?_⟩
 ·have ok:=hw.arms a (List.mem_of_getElem? ha)
  obtain ⟨k1,_,_,_,k5,_⟩:=armC_zero ok
  simp only [List.mem_cons,List.not_mem_nil,or_false,forall_eq_or_imp,forall_eq] at k5
  obtain ⟨k5,k6,k7⟩:=k5
  have h5:=lw_mem (ρ:=As.wt) (List.mem_of_getElem? hx)
  have h6:lw Q.wt x.q ≤ 1048576:=by simp only [As.wt] at h5; omega
  have one:=oneC_zero (stateC_one h0 ha hx)
  have z5:=k5.size; have z6:=k6.size; have z7:=k7.size
  refine ⟨hle.arms a (List.mem_of_getElem? ha),ok,(fitsC_zero one.2.2.1).1,fun q hq=>?_,?_,?_,fun k hk=>?_,?_⟩
  ·have:=lw_mem (ρ:=Q.wt) hq
   have:=q.sz_wt
   omega
  ·simp only [Q.sz]; omega
  ·simp only [V2.sz,Q.sz]; omega
  ·have:=(linkC_zero (k1 k hk)).1.size
   simp only [Q.sz]; omega
  ·rw [sumQ,List.take_length]
   have:=sum_sz x.q
   simp only [lw] at h6
   omega
 ·have h5:=lw_mem (ρ:=Pt.wt) (List.mem_of_getElem? hp)
  have h6:=lw_mem (ρ:=Fr.wt) (List.mem_of_getElem? hf)
  simp only [Pt.wt] at h5
  exact ⟨p.grasp.le_wt (by omega),f.le_wt (by omega)⟩
theorem lw_set {α : Type} (ρ : α → Nat):∀ (l:List α) (i:Nat) (x:α),lw ρ (l.set i x) ≤ lw ρ l + ρ x
 | [],i,x=>by simp [lw]
 | y :: l,0,x=>by simp only [List.set_cons_zero,lw,List.map_cons,List.sum_cons]; omega
 | y :: l,i + 1,x=>by
  have:=lw_set ρ l i x
  simp only [List.set_cons_succ,lw,List.map_cons,List.sum_cons] at *; omega
theorem Q.wt_sz (q:Q):q.wt ≤ 1 + 2 * q.sz:=by simp only [Q.wt,Q.sz]; omega
theorem Fr.wt_le {f:Fr} {n:Nat} (h:f.le n):f.wt ≤ 3 * (1 + 2 * n):=by
 obtain ⟨h1,h2⟩:=h
 simp only [V2.sz] at h1
 have:=f.at_.x.wt_sz; have:=f.at_.y.wt_sz; have:=f.turn.t.wt_sz
 simp only [Fr.wt,V2.wt,Tn.wt]; omega
theorem held_le {a:Ar} {q:List Q} {p:Pt} (h:TipOK a q) (hg:p.grasp.le (2 ^ 20)):(heldF a q p).le (2 ^ 30):=by
 have h1:=h.tip_le
 have h2:=back_le hg
 refine ⟨?_,?_⟩
 ·show (V2.of _).sz ≤ _
  rw [V2.sz_of]
  have h3:=put_rs (tipF a q) p.grasp.back.at_.v
  have h4:=p.grasp.back.at_.rs
  have:=h1.1; have:=h1.2; have:=h2.1
  omega
 ·have h3:=thenT_sz (tipF a q).turn p.grasp.back.turn
  have:=h1.2; have:=h2.2
  show (thenT _ _).t.sz ≤ _
  omega
theorem asAt_wt (s:Ss) (n:Int):(asAt s n).wt ≤ lw As.wt s.arms + 2:=by
 rw [asAt,List.getD_eq_getElem?_getD]
 cases h:s.arms[n.toNat]? with
 | none=>show 0 + 1 + (0 + 1) ≤ _; omega
 | some x=>have:=lw_mem (ρ:=As.wt) (List.mem_of_getElem? h); show x.wt ≤ _; omega
theorem holding_wt (s:Ss) (n h:Int):(s.holding n.toNat h).wt ≤ 2 * s.wt + 2:=by
 have h1:=asAt_wt s n
 have h2:=lw_set As.wt s.arms n.toNat { asAt s n with holds:=h }
 have h3:As.wt { asAt s n with holds:=h } = (asAt s n).wt:=rfl
 show lw As.wt (s.arms.set n.toNat { asAt s n with holds:=h }) + lw Fr.wt s.parts + lw V2.wt s.people + lw (fun _:Bool=>1) s.opens ≤ 2 * (lw As.wt s.arms + lw Fr.wt s.parts + lw V2.wt s.people + lw (fun _:Bool=>1) s.opens) + 2
 omega
theorem holding_ints {s:Ss} (hi:s.ints) (n:Int) {h:Int} (hh:I64 h):(s.holding n.toNat h).ints:=by
 refine ⟨hi.1,fun x hx=>?_⟩
 have hx:x ∈ s.arms.set n.toNat { asAt s n with holds:=h }:=hx
 rcases List.mem_or_eq_of_mem_set hx with hx|rfl
 ·exact hi.2 x hx
 ·exact hh
theorem holding_fit {s:Ss} (h:s.wt ≤ 1048576) (hi:s.ints) (n:Int) {k:Int} (hk:I64 k):(s.holding n.toNat k).few ∧ (s.holding n.toNat k).S.size < 2 ^ 60 ∧ (s.holding n.toNat k).Short:=by
 have h1:=holding_wt s n k
 have h2:=(s.holding n.toNat k).S_size
 exact ⟨(s.holding n.toNat k).fewI_wt (n:=2 ^ 25) (by omega) (by decide) (holding_ints hi n hk),by omega,((s.holding n.toNat k).few_wt (n:=2 ^ 25) (by omega) (by decide)).short⟩
theorem taken_fit {w:Wk} {s:Ss} (hw:w.wt ≤ 1048576) (h:s.wt ≤ 1048576) (hi:s.ints) (n p:Int) (h0:stateC w s = 0) (h1:0 ≤ n) (h2:n < w.arms.length) (h3:0 ≤ p) (h4:p < w.parts.length):(s.taken w n p).few ∧ (s.taken w n p).S.size < 2 ^ 60 ∧ (s.taken w n p).Short:=by
 have hT:=tips_wt w s hw h h0
 obtain ⟨_,_,gx,gp,gw,_⟩:=stateC_opens h0
 have np:=(worksC_zero gw).nparts
 have hga:w.arms[n.toNat]? = some (arAt w n):=getD_some (by omega) _
 have hgx:s.arms[n.toNat]? = some (asAt s n):=getD_some (by omega) _
 have hgp:w.parts[p.toNat]? = some (partAt w p):=getD_some (by omega) _
 have hgf:s.parts[p.toNat]? = some (frAt s p):=getD_some (by omega) _
 have tipk:=hT.tip _ _ _ hga hgx
 obtain ⟨zg,_⟩:=hT.part _ _ _ hgp hgf
 have hl:=Fr.wt_le (held_le tipk zg)
 have g1:=holding_wt s n p
 have g2:=lw_set Fr.wt s.parts p.toNat (heldF (arAt w n) (asAt s n).q (partAt w p))
 have g3:(s.taken w n p).wt ≤ 2 ^ 34:=by
  have e1:(s.taken w n p).wt = lw As.wt (s.holding n.toNat p).arms + lw Fr.wt (s.parts.set p.toNat (heldF (arAt w n) (asAt s n).q (partAt w p))) + lw V2.wt s.people + lw (fun _:Bool=>1) s.opens:=rfl
  have e2:(s.holding n.toNat p).wt = lw As.wt (s.holding n.toNat p).arms + lw Fr.wt s.parts + lw V2.wt s.people + lw (fun _:Bool=>1) s.opens:=rfl
  omega
 have g4:=(s.taken w n p).S_size
 have hk:I64 p:=by unfold I64; omega
 refine ⟨(s.taken w n p).fewI_wt (n:=2 ^ 34) g3 (by decide) (holding_ints hi n hk),by omega,?_⟩
 obtain ⟨f1,f2,f3,f4,f5⟩:=(holding_fit h hi n hk).2.2
 refine ⟨f1,f2,?_,f4,f5⟩
 have:(s.taken w n p).parts.length = (s.holding n.toNat p).parts.length:=by
  show (s.parts.set _ _).length = s.parts.length
  rw [List.length_set]
 rw [this]; exact f3
end Go.Proofs.YthadehkggddgoaaGreatDoor
end
section
set_option maxRecDepth 100000
set_option maxHeartbeats 0
set_option linter.unusedVariables false
set_option linter.unusedSimpArgs false
namespace Go.Proofs.YthadehkggddgoaaGreatDoor
open Go Go.Num
theorem takeC_bad {w:Wk} {s:Ss} {n p:Int} (hb:readyC w s n ≠ 0 ∨ p < 0 ∨ (w.parts.length:Int) ≤ p ∨ 0 ≤ (asAt s n).holds ∨ hasPart s p = true):takeC w s n p ≠ 0:=by
 rw [takeC,takeI]
 split
 ·assumption
 ·rename_i h1
  split
  ·decide
  ·rename_i h2
   rw [if_pos]
   ·decide
   ·rcases hb with h|h|h|h|h
    ·exact absurd h h1
    ·omega
    ·omega
    ·exact .inl h
    ·exact .inr h
theorem takeC_all {w:Wk} {s:Ss} {n p:Int} (hb:¬ (readyC w s n ≠ 0 ∨ p < 0 ∨ (w.parts.length:Int) ≤ p ∨ 0 ≤ (asAt s n).holds ∨ hasPart s p = true)):readyC w s n = 0 ∧ 0 ≤ p ∧ p < (w.parts.length:Int) ∧ (asAt s n).holds < 0 ∧ hasPart s p = false:=by
 refine ⟨Classical.not_not.1 fun h=>hb (.inl h),Int.not_lt.1 fun h=>hb (.inr (.inl h)),Int.not_le.1 fun h=>hb (.inr (.inr (.inl h))),Int.not_le.1 fun h=>hb (.inr (.inr (.inr (.inl h)))),?_⟩
 cases h:hasPart s p
 ·rfl
 ·exact absurd (.inr (.inr (.inr (.inr h)))) hb
theorem moveTake_ok (w:Wk) (hw:w.Le) (s:Ss) (hs:s.Le) (hf:s.Few) (hT:stateC w s = 0 → Tips w s) (n p:Int) (e:Int) (he:e = takeC w s n p) (r:Ss) (hr:r = if e ≠ 0 then Ss.nil else s.taken w n p):AE.ACallG GG Tryz.prog 40 [] [.a w.c,.a s.c,.v (.int .i64 n),.v (.int .i64 p)] [] (.t [.a r.c,.v (.int .i64 e)]):=by
 by_cases hb:readyC w s n ≠ 0 ∨ p < 0 ∨ (w.parts.length:Int) ≤ p ∨ 0 ≤ (asAt s n).holds ∨ hasPart s p = true
 ·rw [hr,if_pos (by rw [he]; exact takeC_bad hb)]
  exact moveTakeBad_ok w hw s hs n p _ rfl e he hb
 ·obtain ⟨h0,h1,h2,h3,h4⟩:=takeC_all hb
  exact moveTakeGood_ok w hw s hs hf (hT (ready_in h0).1) n p h0 h1 h2 h3 h4 e he r hr
theorem refTake_ok (w:Wk) (hw:w.Le) (s:Ss) (hs:s.Le) (hf:s.Few) (hT:stateC w s = 0 → Tips w s) (n p:Int) (e:Int) (he:e = takeC w s n p) (r:Ss) (hr:r = if e ≠ 0 then Ss.nil else s.taken w n p):AE.ACallG GG Tryz.prog 64 [] [.a w.c,.a s.c,.v (.int .i64 n),.v (.int .i64 p)] [] (.t [.a r.c,.v (.int .i64 e)]):=by
 by_cases hb:readyC w s n ≠ 0 ∨ p < 0 ∨ (w.parts.length:Int) ≤ p ∨ 0 ≤ (asAt s n).holds ∨ hasPart s p = true
 ·rw [hr,if_pos (by rw [he]; exact takeC_bad hb)]
  exact refTakeBad_ok w hw s hs n p _ rfl e he hb
 ·obtain ⟨h0,h1,h2,h3,h4⟩:=takeC_all hb
  exact refTakeGood_ok w hw s hs hf (hT (ready_in h0).1) n p h0 h1 h2 h3 h4 e he r hr
theorem takes1_ok (q:Q) (h:q.sz ≤ 2 ^ 34) (r:Bool) (hr:r = decide (sgnR q.v ≠ 0)):AE.ACallG GG Tryz.prog 65 [] [.a q.c] [] (.b r):=by
 refine AE.ACallG.of_walk (fn:=Tryz.f65) (c:=bodyOf Tryz.f65) GG_stays tabOK Tryz.func65 rfl rfl mixed fun A hA X=>?_
 obtain ⟨g,hg⟩:∃ g,g = sgnR q.v:=⟨_,rfl⟩
 have k1:=sign_ok q h g hg
 have e1:A.cmp .neq g 0 = r:=by rw [AE.c_neq hA,hr,hg]; simp
 (repeat' (first|(refine X.g ?_; cbv)|refine X.splitT ?_|refine X.splitF ?_|refine X.sp (fun hc=>?_) (fun hc=>?_)|refine X.callsGA [] k1 ?_|refine X.needT ?_|fail))
 all_goals (refine X.ret _ (X.done rfl ?_); cbv <;> (and_intros <;> first|exact e1|rfl|trivial))
theorem nil_few:Ss.nil.few:=⟨⟨by decide,by decide⟩,⟨by decide,fun x h=>by cases h⟩,⟨by decide,fun x h=>by cases h⟩,⟨by decide,fun x h=>by cases h⟩,⟨by decide,fun x h=>by cases h⟩⟩
theorem moveTakes_ok (w:Wk) (hw:w.Le) (s:Ss) (hs:s.Fit) (n p:Int) (hT:stateC w s = 0 → Tips w s) (hK:stateC w s = 0 → 0 ≤ n → n < w.arms.length → 0 ≤ p → p < w.parts.length → (s.taken w n p).few ∧ (s.taken w n p).S.size < 2 ^ 60 ∧ (s.taken w n p).Short) (hH:(s.holding n.toNat (-1)).few ∧ (s.holding n.toNat (-1)).S.size < 2 ^ 60 ∧ (s.holding n.toNat (-1)).Short):AE.ACallG GG Tryz.prog 12 [] [.a w.c,.a s.c,.v (.int .i64 n),.v (.int .i64 p)] [] (.b true):=by
 have kM:=moveBegun_ok
 obtain ⟨st,hst⟩:∃ e,e = stateC w s:=⟨_,rfl⟩
 have kS:=refState_ok w hw s hs.le st hst
 have kN:=sameState_ok Ss.nil Ss.nil nil_short nil_short nil_few nil_few nil_size nil_size true (by simp)
 rw [Ss.nil_c] at kN
 obtain ⟨e1,he1⟩:∃ e,e = takeC w s n p:=⟨_,rfl⟩
 obtain ⟨r1,hr1⟩:∃ r,r = if e1 ≠ 0 then Ss.nil else s.taken w n p:=⟨_,rfl⟩
 obtain ⟨e2,he2⟩:∃ e,e = putC w s n:=⟨_,rfl⟩
 obtain ⟨r2,hr2⟩:∃ r,r = if e2 ≠ 0 then Ss.nil else s.holding n.toNat (-1):=⟨_,rfl⟩
 have kT:=moveTake_ok w hw s hs.le hs.Few hT n p e1 he1 r1 hr1
 have kT2:=refTake_ok w hw s hs.le hs.Few hT n p e1 he1 r1 hr1
 have kP:=movePut_ok w hw s hs.le hs.Few n r2 e2 he2 hr2
 have f1:r1.few ∧ r1.S.size < 2 ^ 60 ∧ r1.Short:=by
  by_cases hb:readyC w s n ≠ 0 ∨ p < 0 ∨ (w.parts.length:Int) ≤ p ∨ 0 ≤ (asAt s n).holds ∨ hasPart s p = true
  ·rw [hr1,if_pos (by rw [he1]; exact takeC_bad hb)]; exact ⟨nil_few,nil_size,nil_short⟩
  ·obtain ⟨h0,h1,h2,h3,h4⟩:=takeC_all hb
   obtain ⟨g1,g2,g3,_⟩:=ready_in h0
   rw [hr1]
   split
   ·exact ⟨nil_few,nil_size,nil_short⟩
   ·exact hK g1 g2 g3 h1 h2
 have kS1:=sameState_ok r1 r1 f1.2.2 f1.2.2 f1.1 f1.1 f1.2.1 f1.2.1 true (by simp)
 have kSH:=sameState_ok (s.holding n.toNat (-1)) (s.holding n.toNat (-1)) hH.2.2 hH.2.2 hH.1 hH.1 hH.2.1 hH.2.1 true (by simp)
 have hb:e2 ≠ 0 → r2 = Ss.nil:=fun h=>by rw [hr2,if_pos h]
 have hg:e2 = 0 → r2 = s.holding n.toNat (-1):=fun h=>by rw [hr2,if_neg (fun g=>g h)]
 rw [putC,readyC,← hst] at he2
 have hal:st = 0 → s.arms.length = w.arms.length:=fun h=>(stateC_opens (h ▸ hst).symm).2.2.1
 obtain ⟨na,hna⟩:∃ k:Int,k = (w.arms.length:Int):=⟨_,rfl⟩
 rw [← hna] at he2
 have hgx:st = 0 → 0 ≤ n → n < na → ∃ i:Nat,n = i ∧ s.arms[i]? = some (asAt s n):=fun h h1 h2=>by
  have hx:=hal h
  refine ⟨n.toNat,by omega,?_⟩
  rw [asAt]
  exact getD_some (by omega) _
 obtain ⟨mv,hmv⟩:∃ b,b = movB (asAt s n):=⟨_,rfl⟩
 rw [← hmv] at he2
 have hsa:=hs.le.arms
 have kmv:st = 0 → 0 ≤ n → n < na → AE.ACallG GG Tryz.prog 47 [] [.l 3 (lsAv Q.c (asAt s n).v),.f 65 []] [] (.b mv):=fun h h1 h2=>by
  obtain ⟨i,_,hg⟩:=hgx h h1 h2
  obtain ⟨_,x2,_,x4⟩:=hsa _ (List.mem_of_getElem? hg)
  exact hasRat_ok (asAt s n).v x4 _ rfl 65 (fun q=>decide (sgnR q.v ≠ 0)) (fun y hy b hb=>takes1_ok y (by have:=x2 y hy; omega) b hb) mv hmv
 have hal2:s.arms.length ≤ 2 ^ 30:=hs.Few.arms.1
 obtain ⟨x,hx⟩:∃ x,x = asAt s n:=⟨_,rfl⟩
 rw [← hx] at he2 hgx kmv
 have hhold:∀ i:Nat,n = i → s.arms[i]? = some x → s.holding n.toNat (-1) = { s with arms:=s.arms.set i { x with holds:=-1 } }:=fun i hi hxi=>by
  have:s.arms.getD n.toNat ⟨[],[],false,-1⟩ = x:=hx.symm
  rw [Ss.holding,this,hi]; rfl
 clear hr1 hr2 he1 f1 hH hK hT hw hs hsa hmv hx hal
 obtain ⟨arms,walls,parts,slots,gates,walk⟩:=w
 obtain ⟨tick,xs,fs,ps,os⟩:=s
 simp only at hna hgx hal2 hhold
 obtain ⟨ea,hea⟩:∃ es,es = lsAv Ar.c arms:=⟨_,rfl⟩
 obtain ⟨ew,hew⟩:∃ es,es = lsAv wallC walls:=⟨_,rfl⟩
 obtain ⟨ep,hep⟩:∃ es,es = lsAv Pt.c parts:=⟨_,rfl⟩
 obtain ⟨es,hes⟩:∃ es,es = lsAv Sl.c slots:=⟨_,rfl⟩
 obtain ⟨eg,heg⟩:∃ es,es = lsAv Gt.c gates:=⟨_,rfl⟩
 obtain ⟨ex,hex⟩:∃ es,es = lsAv As.c xs:=⟨_,rfl⟩
 obtain ⟨ef,hef⟩:∃ es,es = lsAv Fr.c fs:=⟨_,rfl⟩
 obtain ⟨ev,hev⟩:∃ es,es = lsAv V2.c ps:=⟨_,rfl⟩
 obtain ⟨eo,heo⟩:∃ es,es = lsAv boolC os:=⟨_,rfl⟩
 obtain ⟨rt,rx,rf,rv,ro⟩:=r1
 obtain ⟨fx,hfx⟩:∃ es,es = lsAv As.c rx:=⟨_,rfl⟩
 obtain ⟨ff,hff⟩:∃ es,es = lsAv Fr.c rf:=⟨_,rfl⟩
 obtain ⟨fv,hfv⟩:∃ es,es = lsAv V2.c rv:=⟨_,rfl⟩
 obtain ⟨fo,hfo⟩:∃ es,es = lsAv boolC ro:=⟨_,rfl⟩
 have lna:(ea.length:Int) = na:=by rw [hea,lsAv_len,hna]
 by_cases h1:st ≠ 0 ∨ n < 0 ∨ na ≤ n ∨ mv = true ∨ x.holds < 0
 ·have x2:e2 = if st ≠ 0 then st else if n < 0 ∨ na ≤ n then 1 else 7:=by
   rw [he2]
   by_cases q1:st = 0
   ·by_cases q2:n < 0 ∨ na ≤ n
    ·simp [readyI,q1,q2]
    ·cases mv
     ·have q4:x.holds < 0:=by
       rcases h1 with h|h|h|h|h
       ·exact absurd q1 h
       ·exact absurd (.inl h) q2
       ·exact absurd (.inr h) q2
       ·cases h
       ·exact h
      simp [readyI,q1,q2,q4]
     ·simp [readyI,q1,q2]
   ·simp [readyI,q1]
  have y2:e2 ≠ 0:=by
   rw [x2]
   split
   ·assumption
   ·split <;> decide
  rw [hb y2,Ss.nil_c] at kP
  simp only [Wk.c,Ss.c,← hea,← hew,← hep,← hes,← heg,← hex,← hef,← hev,← heo,← hfx,← hff,← hfv,← hfo] at kS kT kT2 kS1 kP ⊢
  clear kSH hb hg he2 hhold hea hew hep hes heg hef hev heo hfx hff hfv hfo
  by_cases h0:st = 0
  rotate_left
  ·have x2:e2 = st:=by rw [x2,if_pos h0]
   subst x2
   clear kmv hgx hex
   refine AE.ACallG.of_walk (fn:=Tryz.f12) (c:=bodyOf Tryz.f12) GG_stays tabOK Tryz.func12 rfl rfl mixed fun A hA X=>?_
   have n1:A.bnot true = false:=by rw [AE.c_not hA]; rfl
   have c1:A.cmp .neq e1 e1 = false:=by rw [AE.c_neq hA]; simp
   have c2:A.cmp .neq e2 0 = true:=by rw [AE.c_neq hA]; simpa using h0
   have c3:A.cmp .eql e2 0 = false:=by rw [AE.c_eql hA]; exact decide_eq_false h0
   have c4:A.cmp .eql e2 e2 = true:=by rw [AE.c_eql hA]; simp
   (repeat' (first|(refine X.g ?_; cbv)|refine X.splitT ?_|refine X.splitF ?_|refine X.sp (fun hc=>?_) (fun hc=>?_)|refine X.needT ?_|refine X.callsGA [] kM ?_|refine X.callsGA [] kT ?_|refine X.callsGA [] kT2 ?_|refine X.callsGA [] kS1 ?_|refine X.callsGA [] kP ?_|refine X.callsGA [] kS ?_|refine X.callsGA [] kN ?_|fail))
   all_goals (refine X.ret _ (X.done rfl ?_); cbv <;> (and_intros <;> first|rfl|trivial))
  rw [if_neg (fun h=>h h0)] at x2
  by_cases h2:n < 0 ∨ na ≤ n
  ·rw [if_pos h2] at x2
   subst x2 h0
   clear kmv hgx hex
   refine AE.ACallG.of_walk (fn:=Tryz.f12) (c:=bodyOf Tryz.f12) GG_stays tabOK Tryz.func12 rfl rfl mixed fun A hA X=>?_
   have la:A.llen ea = na:=by rw [llen hA,lna]
   have n1:A.bnot true = false:=by rw [AE.c_not hA]; rfl
   have c1:A.cmp .neq e1 e1 = false:=by rw [AE.c_neq hA]; simp
   have c2:A.cmp .neq 0 0 = false:=by rw [AE.c_neq hA]; rfl
   have c3:A.cmp .neq 1 0 = true:=by rw [AE.c_neq hA]; rfl
   have c4:A.cmp .eql 1 1 = true:=by rw [AE.c_eql hA]; simp
   clear lna
   by_cases h3:n < 0
   ·have d1:A.cmp .lss n 0 = true:=by rw [AE.c_lss hA]; exact decide_eq_true h3
    (repeat' (first|(refine X.g ?_; cbv)|refine X.splitT ?_|refine X.splitF ?_|refine X.sp (fun hc=>?_) (fun hc=>?_)|refine X.needT ?_|refine X.callsGA [] kM ?_|refine X.callsGA [] kT ?_|refine X.callsGA [] kT2 ?_|refine X.callsGA [] kS1 ?_|refine X.callsGA [] kP ?_|refine X.callsGA [] kS ?_|refine X.callsGA [] kN ?_|fail))
    all_goals (refine X.ret _ (X.done rfl ?_); cbv <;> (and_intros <;> first|rfl|trivial))
   ·have d1:A.cmp .lss n 0 = false:=by rw [AE.c_lss hA]; exact decide_eq_false h3
    have d2:A.cmp .geq n (A.llen ea) = true:=by rw [AE.c_geq hA,la]; exact decide_eq_true (by omega)
    (repeat' (first|(refine X.g ?_; cbv)|refine X.splitT ?_|refine X.splitF ?_|refine X.sp (fun hc=>?_) (fun hc=>?_)|refine X.needT ?_|refine X.callsGA [] kM ?_|refine X.callsGA [] kT ?_|refine X.callsGA [] kT2 ?_|refine X.callsGA [] kS1 ?_|refine X.callsGA [] kP ?_|refine X.callsGA [] kS ?_|refine X.callsGA [] kN ?_|fail))
    all_goals (refine X.ret _ (X.done rfl ?_); cbv <;> (and_intros <;> first|rfl|trivial))
  rw [if_neg h2] at x2
  subst x2
  obtain ⟨i,hi,hxi⟩:=hgx h0 (by omega) (by omega)
  have km2:=kmv h0 (by omega) (by omega)
  clear kmv
  subst h0
  have hxe:ex[i]? = some x.c:=by rw [hex]; exact lsAv_get hxi
  obtain ⟨xq,xv,xp,xh⟩:=x
  obtain ⟨eq,heq⟩:∃ es,es = lsAv Q.c xq:=⟨_,rfl⟩
  obtain ⟨ew', hew'⟩:∃ es,es = lsAv Q.c xv:=⟨_,rfl⟩
  simp only [As.c,← heq,← hew'] at hxe km2 h1
  clear heq hew' hex hxi hgx
  refine AE.ACallG.of_walk (fn:=Tryz.f12) (c:=bodyOf Tryz.f12) GG_stays tabOK Tryz.func12 rfl rfl mixed fun A hA X=>?_
  have la:A.llen ea = na:=by rw [llen hA,lna]
  have n1:A.bnot true = false:=by rw [AE.c_not hA]; rfl
  have c1:A.cmp .neq e1 e1 = false:=by rw [AE.c_neq hA]; simp
  have c2:A.cmp .neq 0 0 = false:=by rw [AE.c_neq hA]; rfl
  have c3:A.cmp .neq 7 0 = true:=by rw [AE.c_neq hA]; rfl
  have c4:A.cmp .eql 7 7 = true:=by rw [AE.c_eql hA]; simp
  have d1:A.cmp .lss n 0 = false:=by rw [AE.c_lss hA]; exact decide_eq_false (by omega)
  have d2:A.cmp .geq n (A.llen ea) = false:=by rw [AE.c_geq hA,la]; exact decide_eq_false (by omega)
  clear lna la
  cases mv
  ·have d3:A.cmp .lss xh 0 = true:=by
    rw [AE.c_lss hA]; refine decide_eq_true ?_
    rcases h1 with h|h|h|h|h
    ·exact absurd rfl h
    ·omega
    ·omega
    ·cases h
    ·exact h
   (repeat' (first|(refine X.g ?_; cbv)|refine X.splitT ?_|refine X.splitF ?_|refine X.sp (fun hc=>?_) (fun hc=>?_)|refine X.needT ?_|refine X.callsGA [] kM ?_|refine X.callsGA [] kT ?_|refine X.callsGA [] kT2 ?_|refine X.callsGA [] kS1 ?_|refine X.callsGA [] kP ?_|refine X.callsGA [] kS ?_|refine X.callsGA [] kN ?_|refine X.callsGA [] km2 ?_|refine X.idx _ _ _ _ _ _ _ _ hxe hi ?_|fail))
   all_goals (refine X.ret _ (X.done rfl ?_); cbv <;> (and_intros <;> first|rfl|trivial))
  ·(repeat' (first|(refine X.g ?_; cbv)|refine X.splitT ?_|refine X.splitF ?_|refine X.sp (fun hc=>?_) (fun hc=>?_)|refine X.needT ?_|refine X.callsGA [] kM ?_|refine X.callsGA [] kT ?_|refine X.callsGA [] kT2 ?_|refine X.callsGA [] kS1 ?_|refine X.callsGA [] kP ?_|refine X.callsGA [] kS ?_|refine X.callsGA [] kN ?_|refine X.callsGA [] km2 ?_|refine X.idx _ _ _ _ _ _ _ _ hxe hi ?_|fail))
   all_goals (refine X.ret _ (X.done rfl ?_); cbv <;> (and_intros <;> first|rfl|trivial))
 have h0:st = 0:=Classical.not_not.1 fun h=>h1 (.inl h)
 have h2:0 ≤ n:=Int.not_lt.1 fun h=>h1 (.inr (.inl h))
 have h3:n < na:=Int.not_le.1 fun h=>h1 (.inr (.inr (.inl h)))
 have h4:mv = false:=by
  cases mv
  ·rfl
  ·exact absurd (.inr (.inr (.inr (.inl rfl)))) h1
 have h5:0 ≤ x.holds:=Int.not_lt.1 fun h=>h1 (.inr (.inr (.inr (.inr h))))
 have x2:e2 = 0:=by
  rw [he2]; simp [readyI,h4,h0,h5]; omega
 obtain ⟨i,hi,hxi⟩:=hgx h0 h2 h3
 have km2:=kmv h0 h2 h3
 clear kmv
 rw [hg x2] at kP
 rw [hhold i hi hxi] at kP kSH
 subst x2 h0 h4
 have hxe:ex[i]? = some x.c:=by rw [hex]; exact lsAv_get hxi
 have ati:AE.AtR i ex:=⟨(List.getElem?_eq_some_iff.1 hxe).1⟩
 obtain ⟨xq,xv,xp,xh⟩:=x
 simp only at h5 kP kSH
 obtain ⟨ex2,hex2⟩:∃ es,es = lsAv As.c (xs.set i ⟨xq,xv,xp,-1⟩):=⟨_,rfl⟩
 have hset:ex.set i (As.c ⟨xq,xv,xp,-1⟩) = ex2:=by rw [hex,hex2,← lsAv_set]
 have kC:=cloneAsO_ok ex (by rw [hex,lsAv_len]; exact hal2)
 obtain ⟨eq,heq⟩:∃ es,es = lsAv Q.c xq:=⟨_,rfl⟩
 obtain ⟨ew', hew'⟩:∃ es,es = lsAv Q.c xv:=⟨_,rfl⟩
 simp only [As.c,← heq,← hew'] at hxe km2 hset
 simp only [Wk.c,Ss.c,← hea,← hew,← hep,← hes,← heg,← hex,← hef,← hev,← heo,← hfx,← hff,← hfv,← hfo,← hex2] at kS kT kT2 kS1 kP kSH ⊢
 clear hb hg he2 hhold hea hew hep hes heg hex hef hev heo hfx hff hfv hfo hex2 heq hew' hxi hgx kN h1
 refine AE.ACallG.of_walk (fn:=Tryz.f12) (c:=bodyOf Tryz.f12) GG_stays tabOK Tryz.func12 rfl rfl mixed fun A hA X=>?_
 have la:A.llen ea = na:=by rw [llen hA,lna]
 have n1:A.bnot true = false:=by rw [AE.c_not hA]; rfl
 have c1:A.cmp .neq e1 e1 = false:=by rw [AE.c_neq hA]; simp
 have c2:A.cmp .neq 0 0 = false:=by rw [AE.c_neq hA]; rfl
 have c3:A.cmp .eql 0 0 = true:=by rw [AE.c_eql hA]; simp
 have d1:A.cmp .lss n 0 = false:=by rw [AE.c_lss hA]; exact decide_eq_false (by omega)
 have d2:A.cmp .geq n (A.llen ea) = false:=by rw [AE.c_geq hA,la]; exact decide_eq_false (by omega)
 have d3:A.cmp .lss xh 0 = false:=by rw [AE.c_lss hA]; exact decide_eq_false (by omega)
 clear lna la hna
 have hset2:=hset
 cbv at hset2
 (repeat' (first|(refine X.g ?_; cbv)|refine X.splitT ?_|refine X.splitF ?_|refine X.sp (fun hc=>?_) (fun hc=>?_)|refine X.needT ?_|refine X.callsGA [] kM ?_|refine X.callsGA [] kT ?_|refine X.callsGA [] kT2 ?_|refine X.callsGA [] kS1 ?_|refine X.callsGA [] kP ?_|refine X.callsGA [] kS ?_|refine X.callsGA [] kSH ?_|refine X.callsGA [] km2 ?_|refine X.callsA [] kC ?_|refine X.idx _ _ _ _ _ _ _ _ hxe hi ?_|refine X.idxA i ati hi ?_|(refine X.stq _ _ _ _ _ _ _ _ _ _ hxe (X.frz 4 _ _ ?_))|fail))
 all_goals (first|rw [hset2]|skip)
 all_goals (repeat' (first|(refine X.g ?_; cbv)|refine X.splitT ?_|refine X.splitF ?_|refine X.sp (fun hc=>?_) (fun hc=>?_)|refine X.needT ?_|refine X.callsGA [] kSH ?_|fail))
 all_goals (refine X.ret _ (X.done rfl ?_); cbv <;> (and_intros <;> first|rfl|trivial))
end Go.Proofs.YthadehkggddgoaaGreatDoor
end
