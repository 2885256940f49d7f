/- Contracts: move.ready, move.Put; gantref2.moves, copied. Contracts: rat.Make of an eighth; move.Take. Plain laws: in a valid state of a small bulk all tips can be reckoned; how large a state is when a part was taken or put down. -/
import Derived.Test.YthadehkggddgoaaGreatDoorZLawMG
import Derived.Test.YthadehkggddgoaaGreatDoorZFitT
section
section
set_option maxRecDepth 100000
set_option maxHeartbeats 0
set_option linter.unusedVariables false
set_option linter.unusedSimpArgs false
namespace Go.Proofs.YthadehkggddgoaaGreatDoor
open Go Go.Num
def asAt (s:Ss) (n:Int):As:=s.arms.getD n.toNat ⟨[],[],false,-1⟩
theorem cloneAsO_ok (es:List (List AE.AV)) (hl:es.length≤2^30):AE.ACall Tryz.prog 66 [] [.l 4 es] [.row 76 4 es] (.r 0):=by
 refine AE.ACall.of_walk (fn:=Tryz.f66) (c:=bodyOf Tryz.f66) tabOK Tryz.func66 rfl rfl mixed fun A hA X=>?_
 have hg:=grow0 hA hl (b:=64) (by decide) (by decide)
 have e1:A.lapp [] es=es:=by subst hA; rfl
 (refine X.g ?_; cbv)
 refine X.coin _ _ _ _ _ (fun b hb=>?_)
 cases b
 ·(repeat' (first|(refine X.g ?_; cbv)|refine X.splitT ?_|refine X.splitF ?_|refine X.sp (fun hc=>?_) (fun hc=>?_)|refine X.needT ?_|refine X.need _ _ _ hg ?_|fail))
  all_goals (refine X.ret _ (X.done rfl ?_); cbv <;> (and_intros <;> first|exact e1|rfl|trivial))
 ·have e2:=hb rfl
  (repeat' (first|(refine X.g ?_; cbv)|refine X.splitT ?_|refine X.splitF ?_|refine X.sp (fun hc=>?_) (fun hc=>?_)|refine X.needT ?_|fail))
  all_goals (refine X.ret _ (X.nilT 2 76 4 _ _ (X.done rfl ?_)); cbv <;> (and_intros <;> first|exact e2.symm|exact e2|rfl|trivial))
theorem refCopied_ok (tick:Int) (ex ef ev eo:List (List AE.AV)) (h1:ex.length≤2^30) (h2:ef.length≤2^30) (h3:ev.length≤2^30) (h4:eo.length≤2^30):AE.ACall Tryz.prog 129 [] [.a [.v (.int .i64 tick),.l 4 ex,.l 10 ef,.l 6 ev,.l 1 eo]] [.box [.any,.any,.any,.any,.any] 37,.box [.any,.any,.any,.any,.any] 37,.row 76 4 ex,.row 66 10 ef,.row 44 6 ev,.row 4 1 eo] (.a [.v (.int .i64 tick),.r 2,.r 3,.r 4,.r 5]):=by
 have k1:=cloneAsO_ok ex h1
 have k2:=cloneFrameO_ok ef h2
 have k3:=cloneVecO_ok ev h3
 have k4:=cloneBoolO_ok eo h4
 refine AE.ACall.of_walk (fn:=Tryz.f129) (c:=bodyOf Tryz.f129) tabOK Tryz.func129 rfl rfl mixed fun A hA X=>?_
 (repeat' (first|(refine X.g ?_; cbv)|refine X.splitT ?_|refine X.splitF ?_|refine X.sp (fun hc=>?_) (fun hc=>?_)|refine X.needT ?_|refine X.drawX _ _ _ (by kernel_rfl) ?_|refine X.fork _ _ ?_ ?_|refine X.callsA [] k1 ?_|refine X.callsA [] k2 ?_|refine X.callsA [] k3 ?_|refine X.callsA [] k4 ?_|fail))
 all_goals (refine X.ret _ (X.done rfl ?_); cbv <;> (and_intros <;> first|rfl|trivial))
def Ss.holding (s:Ss) (i:Nat) (h:Int):Ss:={ s with arms:=s.arms.set i { s.arms.getD i ⟨[],[],false,-1⟩ with holds:=h } }
end Go.Proofs.YthadehkggddgoaaGreatDoor
end
section
set_option linter.unusedVariables false
set_option linter.unusedSimpArgs false
namespace Go.Proofs.YthadehkggddgoaaGreatDoor
open Go Go.Num
def eighth:Rat:=1 / 8
def arAt (w:Wk) (n:Int):Ar:=w.arms.getD n.toNat ⟨⟨⟨[]⟩⟩,⟨⟨Q.nil,Q.nil⟩,⟨false,Q.nil⟩⟩,[]⟩
structure Tips (w:Wk) (s:Ss):Prop where
 tip:∀ (i:Nat) a x,w.arms[i]? = some a→s.arms[i]? = some x→TipOK a x.q
 part:∀ (i:Nat) p f,w.parts[i]? = some p→s.parts[i]? = some f→p.grasp.le (2^20)∧f.le (2^20)
def Ss.taken (w:Wk) (s:Ss) (n p:Int):Ss:={ s.holding n.toNat p with parts:=s.parts.set p.toNat (heldF (arAt w n) (asAt s n).q (partAt w p)) }
end Go.Proofs.YthadehkggddgoaaGreatDoor
end
end
section
set_option linter.unusedVariables false
set_option linter.unusedSimpArgs false
namespace Go.Proofs.YthadehkggddgoaaGreatDoor
open Go Go.Num
theorem oneC_zero {a:Ar} {x:As} {n:Int} (h:oneC a x n=0):(∀ q∈x.q,q.Good)∧(∀ q∈x.v,q.Good)∧fitsC a x.q=0∧(x.v.length:Int)=a.links.length ∧ -1≤x.holds∧x.holds<n∧slowE x.v a.links:=by
 rw [oneC,oneI] at h
 split at h
 ·omega
 ·rename_i h1
  split at h
  ·rename_i h2; exact absurd h h2
  ·rename_i h2
   split at h
   ·omega
   ·rename_i h3
    refine ⟨?_,?_,Classical.not_not.1 h2,by omega,by omega,by omega,?_⟩
    ·exact Classical.byContradiction fun hn=>h1 (.inl (decide_eq_false hn))
    ·exact Classical.byContradiction fun hn=>h1 (.inr (decide_eq_false hn))
    ·exact Classical.byContradiction fun hn=>by rw [if_neg hn] at h; omega
theorem fitsC_zero {a:Ar} {q:List Q} (h:fitsC a q=0):q.length=a.links.length∧allBetween q a.links:=by
 rw [fitsC] at h
 split at h
 ·rename_i h1; exact absurd h h1
 ·rename_i h1
  have h1:=Classical.not_not.1 h1
  refine ⟨?_,Classical.byContradiction fun hn=>by rw [if_neg hn] at h; omega⟩
  rw [hasI] at h1
  split at h1
  ·omega
  ·split at h1
   ·omega
   ·omega
theorem armsC_get {n:Int}:∀ {bs:List Ar} {xs:List As} {hs:List Int},armsC n hs bs xs=0→∀ (i:Nat) a x,bs[i]? = some a→xs[i]? = some x→oneC a x n=0
 | [],_,_,_,i,a,x,h1,_=>by simp at h1
 | _ :: _,[],_,_,i,a,x,_,h2=>by simp at h2
 | b :: bs,y :: xs,hs,h,i,a,x,h1,h2=>by
  rw [armsC] at h
  split at h
  ·rename_i h3; exact absurd h h3
  ·rename_i h3
   split at h
   ·omega
   ·cases i with
    | zero=>simp at h1 h2; subst h1; subst h2; exact Classical.not_not.1 h3
    | succ i=>exact armsC_get h i a x (by simpa using h1) (by simpa using h2)
theorem stateE_arms {w:Wk} {s:Ss} (h:stateC w s=0):armsC w.parts.length [] w.arms s.arms=0:=by
 have h:=(stateC_opens h).2.2.2.2.2.1
 rw [stateE] at h
 split at h
 ·rename_i h1; exact absurd h h1
 ·rename_i h1; exact Classical.not_not.1 h1
theorem stateC_one {w:Wk} {s:Ss} (h:stateC w s=0) {i:Nat} {a:Ar} {x:As} (h1:w.arms[i]? = some a) (h2:s.arms[i]? = some x):oneC a x w.parts.length=0:=armsC_get (stateE_arms h) i a x h1 h2
theorem Q.wt_sz (q:Q):q.wt≤1+2*q.sz:=by simp only [Q.wt,Q.sz]; omega
theorem Fr.wt_le {f:Fr} {n:Nat} (h:f.le n):f.wt≤3*(1+2*n):=by
 obtain ⟨h1,h2⟩:=h
 simp only [V2.sz] at h1
 have:=f.at_.x.wt_sz; have:=f.at_.y.wt_sz; have:=f.turn.t.wt_sz
 simp only [Fr.wt,V2.wt,Tn.wt]; omega
theorem held_le {a:Ar} {q:List Q} {p:Pt} (h:TipOK a q) (hg:p.grasp.le (2^20)):(heldF a q p).le (2^30):=by
 have h1:=h.tip_le
 have h2:=back_le hg
 refine ⟨?_,?_⟩
 ·show (V2.of _).sz≤_
  rw [V2.sz_of]
  have h3:=put_rs (tipF a q) p.grasp.back.at_.v
  have h4:=p.grasp.back.at_.rs
  have:=h1.1; have:=h1.2; have:=h2.1
  omega
 ·have h3:=thenT_sz (tipF a q).turn p.grasp.back.turn
  have:=h1.2; have:=h2.2
  show (thenT _ _).t.sz≤_
  omega
end Go.Proofs.YthadehkggddgoaaGreatDoor
end
