/- Contracts: what the program asks of a state: world.good, goodFrame, one, Check. -/
import Derived.Test.YthadehkggddgoaaGreatDoorZWorks
import Derived.Test.YthadehkggddgoaaGreatDoorZFuncsB
set_option maxRecDepth 100000
set_option maxHeartbeats 0
set_option linter.unusedVariables false
set_option linter.unusedSimpArgs false
namespace Go.Proofs.YthadehkggddgoaaGreatDoor
open Go Go.Num
theorem worldGood1_ok (q:Q) (h:q.sz ≤ 2 ^ 34) (r:Bool) (hr:r = !decide q.Good):AE.ACallG GG Tryz.prog 170 [] [.a q.c] [] (.b r):=by
 refine AE.ACallG.of_walk (fn:=Tryz.f170) (c:=bodyOf Tryz.f170) GG_stays tabOK Tryz.func170 rfl rfl mixed fun A hA X=>?_
 obtain ⟨g,hg⟩:∃ g,g = decide q.Good:=⟨_,rfl⟩
 have k1:=good_ok q h g hg
 have e1:A.bnot g = r:=by rw [AE.c_not hA,hr,hg]
 (repeat' (first|(refine X.g ?_; cbv)|refine X.splitT ?_|refine X.splitF ?_|refine X.sp (fun hc=>?_) (fun hc=>?_)|refine X.callsGA [] k1 ?_|refine X.needT ?_|fail))
 all_goals (refine X.ret _ (X.done rfl ?_); cbv <;> (and_intros <;> first|exact e1|rfl|trivial))
theorem worldGood_ok (l:List Q) (hsz:∀ q ∈ l,q.sz ≤ 2 ^ 34) (hl:l.length < 2 ^ 40) (es:List (List AE.AV)) (hes:es = lsAv Q.c l) (r:Bool) (hr:r = decide (∀ q ∈ l,q.Good)):AE.ACallG GG Tryz.prog 106 [] [.l 3 es] [] (.b r):=by
 refine AE.ACallG.of_walk (fn:=Tryz.f106) (c:=bodyOf Tryz.f106) GG_stays tabOK Tryz.func106 rfl rfl mixed fun A hA X=>?_
 obtain ⟨b,hb⟩:∃ b,b = l.any fun p=>!decide p.Good:=⟨_,rfl⟩
 have k1:=hasRat_ok l hl es hes 170 (fun p=>!decide p.Good) (fun y hy b hb=>worldGood1_ok y (hsz y hy) b hb) b hb
 have e1:A.bnot b = r:=by
  rw [AE.c_not hA,hr,hb]
  by_cases h:∀ p ∈ l,p.Good
  ·rw [decide_eq_true h]
   have:(l.any fun p=>!decide p.Good) = false:=by rw [List.any_eq_false]; intro x hx; simp [h x hx]
   rw [this]; rfl
  ·rw [decide_eq_false h]
   have:(l.any fun p=>!decide p.Good) = true:=by
    rw [List.any_eq_true]
    exact Classical.byContradiction fun hn=>h fun p hp=>Classical.byContradiction fun hs=>hn ⟨p,hp,by simp [hs]⟩
   rw [this]; rfl
 (repeat' (first|(refine X.g ?_; cbv)|refine X.splitT ?_|refine X.splitF ?_|refine X.sp (fun hc=>?_) (fun hc=>?_)|refine X.callsGA [] k1 ?_|refine X.needT ?_|fail))
 all_goals (refine X.ret _ (X.done rfl ?_); cbv <;> (and_intros <;> first|exact e1|rfl|trivial))
def Fr.Fine (f:Fr):Prop:=(∀ q ∈ [f.at_.x,f.at_.y,f.turn.t],q.Good) ∧ (f.turn.half = true → sgnR f.turn.t.v = 0)
instance (f:Fr):Decidable f.Fine:=by unfold Fr.Fine; infer_instance
def V2.Fine (p:V2):Prop:=∀ q ∈ [p.x,p.y],q.Good
instance (p:V2):Decidable p.Fine:=by unfold V2.Fine; infer_instance
theorem worldFrame_ok (f:Fr) (hf:f.le (2 ^ 30)) (r:Bool) (hr:r = decide f.Fine):AE.ACallG GG Tryz.prog 103 [] [.a f.c] [] (.b r):=by
 obtain ⟨z1,z2⟩:=hf
 obtain ⟨⟨x,y⟩,half,t⟩:=f
 simp only [V2.sz] at z1 z2
 refine AE.ACallG.of_walk (fn:=Tryz.f103) (c:=bodyOf Tryz.f103) GG_stays tabOK Tryz.func103 rfl rfl mixed fun A hA X=>?_
 obtain ⟨g,hg⟩:∃ b,b = decide (∀ q ∈ [x,y,t],q.Good):=⟨_,rfl⟩
 obtain ⟨z,hz⟩:∃ z,z = sgnR t.v:=⟨_,rfl⟩
 have hr2:r = (g && (!half || decide (z = 0))):=by
  rw [hr,hg,hz,Bool.eq_iff_iff]
  simp only [Fr.Fine,Bool.and_eq_true,Bool.or_eq_true,Bool.not_eq_true', decide_eq_true_eq]
  cases half <;> simp
 have k1:=worldGood_ok [x,y,t] (by simp only [List.mem_cons,List.not_mem_nil,or_false,forall_eq_or_imp,forall_eq]; omega) (by simp) [x.c,y.c,t.c] (by rw [lsAv_eq]; rfl) g hg
 have k2:=sign_ok t (by omega) z hz
 (repeat' (first|(refine X.g ?_; cbv)|refine X.splitT ?_|refine X.splitF ?_|refine X.sp (fun hc=>?_) (fun hc=>?_)|refine X.needT ?_|(refine X.isCall ?_; refine X.lendsG [1] k1 rfl ?_ (by cbv) ?_; focus (cbv <;> (and_intros <;> first|rfl|trivial)))|refine X.callsGA [] k2 ?_|fail))
 all_goals (refine X.ret _ (X.done rfl ?_); cbv <;> (and_intros <;> first|rfl|trivial|(clear X k1 k2 hg hz z1 z2 hr; rw [hr2]; (try simp only [AE.c_lss hA,AE.c_leq hA,AE.c_gtr hA,AE.c_geq hA,AE.c_eql hA,AE.c_neq hA,AE.c_not hA,AE.c_and hA,AE.c_beq hA,AE.c_bne hA,decide_eq_true_eq,decide_eq_false_iff_not,Bool.not_eq_true,Bool.not_eq_false,Bool.not_eq_eq_eq_not,Bool.not_true,Bool.not_false,Int.not_lt,Int.not_le,Int.ofNat_eq_natCast] at *); clear hA hr2; cases half <;> cases g <;> first|rfl|contradiction|(rw [decide_eq_true (by omega)]; rfl)|(rw [decide_eq_false (by omega)]; rfl)|simp_all)))
theorem worldCheck1_ok (f:Fr) (hf:f.le (2 ^ 30)) (r:Bool) (hr:r = !decide f.Fine):AE.ACallG GG Tryz.prog 102 [] [.a f.c] [] (.b r):=by
 refine AE.ACallG.of_walk (fn:=Tryz.f102) (c:=bodyOf Tryz.f102) GG_stays tabOK Tryz.func102 rfl rfl mixed fun A hA X=>?_
 obtain ⟨g,hg⟩:∃ g,g = decide f.Fine:=⟨_,rfl⟩
 have k1:=worldFrame_ok f hf g hg
 have e1:A.bnot g = r:=by rw [AE.c_not hA,hr,hg]
 (repeat' (first|(refine X.g ?_; cbv)|refine X.splitT ?_|refine X.splitF ?_|refine X.sp (fun hc=>?_) (fun hc=>?_)|refine X.callsGA [] k1 ?_|refine X.needT ?_|fail))
 all_goals (refine X.ret _ (X.done rfl ?_); cbv <;> (and_intros <;> first|exact e1|rfl|trivial))
theorem worldCheck2_ok (p:V2) (hp:p.sz ≤ 2 ^ 30) (r:Bool) (hr:r = !decide p.Fine):AE.ACallG GG Tryz.prog 105 [] [.a p.c] [] (.b r):=by
 obtain ⟨x,y⟩:=p
 simp only [V2.sz] at hp
 refine AE.ACallG.of_walk (fn:=Tryz.f105) (c:=bodyOf Tryz.f105) GG_stays tabOK Tryz.func105 rfl rfl mixed fun A hA X=>?_
 obtain ⟨g,hg⟩:∃ g,g = decide (∀ q ∈ [x,y],q.Good):=⟨_,rfl⟩
 have k1:=worldGood_ok [x,y] (by simp only [List.mem_cons,List.not_mem_nil,or_false,forall_eq_or_imp,forall_eq]; omega) (by simp) [x.c,y.c] (by rw [lsAv_eq]; rfl) g hg
 have e1:A.bnot g = r:=by rw [AE.c_not hA,hr,hg]; rfl
 (repeat' (first|(refine X.g ?_; cbv)|refine X.splitT ?_|refine X.splitF ?_|refine X.sp (fun hc=>?_) (fun hc=>?_)|refine X.needT ?_|(refine X.isCall ?_; refine X.lendsG [1] k1 rfl ?_ (by cbv) ?_; focus (cbv <;> (and_intros <;> first|rfl|trivial)))|fail))
 all_goals (refine X.ret _ (X.done rfl ?_); cbv <;> (and_intros <;> first|exact e1|rfl|trivial))
def slowE:List Q → List Lk → Prop
 | v :: vs,k :: ks=>absR v.v ≤ k.speed.v ∧ slowE vs ks
 | _,_=>True
instance slowE_dec:∀ (q:List Q) (k:List Lk),Decidable (slowE q k)
 | q :: qs,k :: ks=>by unfold slowE; exact @instDecidableAnd _ _ _ (slowE_dec qs ks)
 | [],_=>by unfold slowE; infer_instance
 | _ :: _,[]=>by unfold slowE; infer_instance
theorem slowE_drop {qs:List Q} {ks:List Lk} {i:Nat} {q:Q} {k:Lk} (h1:qs[i]? = some q) (h2:ks[i]? = some k):slowE (qs.drop i) (ks.drop i) ↔ absR q.v ≤ k.speed.v ∧ slowE (qs.drop (i + 1)) (ks.drop (i + 1)):=by
 obtain ⟨hi,rfl⟩:=List.getElem?_eq_some_iff.1 h1
 obtain ⟨hj,rfl⟩:=List.getElem?_eq_some_iff.1 h2
 rw [List.drop_eq_getElem_cons hi,List.drop_eq_getElem_cons hj,slowE]
def oneI (gq gv:Bool) (fc lv nl h n:Int) (z:Int):Int:=if gq = false ∨ gv = false then 3 else if fc ≠ 0 then fc else if lv ≠ nl ∨ h < -1 ∨ n ≤ h then 1 else z
def oneC (a:Ar) (x:As) (n:Int):Int:=oneI (decide (∀ q ∈ x.q,q.Good)) (decide (∀ q ∈ x.v,q.Good)) (fitsC a x.q) x.v.length a.links.length x.holds n (if slowE x.v a.links then 0 else 1)
def As.le (x:As) (n:Nat):Prop:=(∀ q ∈ x.q,q.sz ≤ n) ∧ (∀ q ∈ x.v,q.sz ≤ n) ∧ x.q.length < 2 ^ 40 ∧ x.v.length < 2 ^ 40
theorem worldOne_ok (a:Ar) (ha:a.le (2 ^ 28)) (x:As) (hx:x.le (2 ^ 30)) (n:Int) (r:Int) (hr:r = oneC a x n):AE.ACallG GG Tryz.prog 100 [] [.a a.c,.a x.c,.v (.int .i64 n)] [] (.v (.int .i64 r)):=by
 obtain ⟨x1,x2,x3,x4⟩:=hx
 obtain ⟨q,v,power,holds⟩:=x
 simp only at x1 x2 x3 x4
 refine AE.ACallG.of_walk (fn:=Tryz.f100) (c:=bodyOf Tryz.f100) GG_stays tabOK Tryz.func100 rfl rfl mixed fun A hA X=>?_
 obtain ⟨eq,heq⟩:∃ es,es = lsAv Q.c q:=⟨_,rfl⟩
 obtain ⟨ev,hev⟩:∃ es,es = lsAv Q.c v:=⟨_,rfl⟩
 obtain ⟨g1,hg1⟩:∃ b,b = decide (∀ y ∈ q,y.Good):=⟨_,rfl⟩
 obtain ⟨g2,hg2⟩:∃ b,b = decide (∀ y ∈ v,y.Good):=⟨_,rfl⟩
 obtain ⟨fc,hfc⟩:∃ z,z = fitsC a q:=⟨_,rfl⟩
 have k1:=worldGood_ok q (fun y hy=>by have:=x1 y hy; omega) x3 eq heq g1 hg1
 have k2:=worldGood_ok v (fun y hy=>by have:=x2 y hy; omega) x4 ev hev g2 hg2
 have k3:=armFits_ok a ha q (fun y hy=>by have:=x1 y hy; omega) x3 eq heq fc hfc
 obtain ⟨z1,z2,z4,z5⟩:=ha
 have hlv:A.llen ev = (v.length:Int):=by rw [llen hA,hev,lsAv_len]
 obtain ⟨name,base,l⟩:=a
 simp only at z1 z2 z4 z5
 obtain ⟨es,hes⟩:∃ es,es = lsAv Lk.c l:=⟨_,rfl⟩
 have hls:A.llen es = (l.length:Int):=by rw [llen hA,hes,lsAv_len]
 obtain ⟨zz,hzz⟩:∃ z:Int,z = if slowE v l then 0 else 1:=⟨_,rfl⟩
 have hr:r = oneI g1 g2 fc (A.llen ev) (A.llen es) holds n zz:=by rw [hr,oneC,hlv,hls,hg1,hg2,hfc,hzz]
 simp only [Ar.c,As.c,← hes,← heq,← hev] at k3 ⊢
 clear hg1 hg2 hfc
 (repeat' (first|(refine X.g ?_; cbv)|refine X.splitT ?_|refine X.splitF ?_|refine X.sp (fun hc=>?_) (fun hc=>?_)|refine X.callsGA [] k1 ?_|refine X.callsGA [] k2 ?_|refine X.callsGA [] k3 ?_|refine X.needT ?_|fail))
 all_goals first|(refine X.ret _ (X.done rfl ?_); cbv <;> (and_intros <;> first|rfl|trivial|(clear X k1 k2 k3 hlv hls hzz; rw [hr]; (try simp only [AE.c_lss hA,AE.c_leq hA,AE.c_gtr hA,AE.c_geq hA,AE.c_eql hA,AE.c_neq hA,AE.c_not hA,AE.c_and hA,AE.c_beq hA,AE.c_bne hA,decide_eq_true_eq,decide_eq_false_iff_not,Bool.not_eq_true,Bool.not_eq_false,Bool.not_eq_eq_eq_not,Bool.not_true,Bool.not_false,Int.not_lt,Int.not_le,Int.ofNat_eq_natCast] at *); unfold oneI; first|(simp_all; done)|((repeat' split) <;> first|omega|(simp_all; done)|(simp_all; omega)))))|skip
 have hrz:r = zz:=by
  clear X k1 k2 k3 hzz hlv hls
  simp only [AE.c_lss hA,AE.c_leq hA,AE.c_gtr hA,AE.c_geq hA,AE.c_eql hA,AE.c_neq hA,AE.c_not hA,AE.c_and hA,AE.c_beq hA,AE.c_bne hA,decide_eq_true_eq,decide_eq_false_iff_not,Bool.not_eq_true,Bool.not_eq_false,Bool.not_eq_eq_eq_not,Bool.not_true,Bool.not_false,Int.not_lt,Int.not_le,Int.ofNat_eq_natCast] at *
  rw [hr,oneI,if_neg (by simp_all),if_neg (by simp_all),if_neg (by omega)]
 have hvl:v.length = l.length:=by
  clear X k1 k2 k3 hzz
  simp only [AE.c_lss hA,AE.c_leq hA,AE.c_gtr hA,AE.c_geq hA,AE.c_eql hA,AE.c_neq hA,AE.c_not hA,AE.c_and hA,AE.c_beq hA,AE.c_bne hA,decide_eq_true_eq,decide_eq_false_iff_not,Bool.not_eq_true,Bool.not_eq_false,Bool.not_eq_eq_eq_not,Bool.not_true,Bool.not_false,Int.not_lt,Int.not_le,Int.ofNat_eq_natCast] at *
  have j1:A.llen ev = (v.length:Int):=hlv
  have j2:A.llen es = (l.length:Int):=hls
  omega
 refine X.loopG _ _ _ (X.frzB 0 _ _ (Nat.zero_le _) (X.frzB 1 _ _ (Nat.zero_le _) ?_))
 (refine X.g ?_; cbv)
 clear k1 k2 k3
 refine rangeL0 X hA hes (by omega) (fun i=>slowE v l ↔ slowE (v.drop i) (l.drop i)) (fun z _=>[(48,.v (.int .i64 z))]) Iff.rfl ?_ (fun i z y hz hy hey c3 hI B hB=>?_) (fun z c3 hI B=>?_)
 ·(cbv <;> (and_intros <;> first|rfl|trivial))
 ·have hil:i < l.length:=(List.getElem?_eq_some_iff.1 hy).1
  obtain ⟨u,hu⟩:∃ x,v[i]? = some x:=⟨_,List.getElem?_eq_getElem (by omega)⟩
  have heu:ev[i]? = some u.c:=by rw [hev]; exact lsAv_get hu
  have hyl:=z4 y (List.mem_of_getElem? hy)
  have hus:=x2 u (List.mem_of_getElem? hu)
  obtain ⟨l1,l2,l3,l4,_⟩:=hyl
  rw [slowE_drop hu hy] at hI
  obtain ⟨p,hp⟩:∃ q,q = Q.of (absR u.v):=⟨_,rfl⟩
  have hps:p.sz ≤ 2 ^ 32:=by rw [hp,sz_of,rs_abs]; have:=u.rs; omega
  have hpv:p.v = absR u.v:=by rw [hp,Q.v_of]
  obtain ⟨c,hc⟩:∃ c,c = cmpR p.v y.speed.v:=⟨_,rfl⟩
  have k1:=ratAbs_ok u (by omega) p hp
  have k2:=ratCmp_ok p y.speed hps (by omega) c hc
  have hcc:absR u.v ≤ y.speed.v ↔ c ≤ 0:=by rw [hc,hpv,cmpR_le]
  by_cases h0:c ≤ 0
  ·have c5:A.cmp .gtr c 0 = false:=by rw [AE.c_gtr hA]; exact decide_eq_false (by omega)
   have hI' : slowE v l ↔ slowE (v.drop (i + 1)) (l.drop (i + 1)):=hI.trans ⟨fun h=>h.2,fun h=>⟨hcc.2 h0,h⟩⟩
   (repeat' (first|(refine X.g ?_; cbv)|refine X.splitT ?_|refine X.splitF ?_|refine X.sp (fun hc=>?_) (fun hc=>?_)|refine X.needT ?_|refine X.drawX _ _ _ (by kernel_rfl) (X.frzB 2 _ _ (Nat.zero_le _) ?_)|refine X.fork _ _ ?_ ?_|refine X.idx _ _ _ _ _ _ _ _ heu hz ?_|refine X.idx _ _ _ _ _ _ _ _ hey hz ?_|refine X.callsGA [] k1 ?_|refine X.callsGA [] k2 ?_|fail))
   all_goals (refine hB hI' _ ?_; clear hB; (cbv <;> (and_intros <;> first|rfl|trivial)))
  ·have c5:A.cmp .gtr c 0 = true:=by rw [AE.c_gtr hA]; exact decide_eq_true (by omega)
   have e1:r = 1:=by rw [hrz,hzz,if_neg (fun h=>h0 (hcc.1 (hI.1 h).1))]
   clear hB
   (repeat' (first|(refine X.g ?_; cbv)|refine X.splitT ?_|refine X.splitF ?_|refine X.sp (fun hc=>?_) (fun hc=>?_)|refine X.needT ?_|refine X.drawX _ _ _ (by kernel_rfl) (X.frzB 2 _ _ (Nat.zero_le _) ?_)|refine X.fork _ _ ?_ ?_|refine X.idx _ _ _ _ _ _ _ _ heu hz ?_|refine X.idx _ _ _ _ _ _ _ _ hey hz ?_|refine X.callsGA [] k1 ?_|refine X.callsGA [] k2 ?_|fail))
   all_goals (refine X.ret _ (X.done rfl ?_); cbv <;> (and_intros <;> first|exact e1.symm|rfl|trivial))
 ·have e1:r = 0:=by
   rw [hrz,hzz,if_pos (hI.2 ?_)]
   rw [List.drop_length]
   unfold slowE
   split
   ·rename_i h _; simp at *
   ·trivial
  (repeat' (first|(refine X.g ?_; cbv)|refine X.splitT ?_|refine X.splitF ?_|refine X.sp (fun hc=>?_) (fun hc=>?_)|refine X.needT ?_|fail))
  all_goals (refine X.ret _ (X.done rfl ?_); cbv <;> (and_intros <;> first|exact e1.symm|rfl|trivial))
noncomputable def setI (ns:List Int):Value → Option Value:=ns.foldl (fun g s=>AE.msetF g (.int .i64 s) (.bool true)) (fun _=>none)
theorem setI_snoc (ns:List Int) (s:Int):setI (ns ++ [s]) = AE.msetF (setI ns) (.int .i64 s) (.bool true):=by simp [setI,List.foldl_append]
theorem mB_setI (ns:List Int) (s:Int):AE.std.mB (setI ns) (.int .i64 s) = decide (s ∈ ns):=by
 rcases List.eq_nil_or_concat ns with rfl|⟨m,x,rfl⟩
 ·rfl
 ·rw [List.concat_eq_append,setI_snoc]
  have ih:=mB_setI m s
  by_cases h:x = s
  ·subst h; simp [AE.std,AE.msetF]
  ·have h2:¬ (Value.int IntKind.i64 s = Value.int IntKind.i64 x):=fun e=>by cases e; exact h rfl
   have:AE.std.mB (AE.msetF (setI m) (.int .i64 x) (.bool true)) (.int .i64 s) = AE.std.mB (setI m) (.int .i64 s):=by simp [AE.std,AE.msetF,h2]
   rw [this,ih]
   congr 1
   exact propext ⟨fun h=>List.mem_append_left _ h,fun hh=>(List.mem_append.1 hh).elim id fun h3=>absurd (List.mem_singleton.1 h3).symm h⟩
termination_by ns.length
def armsC (n:Int):List Int → List Ar → List As → Int
 | hs,a :: bs,x :: xs=>if oneC a x n ≠ 0 then oneC a x n else if 0 ≤ x.holds ∧ x.holds ∈ hs then 10 else armsC n (hs ++ [x.holds]) bs xs
 | _,_,_=>0
theorem armsC_drop {n:Int} {hs:List Int} {bs:List Ar} {xs:List As} {i:Nat} {a:Ar} {x:As} (h1:bs[i]? = some a) (h2:xs[i]? = some x):armsC n hs (bs.drop i) (xs.drop i) = if oneC a x n ≠ 0 then oneC a x n else if 0 ≤ x.holds ∧ x.holds ∈ hs then 10 else armsC n (hs ++ [x.holds]) (bs.drop (i + 1)) (xs.drop (i + 1)):=by
 obtain ⟨hi,rfl⟩:=List.getElem?_eq_some_iff.1 h1
 obtain ⟨hj,rfl⟩:=List.getElem?_eq_some_iff.1 h2
 rw [List.drop_eq_getElem_cons hi,List.drop_eq_getElem_cons hj,armsC]
theorem map_snocT {α β : Type} (f:α → β) {l:List α} {i:Nat} {y:α} (h:l[i]? = some y):(l.take (i + 1)).map f = (l.take i).map f ++ [f y]:=by rw [take_snoc h,List.map_append]; rfl
def stateI (wc np tick:Int) (na nb nc nd ne nf:Int) (z:Int):Int:=if wc ≠ 0 then wc else if 4 < np then 2 else if tick < 0 ∨ 2000 < tick ∨ na ≠ nb ∨ nc ≠ nd ∨ ne ≠ nf then 1 else z
def stateE (w:Wk) (s:Ss):Int:=if armsC w.parts.length [] w.arms s.arms ≠ 0 then armsC w.parts.length [] w.arms s.arms else if (∀ f ∈ s.parts,f.Fine) ∧ ∀ p ∈ s.people,p.Fine then 0 else 3
def stateC (w:Wk) (s:Ss):Int:=stateI (worksC w) s.people.length s.tick s.arms.length w.arms.length s.parts.length w.parts.length s.opens.length w.gates.length (stateE w s)
structure Ss.Le (s:Ss):Prop where
 arms:∀ x ∈ s.arms,x.le (2 ^ 30)
 narms:s.arms.length < 2 ^ 40
 parts:∀ f ∈ s.parts,f.le (2 ^ 30)
 nparts:s.parts.length < 2 ^ 40
 people:∀ p ∈ s.people,p.sz ≤ 2 ^ 30
 npeople:s.people.length < 2 ^ 40
 nopens:s.opens.length < 2 ^ 40
theorem any_not {α : Type} {p:α → Prop} [DecidablePred p] (l:List α):(l.any fun x=>!decide (p x)) = !decide (∀ x ∈ l,p x):=by
 by_cases h:∀ x ∈ l,p x
 ·rw [decide_eq_true h]
  have:(l.any fun x=>!decide (p x)) = false:=by rw [List.any_eq_false]; intro x hx; simp [h x hx]
  rw [this]; rfl
 ·rw [decide_eq_false h]
  have:(l.any fun x=>!decide (p x)) = true:=by
   rw [List.any_eq_true]
   exact Classical.byContradiction fun hn=>h fun x hx=>Classical.byContradiction fun hs=>hn ⟨x,hx,by simp [hs]⟩
  rw [this]; rfl
theorem worldCheck_ok (w:Wk) (hw:w.Le) (s:Ss) (hs:s.Le) (r:Int) (hr:r = stateC w s):AE.ACallG GG Tryz.prog 35 [] [.a w.c,.a s.c] [] (.v (.int .i64 r)):=by
 refine AE.ACallG.of_walk (fn:=Tryz.f35) (c:=bodyOf Tryz.f35) GG_stays tabOK Tryz.func35 rfl rfl mixed fun A hA X=>?_
 obtain ⟨wc,hwc⟩:∃ e,e = worksC w:=⟨_,rfl⟩
 have k1:=worksCheck_ok w hw wc hwc
 obtain ⟨zz,hzz⟩:∃ e,e = stateE w s:=⟨_,rfl⟩
 rw [stateC,← hwc,← hzz] at hr
 have w1:=hw.arms
 have w2:=hw.narms
 clear hw hwc
 obtain ⟨arms,walls,parts,slots,gates,walk⟩:=w
 obtain ⟨s1,s2,s3,s4,s5,s6,s7⟩:=hs
 obtain ⟨tick,xs,fs,ps,os⟩:=s
 simp only at s1 s2 s3 s4 s5 s6 s7 w1 w2 hr
 obtain ⟨ea,hea⟩:∃ es,es = lsAv Ar.c arms:=⟨_,rfl⟩
 obtain ⟨ew,hew⟩:∃ es,es = lsAv wallC walls:=⟨_,rfl⟩
 obtain ⟨ep,hep⟩:∃ es,es = lsAv Pt.c parts:=⟨_,rfl⟩
 obtain ⟨es,hes⟩:∃ es,es = lsAv Sl.c slots:=⟨_,rfl⟩
 obtain ⟨eg,heg⟩:∃ es,es = lsAv Gt.c gates:=⟨_,rfl⟩
 obtain ⟨ex,hex⟩:∃ es,es = lsAv As.c xs:=⟨_,rfl⟩
 obtain ⟨ef,hef⟩:∃ es,es = lsAv Fr.c fs:=⟨_,rfl⟩
 obtain ⟨ev,hev⟩:∃ es,es = lsAv V2.c ps:=⟨_,rfl⟩
 obtain ⟨eo,heo⟩:∃ es,es = lsAv boolC os:=⟨_,rfl⟩
 have l1:A.llen ea = (arms.length:Int):=by rw [llen hA,hea,lsAv_len]
 have l2:A.llen ep = (parts.length:Int):=by rw [llen hA,hep,lsAv_len]
 have l3:A.llen eg = (gates.length:Int):=by rw [llen hA,heg,lsAv_len]
 have l4:A.llen ex = (xs.length:Int):=by rw [llen hA,hex,lsAv_len]
 have l5:A.llen ef = (fs.length:Int):=by rw [llen hA,hef,lsAv_len]
 have l6:A.llen ev = (ps.length:Int):=by rw [llen hA,hev,lsAv_len]
 have l7:A.llen eo = (os.length:Int):=by rw [llen hA,heo,lsAv_len]
 have hr:r = stateI wc (A.llen ev) tick (A.llen ex) (A.llen ea) (A.llen ef) (A.llen ep) (A.llen eo) (A.llen eg) zz:=by rw [hr,l1,l2,l3,l4,l5,l6,l7]
 simp only [Wk.c,Ss.c,← hea,← hew,← hep,← hes,← heg,← hex,← hef,← hev,← heo] at k1 ⊢
 (repeat' (first|(refine X.g ?_; cbv)|refine X.splitT ?_|refine X.splitF ?_|refine X.sp (fun hc=>?_) (fun hc=>?_)|refine X.callsGA [] k1 ?_|refine X.needT ?_|fail))
 all_goals first|(refine X.ret _ (X.done rfl ?_); cbv <;> (and_intros <;> first|rfl|trivial|(clear X k1 l1 l2 l3 l4 l5 l6 l7 hzz; rw [hr]; (try simp only [AE.c_lss hA,AE.c_leq hA,AE.c_gtr hA,AE.c_geq hA,AE.c_eql hA,AE.c_neq hA,AE.c_not hA,AE.c_and hA,AE.c_beq hA,AE.c_bne hA,decide_eq_true_eq,decide_eq_false_iff_not,Bool.not_eq_true,Bool.not_eq_false,Bool.not_eq_eq_eq_not,Bool.not_true,Bool.not_false,Int.not_lt,Int.not_le,Int.ofNat_eq_natCast] at *); unfold stateI; first|(simp_all; done)|((repeat' split) <;> first|omega|(simp_all; done)|(simp_all; omega)))))|skip
 have hrz:r = zz:=by
  clear X k1 hzz l1 l2 l3 l4 l5 l6 l7
  simp only [AE.c_lss hA,AE.c_leq hA,AE.c_gtr hA,AE.c_geq hA,AE.c_eql hA,AE.c_neq hA,AE.c_not hA,AE.c_and hA,AE.c_beq hA,AE.c_bne hA,decide_eq_true_eq,decide_eq_false_iff_not,Bool.not_eq_true,Bool.not_eq_false,Bool.not_eq_eq_eq_not,Bool.not_true,Bool.not_false,Int.not_lt,Int.not_le,Int.ofNat_eq_natCast] at *
  rw [hr,stateI,if_neg (by omega),if_neg (by omega),if_neg (by omega)]
 have hxl:xs.length = arms.length:=by
  clear X k1 hzz
  simp only [AE.c_lss hA,AE.c_leq hA,AE.c_gtr hA,AE.c_geq hA,AE.c_eql hA,AE.c_neq hA,AE.c_not hA,AE.c_and hA,AE.c_beq hA,AE.c_bne hA,decide_eq_true_eq,decide_eq_false_iff_not,Bool.not_eq_true,Bool.not_eq_false,Bool.not_eq_eq_eq_not,Bool.not_true,Bool.not_false,Int.not_lt,Int.not_le,Int.ofNat_eq_natCast] at *
  have j1:A.llen ea = (arms.length:Int):=l1
  have j4:A.llen ex = (xs.length:Int):=l4
  omega
 clear k1
 obtain ⟨gm,hgm⟩:∃ gm:Nat → Value → Option Value,∀ i,gm i = setI ((xs.take i).map As.holds):=⟨_,fun _=>rfl⟩
 obtain ⟨ac,hac⟩:∃ z,z = armsC parts.length [] arms xs:=⟨_,rfl⟩
 simp only [stateE,← hac] at hzz
 have hm0:A.mnew = gm 0:=by subst hA; rw [hgm]; rfl
 refine X.loopG _ _ _ (X.frzB 0 _ _ (Nat.zero_le _) (X.frzB 1 _ _ (Nat.zero_le _) ?_))
 (refine X.g ?_; cbv)
 refine rangeLS X hA hex (by omega) (fun i=>ac = armsC parts.length ((xs.take i).map As.holds) (arms.drop i) (xs.drop i)) (fun z _=>[(58,.v (.int .i64 z))]) (fun i o=>o.set 2 (.mp (.int .i64) .bool (gm i))) (by rw [hac]; rfl) ?_ (fun i z y hz hy hey c3 hI B hB=>?_) (fun z c3 hI B=>?_)
 ·(cbv <;> (and_intros <;> first|exact hm0|rfl|trivial))
 ·have hil:i < xs.length:=(List.getElem?_eq_some_iff.1 hy).1
  obtain ⟨a,ha⟩:∃ x,arms[i]? = some x:=⟨_,List.getElem?_eq_getElem (by omega)⟩
  have hea' : ea[i]? = some a.c:=by rw [hea]; exact lsAv_get ha
  have z1:=w1 a (List.mem_of_getElem? ha)
  have z2:=s1 y (List.mem_of_getElem? hy)
  obtain ⟨e,he⟩:∃ e,e = oneC a y (A.llen ep):=⟨_,rfl⟩
  have k1:=worldOne_ok a z1 y z2 (A.llen ep) e he
  rw [l2] at he
  rw [armsC_drop ha hy,← he] at hI
  have hsn:gm (i + 1) = AE.msetF (gm i) (.int .i64 y.holds) (.bool true):=by rw [hgm,hgm,map_snocT As.holds hy,setI_snoc]
  have hmB:A.mB (gm i) (.int .i64 y.holds) = decide (y.holds ∈ (xs.take i).map As.holds):=by rw [hgm]; subst hA; exact mB_setI _ _
  have e9:A.mset (gm i) (.int .i64 y.holds) (.bool true) = gm (i + 1):=by rw [AE.c_mset hA,hsn]
  rw [← map_snocT As.holds hy] at hI
  obtain ⟨yq,yv,yp,yh⟩:=y
  simp only [As.c] at hey k1 hI hmB e9
  by_cases h0:e = 0
  ·have c4:A.cmp .neq e 0 = false:=by rw [AE.c_neq hA,h0]; rfl
   rw [if_neg (by omega)] at hI
   by_cases h1:0 ≤ yh
   ·have c5:A.cmp .geq yh 0 = true:=by rw [AE.c_geq hA]; exact decide_eq_true h1
    by_cases h2:yh ∈ (xs.take i).map As.holds
    ·rw [if_pos ⟨h1,h2⟩] at hI
     rw [decide_eq_true h2] at hmB
     have e1:r = 10:=by rw [hrz,hzz,hI]; rfl
     clear hB
     (repeat' (first|(refine X.g ?_; cbv)|refine X.splitT ?_|refine X.splitF ?_|refine X.sp (fun hc=>?_) (fun hc=>?_)|refine X.needT ?_|refine X.drawX _ _ _ (by kernel_rfl) (X.frzB 3 _ _ (Nat.zero_le _) ?_)|refine X.fork _ _ ?_ ?_|refine X.idx _ _ _ _ _ _ _ _ hey hz ?_|refine X.idx _ _ _ _ _ _ _ _ hea' hz ?_|refine X.callsGA [] k1 ?_|fail))
     all_goals (refine X.ret _ (X.done rfl ?_); cbv <;> (and_intros <;> first|exact e1.symm|rfl|trivial))
    ·rw [if_neg (fun h=>h2 h.2)] at hI
     rw [decide_eq_false h2] at hmB
     (repeat' (first|(refine X.g ?_; cbv)|refine X.splitT ?_|refine X.splitF ?_|refine X.sp (fun hc=>?_) (fun hc=>?_)|refine X.needT ?_|refine X.drawX _ _ _ (by kernel_rfl) (X.frzB 3 _ _ (Nat.zero_le _) ?_)|refine X.fork _ _ ?_ ?_|refine X.idx _ _ _ _ _ _ _ _ hey hz ?_|refine X.idx _ _ _ _ _ _ _ _ hea' hz ?_|refine X.callsGA [] k1 ?_|fail))
     all_goals (refine hB hI _ ?_; clear hB; (cbv <;> (and_intros <;> first|exact e9|rfl|trivial)))
   ·have c5:A.cmp .geq yh 0 = false:=by rw [AE.c_geq hA]; exact decide_eq_false h1
    rw [if_neg (fun h=>h1 h.1)] at hI
    (repeat' (first|(refine X.g ?_; cbv)|refine X.splitT ?_|refine X.splitF ?_|refine X.sp (fun hc=>?_) (fun hc=>?_)|refine X.needT ?_|refine X.drawX _ _ _ (by kernel_rfl) (X.frzB 3 _ _ (Nat.zero_le _) ?_)|refine X.fork _ _ ?_ ?_|refine X.idx _ _ _ _ _ _ _ _ hey hz ?_|refine X.idx _ _ _ _ _ _ _ _ hea' hz ?_|refine X.callsGA [] k1 ?_|fail))
    all_goals (refine hB hI _ ?_; clear hB; (cbv <;> (and_intros <;> first|exact e9|rfl|trivial)))
  ·have c4:A.cmp .neq e 0 = true:=by rw [AE.c_neq hA]; simpa using h0
   rw [if_pos h0] at hI
   have e1:r = e:=by rw [hrz,hzz,hI,if_pos h0]
   clear hB
   (repeat' (first|(refine X.g ?_; cbv)|refine X.splitT ?_|refine X.splitF ?_|refine X.sp (fun hc=>?_) (fun hc=>?_)|refine X.needT ?_|refine X.drawX _ _ _ (by kernel_rfl) (X.frzB 3 _ _ (Nat.zero_le _) ?_)|refine X.fork _ _ ?_ ?_|refine X.idx _ _ _ _ _ _ _ _ hey hz ?_|refine X.idx _ _ _ _ _ _ _ _ hea' hz ?_|refine X.callsGA [] k1 ?_|fail))
   all_goals (refine X.ret _ (X.done rfl ?_); cbv <;> (and_intros <;> first|exact e1.symm|rfl|trivial))
 ·have e0:ac = 0:=by
   rw [hI,List.drop_length]
   unfold armsC
   split
   ·rename_i h _; simp at *
   ·rfl
  obtain ⟨b1,hb1⟩:∃ b,b = fs.any fun x=>!decide x.Fine:=⟨_,rfl⟩
  obtain ⟨b2,hb2⟩:∃ b,b = ps.any fun x=>!decide x.Fine:=⟨_,rfl⟩
  have k1:=hasFrame_ok fs s4 ef hef 102 (fun p=>!decide p.Fine) (fun y hy b hb=>worldCheck1_ok y (s3 y hy) b hb) b1 hb1
  have k2:=hasVec_ok ps s6 ev hev 105 (fun p=>!decide p.Fine) (fun y hy b hb=>worldCheck2_ok y (s5 y hy) b hb) b2 hb2
  rw [any_not] at hb1 hb2
  have hr2:r = if b1 = false ∧ b2 = false then 0 else 3:=by
   rw [hrz,hzz,if_neg (by omega),hb1,hb2]
   simp
  clear hr hrz hzz hI e0 hb1 hb2
  (repeat' (first|(refine X.g ?_; cbv)|refine X.splitT ?_|refine X.splitF ?_|refine X.sp (fun hc=>?_) (fun hc=>?_)|refine X.needT ?_|refine X.callsGA [] k1 ?_|refine X.callsGA [] k2 ?_|fail))
  all_goals (refine X.ret _ (X.done rfl ?_); cbv <;> (and_intros <;> first|rfl|trivial|(clear X k1 k2; rw [hr2]; (try simp only [AE.c_lss hA,AE.c_leq hA,AE.c_gtr hA,AE.c_geq hA,AE.c_eql hA,AE.c_neq hA,AE.c_not hA,AE.c_and hA,AE.c_beq hA,AE.c_bne hA,decide_eq_true_eq,decide_eq_false_iff_not,Bool.not_eq_true,Bool.not_eq_false,Bool.not_eq_eq_eq_not,Bool.not_true,Bool.not_false,Int.not_lt,Int.not_le,Int.ofNat_eq_natCast] at *); clear hA; cases b1 <;> cases b2 <;> first|rfl|contradiction|(simp at *; done))))
def Ss.nil:Ss:=⟨0,[],[],[],[]⟩
theorem stateC_opens {w:Wk} {s:Ss} (h:stateC w s = 0):s.opens.length = w.gates.length ∧ s.people.length ≤ 4 ∧ s.arms.length = w.arms.length ∧ s.parts.length = w.parts.length ∧ worksC w = 0 ∧ stateE w s = 0 ∧ 0 ≤ s.tick ∧ s.tick ≤ 2000:=by
 rw [stateC,stateI] at h
 split at h
 ·omega
 ·split at h
  ·omega
  ·split at h
   ·omega
   ·omega
end Go.Proofs.YthadehkggddgoaaGreatDoor
