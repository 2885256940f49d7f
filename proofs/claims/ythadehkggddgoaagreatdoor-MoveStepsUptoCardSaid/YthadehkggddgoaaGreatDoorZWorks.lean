/- Contracts: works.small, Frame, shape, add, part, slot, gate, each, Check (written by tools/genworks.py). Contract: works.Check. -/
import Derived.Test.YthadehkggddgoaaGreatDoorZMakeD
set_option maxRecDepth 100000
set_option maxHeartbeats 0
section
set_option linter.unusedVariables false
set_option linter.unusedSimpArgs false
namespace Go.Proofs.YthadehkggddgoaaGreatDoor
open Go Go.Num
theorem Q.Small.good {q:Q} (h:q.Small):q.Good:=h.1
instance memDec (s:ByteArray) (ns:List ByteArray):Decidable (s ∈ ns):=decidable_of_iff (ns.any (fun t=>decide (t = s)) = true) (by simp)
theorem worksSmall1_ok (p:V2) (hp:p.sz ≤ 2 ^ 28) (r:Bool) (hr:r = !decide p.Small):AE.ACallG GG Tryz.prog 225 [] [.a p.c] [] (.b r):=by
 simp only [V2.sz] at hp
 refine AE.ACallG.of_walk (fn:=Tryz.f225) (c:=bodyOf Tryz.f225) GG_stays tabOK Tryz.func225 rfl rfl mixed fun A hA X=>?_
 obtain ⟨g1,hg1⟩:∃ g,g = decide p.x.Good:=⟨_,rfl⟩
 obtain ⟨g2,hg2⟩:∃ g,g = decide p.y.Good:=⟨_,rfl⟩
 obtain ⟨s1,hs1⟩:∃ g,g = decide p.x.Small:=⟨_,rfl⟩
 obtain ⟨s2,hs2⟩:∃ g,g = decide p.y.Small:=⟨_,rfl⟩
 have k1:=good_ok p.x (by omega) g1 hg1
 have k2:=good_ok p.y (by omega) g2 hg2
 have k3:=small_ok p.x (by omega) s1 hs1
 have k4:=small_ok p.y (by omega) s2 hs2
 have i1:s1 = true → g1 = true:=fun h=>by rw [hg1]; rw [hs1] at h; exact decide_eq_true (of_decide_eq_true h).1
 have i2:s2 = true → g2 = true:=fun h=>by rw [hg2]; rw [hs2] at h; exact decide_eq_true (of_decide_eq_true h).1
 have hr2:r = !(s1 && s2):=by
  rw [hr,hs1,hs2]; congr 1; rw [Bool.eq_iff_iff]; simp only [Bool.and_eq_true,decide_eq_true_eq]; rfl
 clear hr
 (repeat' (first|(refine X.g ?_; cbv)|refine X.splitT ?_|refine X.splitF ?_|refine X.sp (fun hc=>?_) (fun hc=>?_)|refine X.needT ?_|refine X.callsGA [] k1 ?_|refine X.callsGA [] k2 ?_|refine X.callsGA [] k3 ?_|refine X.callsGA [] k4 ?_))
 all_goals (refine X.ret _ (X.done rfl ?_); cbv <;> (and_intros <;> first|rfl|trivial|(clear X k1 k2 k3 k4 hg1 hg2 hs1 hs2 hp; rw [hr2]; (try simp only [AE.c_lss hA,AE.c_leq hA,AE.c_gtr hA,AE.c_geq hA,AE.c_eql hA,AE.c_neq hA,AE.c_not hA,AE.c_and hA,AE.c_beq hA,AE.c_bne hA,decide_eq_true_eq,decide_eq_false_iff_not,Bool.not_eq_true,Bool.not_eq_false,Bool.not_eq_eq_eq_not,Bool.not_true,Bool.not_false,Int.not_lt,Int.not_le,Int.ofNat_eq_natCast] at *); clear hA hr2; cases s1 <;> cases s2 <;> cases g1 <;> cases g2 <;> first|rfl|contradiction|exact absurd (i1 rfl) (by decide)|exact absurd (i2 rfl) (by decide))))
theorem worksSmall_ok (l:List V2) (hsz:∀ p ∈ l,p.sz ≤ 2 ^ 28) (hl:l.length < 2 ^ 40) (es:List (List AE.AV)) (hes:es = lsAv V2.c l) (r:Bool) (hr:r = decide (∀ p ∈ l,p.Small)):AE.ACallG GG Tryz.prog 201 [] [.l 6 es] [] (.b r):=by
 refine AE.ACallG.of_walk (fn:=Tryz.f201) (c:=bodyOf Tryz.f201) GG_stays tabOK Tryz.func201 rfl rfl mixed fun A hA X=>?_
 obtain ⟨b,hb⟩:∃ b,b = l.any fun p=>!decide p.Small:=⟨_,rfl⟩
 have k1:=hasVec_ok l hl es hes 225 (fun p=>!decide p.Small) (fun y hy b hb=>worksSmall1_ok y (hsz y hy) b hb) b hb
 have e1:A.bnot b = r:=by
  rw [AE.c_not hA,hr,hb]
  by_cases h:∀ p ∈ l,p.Small
  ·rw [decide_eq_true h]
   have:(l.any fun p=>!decide p.Small) = false:=by rw [List.any_eq_false]; intro x hx; simp [h x hx]
   rw [this]; rfl
  ·rw [decide_eq_false h]
   have:(l.any fun p=>!decide p.Small) = true:=by
    rw [List.any_eq_true]
    exact Classical.byContradiction fun hn=>h fun p hp=>Classical.byContradiction fun hs=>hn ⟨p,hp,by simp [hs]⟩
   rw [this]; rfl
 (repeat' (first|(refine X.g ?_; cbv)|refine X.splitT ?_|refine X.splitF ?_|refine X.sp (fun hc=>?_) (fun hc=>?_)|refine X.callsGA [] k1 ?_|refine X.needT ?_))
 all_goals (refine X.ret _ (X.done rfl ?_); cbv <;> (and_intros <;> first|exact e1|rfl|trivial))
def frameI (sm:Bool) (st:Bool) (half:Bool) (z:Int):Bool:=sm && st && (!half || decide (z = 0))
def frameB (f:Fr):Bool:=frameI (decide f.at_.Small) (decide f.turn.t.Small) f.turn.half (sgnR f.turn.t.v)
theorem worksFrame_ok (f:Fr) (hf:f.le (2 ^ 28)) (r:Bool) (hr:r = frameB f):AE.ACallG GG Tryz.prog 202 [] [.a f.c] [] (.b r):=by
 obtain ⟨z1,z2⟩:=hf
 obtain ⟨p,half,t⟩:=f
 simp only at z1 z2
 refine AE.ACallG.of_walk (fn:=Tryz.f202) (c:=bodyOf Tryz.f202) GG_stays tabOK Tryz.func202 rfl rfl mixed fun A hA X=>?_
 obtain ⟨sm,hsm⟩:∃ b,b = decide (∀ q ∈ [p],q.Small):=⟨_,rfl⟩
 have hsm2:decide p.Small = sm:=by rw [hsm]; congr 1; simp
 obtain ⟨g,hg⟩:∃ b,b = decide t.Good:=⟨_,rfl⟩
 obtain ⟨st,hst⟩:∃ b,b = decide t.Small:=⟨_,rfl⟩
 obtain ⟨z,hz⟩:∃ z,z = sgnR t.v:=⟨_,rfl⟩
 have hr2:r = frameI sm st half z:=by rw [hr,frameB,hsm2,← hst,← hz]
 clear hr
 have i1:st = true → g = true:=fun h=>by rw [hg]; rw [hst] at h; exact decide_eq_true (of_decide_eq_true h).1
 have k1:=worksSmall_ok [p] (by simpa using z1) (by simp) [p.c] (by rw [lsAv_eq]; rfl) sm hsm
 have k2:=good_ok t (by omega) g hg
 have k3:=small_ok t (by omega) st hst
 have k4:=sign_ok t (by omega) z hz
 (repeat' (first|(refine X.g ?_; cbv)|refine X.splitT ?_|refine X.splitF ?_|refine X.sp (fun hc=>?_) (fun hc=>?_)|refine X.needT ?_|(refine X.isCall ?_; refine X.lendsG [1] k1 rfl ?_ (by cbv) ?_; focus (cbv <;> (and_intros <;> first|rfl|trivial)))|refine X.callsGA [] k2 ?_|refine X.callsGA [] k3 ?_|refine X.callsGA [] k4 ?_))
 all_goals (refine X.ret _ (X.done rfl ?_); cbv <;> (and_intros <;> first|rfl|trivial|(clear X k1 k2 k3 k4 hg hst hsm hsm2 hz z1 z2; rw [hr2]; (try simp only [AE.c_lss hA,AE.c_leq hA,AE.c_gtr hA,AE.c_geq hA,AE.c_eql hA,AE.c_neq hA,AE.c_not hA,AE.c_and hA,AE.c_beq hA,AE.c_bne hA,decide_eq_true_eq,decide_eq_false_iff_not,Bool.not_eq_true,Bool.not_eq_false,Bool.not_eq_eq_eq_not,Bool.not_true,Bool.not_false,Int.not_lt,Int.not_le,Int.ofNat_eq_natCast] at *); clear hA hr2; unfold frameI; cases sm <;> cases st <;> cases half <;> cases g <;> first|rfl|contradiction|exact absurd (i1 rfl) (by decide)|(rw [decide_eq_true (by omega)]; rfl)|(rw [decide_eq_false (by omega)]; rfl)|simp)))
def shapeI (pc:Int) (sm:Bool):Int:=if pc ≠ 0 then pc else if sm = true then 0 else 1
def shapeC (l:List V2):Int:=shapeI (polyC 8 l) (decide (∀ p ∈ l,p.Small))
theorem worksShape_ok (l:List V2) (hsz:∀ p ∈ l,p.sz ≤ 2 ^ 28) (hl:l.length < 2 ^ 40) (es:List (List AE.AV)) (hes:es = lsAv V2.c l) (r:Int) (hr:r = shapeC l):AE.ACallG GG Tryz.prog 144 [] [.l 6 es] [] (.v (.int .i64 r)):=by
 refine AE.ACallG.of_walk (fn:=Tryz.f144) (c:=bodyOf Tryz.f144) GG_stays tabOK Tryz.func144 rfl rfl mixed fun A hA X=>?_
 obtain ⟨pc,hpc⟩:∃ z,z = polyC 8 l:=⟨_,rfl⟩
 obtain ⟨sm,hsm⟩:∃ b,b = decide (∀ q ∈ l,q.Small):=⟨_,rfl⟩
 have hr:r = shapeI pc sm:=by rw [hr,shapeC,← hpc,← hsm]
 have k1:=polyCheck8_ok l hsz hl es hes pc hpc
 have k2:=worksSmall_ok l hsz hl es hes sm hsm
 (repeat' (first|(refine X.g ?_; cbv)|refine X.splitT ?_|refine X.splitF ?_|refine X.sp (fun hc=>?_) (fun hc=>?_)|refine X.callsGA [] k1 ?_|refine X.callsGA [] k2 ?_|refine X.needT ?_))
 all_goals (refine X.ret _ (X.done rfl ?_); cbv <;> (and_intros <;> first|rfl|trivial|(clear X k1 k2 hsm hpc; rw [hr]; (try simp only [AE.c_lss hA,AE.c_leq hA,AE.c_gtr hA,AE.c_geq hA,AE.c_eql hA,AE.c_neq hA,AE.c_not hA,AE.c_and hA,AE.c_beq hA,AE.c_bne hA,decide_eq_true_eq,decide_eq_false_iff_not,Bool.not_eq_true,Bool.not_eq_false,Bool.not_eq_eq_eq_not,Bool.not_true,Bool.not_false,Int.not_lt,Int.not_le,Int.ofNat_eq_natCast] at *); unfold shapeI; first|(simp_all; done)|((repeat' split) <;> first|omega|(simp_all; done)|(simp_all; omega)))))
noncomputable def setF (ns:List ByteArray):Value → Option Value:=ns.foldl (fun g s=>AE.msetF g (.string s) (.bool true)) (fun _=>none)
theorem setF_snoc (ns:List ByteArray) (s:ByteArray):setF (ns ++ [s]) = AE.msetF (setF ns) (.string s) (.bool true):=by simp [setF,List.foldl_append]
theorem mB_setF (ns:List ByteArray) (s:ByteArray):AE.std.mB (setF ns) (.string s) = decide (s ∈ ns):=by
 rcases List.eq_nil_or_concat ns with rfl|⟨m,x,rfl⟩
 ·rfl
 ·rw [List.concat_eq_append,setF_snoc]
  have ih:=mB_setF m s
  by_cases h:x = s
  ·subst h; simp [AE.std,AE.msetF]
  ·have h2:¬ (Value.string s = Value.string x):=fun e=>by cases e; exact h rfl
   have:AE.std.mB (AE.msetF (setF m) (.string x) (.bool true)) (.string s) = AE.std.mB (setF m) (.string s):=by simp [AE.std,AE.msetF,h2]
   rw [this,ih]
   congr 1
   exact propext ⟨fun h=>List.mem_append_left _ h,fun hh=>(List.mem_append.1 hh).elim id fun h3=>absurd (List.mem_singleton.1 h3).symm h⟩
termination_by ns.length
def addN (ns:List ByteArray) (s:ByteArray):Int × List ByteArray:=if ¬ nameOK s then (3,ns) else if s ∈ ns then (5,ns) else (0,ns ++ [s])
theorem worksAdd_ok (ns:List ByteArray) (s:ByteArray) (hs:s.size < 2 ^ 60) (g g' : Value → Option Value) (e:Int) (hg:g = setF ns) (hg' : g' = setF (addN ns s).2) (he:e = (addN ns s).1):AE.ACallG GG Tryz.prog 141 [.mp .str .bool g] [.r 0,.v (.string s)] [.mp .str .bool g'] (.v (.int .i64 e)):=by
 refine AE.ACallG.of_walk (fn:=Tryz.f141) (c:=bodyOf Tryz.f141) GG_stays tabOK Tryz.func141 rfl rfl mixed fun A hA X=>?_
 obtain ⟨nm,hnm⟩:∃ b,b = decide (nameOK s):=⟨_,rfl⟩
 have k1:=worksName_ok s hs nm hnm
 by_cases h1:nameOK s
 ·have c1:A.bnot nm = false:=by rw [AE.c_not hA,hnm,decide_eq_true h1]; rfl
  have c2:A.mB g (.string s) = decide (s ∈ ns):=by subst hA; rw [hg,mB_setF]
  by_cases h2:s ∈ ns
  ·have c2:A.mB g (.string s) = true:=by rw [c2]; exact decide_eq_true h2
   rw [addN,if_neg (by simpa using h1),if_pos h2] at he hg'
   have e1:g = g' := by rw [hg,hg']
   (repeat' (first|(refine X.g ?_; cbv)|refine X.splitT ?_|refine X.splitF ?_|refine X.sp (fun hc=>?_) (fun hc=>?_)|refine X.callsGA [] k1 ?_|refine X.needT ?_))
   all_goals (refine X.ret _ (X.done rfl ?_); cbv <;> (and_intros <;> first|exact he.symm|exact e1|rfl|trivial))
  ·have c2:A.mB g (.string s) = false:=by rw [c2]; exact decide_eq_false h2
   rw [addN,if_neg (by simpa using h1),if_neg h2] at he hg'
   have e1:A.mset g (.string s) (.bool true) = g' := by rw [AE.c_mset hA,hg,hg', setF_snoc]
   (repeat' (first|(refine X.g ?_; cbv)|refine X.splitT ?_|refine X.splitF ?_|refine X.sp (fun hc=>?_) (fun hc=>?_)|refine X.callsGA [] k1 ?_|refine X.needT ?_))
   all_goals (refine X.ret _ (X.done rfl ?_); cbv <;> (and_intros <;> first|exact he.symm|exact e1|rfl|trivial))
 ·have c1:A.bnot nm = true:=by rw [AE.c_not hA,hnm,decide_eq_false h1]; rfl
  rw [addN,if_pos h1] at he hg'
  have e1:g = g' := by rw [hg,hg']
  (repeat' (first|(refine X.g ?_; cbv)|refine X.splitT ?_|refine X.splitF ?_|refine X.sp (fun hc=>?_) (fun hc=>?_)|refine X.callsGA [] k1 ?_|refine X.needT ?_))
  all_goals (refine X.ret _ (X.done rfl ?_); cbv <;> (and_intros <;> first|exact he.symm|exact e1|rfl|trivial))
def armN (ns:List ByteArray) (a:Ar):Int × List ByteArray:=if armC a ≠ 0 then (armC a,ns) else addN ns a.name
def Pt.le (p:Pt) (n:Nat):Prop:=p.name.size < 2 ^ 60 ∧ (∀ q ∈ p.shape,q.sz ≤ n) ∧ p.shape.length < 2 ^ 40 ∧ p.grasp.le n
def Sl.le (p:Sl) (n:Nat):Prop:=p.name.size < 2 ^ 60 ∧ p.frame.le n ∧ p.within.sz ≤ n
def Gt.le (p:Gt) (n:Nat):Prop:=p.name.size < 2 ^ 60 ∧ p.zone.low.sz ≤ n ∧ p.zone.high.sz ≤ n
def partI (e sh:Int) (fr:Bool):Int:=if e ≠ 0 then e else if sh ≠ 0 then sh else if fr = true then 0 else 1
def partN (ns:List ByteArray) (p:Pt):Int × List ByteArray:=(partI (addN ns p.name).1 (shapeC p.shape) (frameB p.grasp),(addN ns p.name).2)
def slotI (e:Int) (fr sm:Bool) (z:Int):Int:=if e ≠ 0 then e else if fr = true ∧ sm = true ∧ 0 < z then 0 else 1
def slotN (ns:List ByteArray) (p:Sl):Int × List ByteArray:=(slotI (addN ns p.name).1 (frameB p.frame) (decide p.within.Small) (sgnR p.within.v),(addN ns p.name).2)
def gateI (e:Int) (sm:Bool) (z1 z2:Int):Int:=if e ≠ 0 then e else if sm = true ∧ z1 ≤ 0 ∧ z2 ≤ 0 then 0 else 1
def gateN (ns:List ByteArray) (p:Gt):Int × List ByteArray:=(gateI (addN ns p.name).1 (decide (∀ q ∈ [p.zone.low,p.zone.high],q.Small)) (cmpR p.zone.low.x.v p.zone.high.x.v) (cmpR p.zone.low.y.v p.zone.high.y.v),(addN ns p.name).2)
theorem worksPart_ok (ns:List ByteArray) (p:Pt) (hp:p.le (2 ^ 28)) (g g' : Value → Option Value) (e:Int) (hg:g = setF ns) (hg' : g' = setF (partN ns p).2) (he:e = (partN ns p).1):AE.ACallG GG Tryz.prog 146 [.mp .str .bool g] [.r 0,.a p.c] [.mp .str .bool g'] (.v (.int .i64 e)):=by
 obtain ⟨z1,z2,z3,z4⟩:=hp
 obtain ⟨name,l,fr⟩:=p
 simp only at z1 z2 z3 z4
 refine AE.ACallG.of_walk (fn:=Tryz.f146) (c:=bodyOf Tryz.f146) GG_stays tabOK Tryz.func146 rfl rfl mixed fun A hA X=>?_
 obtain ⟨u,hu⟩:∃ u,u = (addN ns name).1:=⟨_,rfl⟩
 obtain ⟨sh,hsh⟩:∃ u,u = shapeC l:=⟨_,rfl⟩
 obtain ⟨fo,hfo⟩:∃ u,u = frameB fr:=⟨_,rfl⟩
 obtain ⟨es,hes⟩:∃ es,es = lsAv V2.c l:=⟨_,rfl⟩
 have hr:e = partI u sh fo:=by rw [he,partN,hu,hsh,hfo]
 have k1:=worksAdd_ok ns name z1 g g' u hg hg' hu
 have k2:=worksShape_ok l z2 z3 es hes sh hsh
 have k3:=worksFrame_ok fr z4 fo hfo
 clear hg hg' he
 simp only [Pt.c,← hes]
 (repeat' (first|(refine X.g ?_; cbv)|refine X.splitT ?_|refine X.splitF ?_|refine X.sp (fun hc=>?_) (fun hc=>?_)|refine X.needT ?_|refine X.callsGA [0] k1 ?_|refine X.callsGA [] k2 ?_|refine X.callsGA [] k3 ?_))
 all_goals (refine X.ret _ (X.done rfl ?_); cbv <;> (and_intros <;> first|rfl|trivial|(clear X k1 k2 k3 hu hsh hfo; rw [hr]; (try simp only [AE.c_lss hA,AE.c_leq hA,AE.c_gtr hA,AE.c_geq hA,AE.c_eql hA,AE.c_neq hA,AE.c_not hA,AE.c_and hA,AE.c_beq hA,AE.c_bne hA,decide_eq_true_eq,decide_eq_false_iff_not,Bool.not_eq_true,Bool.not_eq_false,Bool.not_eq_eq_eq_not,Bool.not_true,Bool.not_false,Int.not_lt,Int.not_le,Int.ofNat_eq_natCast] at *); unfold partI; first|(simp_all; done)|((repeat' split) <;> first|omega|(simp_all; done)|(simp_all; omega)))))
theorem worksSlot_ok (ns:List ByteArray) (p:Sl) (hp:p.le (2 ^ 28)) (g g' : Value → Option Value) (e:Int) (hg:g = setF ns) (hg' : g' = setF (slotN ns p).2) (he:e = (slotN ns p).1):AE.ACallG GG Tryz.prog 148 [.mp .str .bool g] [.r 0,.a p.c] [.mp .str .bool g'] (.v (.int .i64 e)):=by
 obtain ⟨z1,z2,z3⟩:=hp
 obtain ⟨name,fr,t⟩:=p
 simp only at z1 z2 z3
 refine AE.ACallG.of_walk (fn:=Tryz.f148) (c:=bodyOf Tryz.f148) GG_stays tabOK Tryz.func148 rfl rfl mixed fun A hA X=>?_
 obtain ⟨u,hu⟩:∃ u,u = (addN ns name).1:=⟨_,rfl⟩
 obtain ⟨fo,hfo⟩:∃ u,u = frameB fr:=⟨_,rfl⟩
 obtain ⟨gd,hgd⟩:∃ u,u = decide t.Good:=⟨_,rfl⟩
 obtain ⟨sm,hsm⟩:∃ u,u = decide t.Small:=⟨_,rfl⟩
 obtain ⟨z,hz⟩:∃ u,u = sgnR t.v:=⟨_,rfl⟩
 have hr:e = slotI u fo sm z:=by rw [he,slotN,hu,hfo,hsm,hz]
 have i1:sm = true → gd = true:=fun h=>by rw [hgd]; rw [hsm] at h; exact decide_eq_true (of_decide_eq_true h).1
 have k1:=worksAdd_ok ns name z1 g g' u hg hg' hu
 have k2:=worksFrame_ok fr z2 fo hfo
 have k3:=good_ok t (by omega) gd hgd
 have k4:=small_ok t (by omega) sm hsm
 have k5:=sign_ok t (by omega) z hz
 clear hg hg' he
 (repeat' (first|(refine X.g ?_; cbv)|refine X.splitT ?_|refine X.splitF ?_|refine X.sp (fun hc=>?_) (fun hc=>?_)|refine X.needT ?_|refine X.callsGA [0] k1 ?_|refine X.callsGA [] k2 ?_|refine X.callsGA [] k3 ?_|refine X.callsGA [] k4 ?_|refine X.callsGA [] k5 ?_))
 all_goals (refine X.ret _ (X.done rfl ?_); cbv <;> (and_intros <;> first|rfl|trivial|(clear X k1 k2 k3 k4 k5 hu hfo hgd hsm hz; rw [hr]; (try simp only [AE.c_lss hA,AE.c_leq hA,AE.c_gtr hA,AE.c_geq hA,AE.c_eql hA,AE.c_neq hA,AE.c_not hA,AE.c_and hA,AE.c_beq hA,AE.c_bne hA,decide_eq_true_eq,decide_eq_false_iff_not,Bool.not_eq_true,Bool.not_eq_false,Bool.not_eq_eq_eq_not,Bool.not_true,Bool.not_false,Int.not_lt,Int.not_le,Int.ofNat_eq_natCast] at *); unfold slotI; first|(simp_all; done)|((repeat' split) <;> first|omega|(simp_all; done)|(simp_all; omega)))))
theorem worksGate_ok (ns:List ByteArray) (p:Gt) (hp:p.le (2 ^ 28)) (g g' : Value → Option Value) (e:Int) (hg:g = setF ns) (hg' : g' = setF (gateN ns p).2) (he:e = (gateN ns p).1):AE.ACallG GG Tryz.prog 150 [.mp .str .bool g] [.r 0,.a p.c] [.mp .str .bool g'] (.v (.int .i64 e)):=by
 obtain ⟨z1,z2,z3⟩:=hp
 obtain ⟨name,lo,hi⟩:=p
 simp only at z1 z2 z3
 have z4:=z2
 have z5:=z3
 simp only [V2.sz] at z4 z5
 refine AE.ACallG.of_walk (fn:=Tryz.f150) (c:=bodyOf Tryz.f150) GG_stays tabOK Tryz.func150 rfl rfl mixed fun A hA X=>?_
 obtain ⟨u,hu⟩:∃ u,u = (addN ns name).1:=⟨_,rfl⟩
 obtain ⟨sm,hsm⟩:∃ u,u = decide (∀ q ∈ [lo,hi],q.Small):=⟨_,rfl⟩
 obtain ⟨y1,hy1⟩:∃ u,u = cmpR lo.x.v hi.x.v:=⟨_,rfl⟩
 obtain ⟨y2,hy2⟩:∃ u,u = cmpR lo.y.v hi.y.v:=⟨_,rfl⟩
 have hr:e = gateI u sm y1 y2:=by rw [he,gateN,hu,hsm,hy1,hy2]
 have k1:=worksAdd_ok ns name z1 g g' u hg hg' hu
 have k2:=worksSmall_ok [lo,hi] (by simp only [List.mem_cons,List.not_mem_nil,or_false,forall_eq_or_imp,forall_eq]; exact ⟨z2,z3⟩) (by simp) [lo.c,hi.c] (by rw [lsAv_eq]; rfl) sm hsm
 have k3:=ratCmp_ok lo.x hi.x (by omega) (by omega) y1 hy1
 have k4:=ratCmp_ok lo.y hi.y (by omega) (by omega) y2 hy2
 clear hg hg' he
 (repeat' (first|(refine X.g ?_; cbv)|refine X.splitT ?_|refine X.splitF ?_|refine X.sp (fun hc=>?_) (fun hc=>?_)|refine X.needT ?_|refine X.callsGA [0] k1 ?_|(refine X.isCall ?_; refine X.lendsG [2] k2 rfl ?_ (by cbv) ?_; focus (cbv <;> (and_intros <;> first|rfl|trivial)))|refine X.callsGA [] k3 ?_|refine X.callsGA [] k4 ?_))
 all_goals (refine X.ret _ (X.done rfl ?_); cbv <;> (and_intros <;> first|rfl|trivial|(clear X k1 k2 k3 k4 hu hsm hy1 hy2; rw [hr]; (try simp only [AE.c_lss hA,AE.c_leq hA,AE.c_gtr hA,AE.c_geq hA,AE.c_eql hA,AE.c_neq hA,AE.c_not hA,AE.c_and hA,AE.c_beq hA,AE.c_bne hA,decide_eq_true_eq,decide_eq_false_iff_not,Bool.not_eq_true,Bool.not_eq_false,Bool.not_eq_eq_eq_not,Bool.not_true,Bool.not_false,Int.not_lt,Int.not_le,Int.ofNat_eq_natCast] at *); unfold gateI; first|(simp_all; done)|((repeat' split) <;> first|omega|(simp_all; done)|(simp_all; omega)))))
theorem worksArm1_ok (ns:List ByteArray) (a:Ar) (ha:a.le (2 ^ 28)) (g g' : Value → Option Value) (e:Int) (hg:g = setF ns) (hg' : g' = setF (armN ns a).2) (he:e = (armN ns a).1):AE.ACallG GG Tryz.prog 140 [.box [.r 1] 195,.mp .str .bool g] [.a a.c,.p 0 0] [.box [.r 1] 195,.mp .str .bool g'] (.v (.int .i64 e)):=by
 refine AE.ACallG.of_walk (fn:=Tryz.f140) (c:=bodyOf Tryz.f140) GG_stays tabOK Tryz.func140 rfl rfl mixed fun A hA X=>?_
 obtain ⟨ac,hac⟩:∃ u,u = armC a:=⟨_,rfl⟩
 have k1:=armCheck_ok a ha ac hac
 have zn:=ha.1
 obtain ⟨name,fr,l⟩:=a
 simp only at zn
 obtain ⟨es,hes⟩:∃ es,es = lsAv Lk.c l:=⟨_,rfl⟩
 simp only [Ar.c,← hes] at k1 ⊢
 rw [armN,← hac] at hg' he
 by_cases h0:ac = 0
 ·have c1:A.cmp .neq ac 0 = false:=by rw [AE.c_neq hA,h0]; rfl
  rw [if_neg (by omega)] at hg' he
  have k2:=worksAdd_ok ns name zn g g' e hg hg' he
  (repeat' (first|(refine X.g ?_; cbv)|refine X.splitT ?_|refine X.splitF ?_|refine X.sp (fun hc=>?_) (fun hc=>?_)|refine X.needT ?_|refine X.callsGA [] k1 ?_|refine X.callsGA [1] k2 ?_))
  all_goals (refine X.ret _ (X.done rfl ?_); cbv <;> (and_intros <;> first|rfl|trivial))
 ·have c1:A.cmp .neq ac 0 = true:=by rw [AE.c_neq hA]; simpa using h0
  rw [if_pos h0] at hg' he
  have e1:g = g' := by rw [hg,hg']
  (repeat' (first|(refine X.g ?_; cbv)|refine X.splitT ?_|refine X.splitF ?_|refine X.sp (fun hc=>?_) (fun hc=>?_)|refine X.needT ?_|refine X.callsGA [] k1 ?_))
  all_goals (refine X.ret _ (X.done rfl ?_); cbv <;> (and_intros <;> first|exact he.symm|exact e1|rfl|trivial))
def eachN {α : Type} (f:List ByteArray → α → Int × List ByteArray):List ByteArray → List α → Int × List ByteArray
 | ns,[]=>(0,ns)
 | ns,x :: l=>if (f ns x).1 ≠ 0 then f ns x else eachN f (f ns x).2 l
theorem eachN_drop {α : Type} {f:List ByteArray → α → Int × List ByteArray} {l:List α} {i:Nat} {y:α} {ns:List ByteArray} (h:l[i]? = some y):eachN f ns (l.drop i) = if (f ns y).1 ≠ 0 then f ns y else eachN f (f ns y).2 (l.drop (i + 1)):=by
 obtain ⟨hi,rfl⟩:=List.getElem?_eq_some_iff.1 h
 rw [List.drop_eq_getElem_cons hi,eachN]
def nmAt {α : Type} (f:List ByteArray → α → Int × List ByteArray) (ns:List ByteArray) (l:List α) (i:Nat):List ByteArray:=(l.take i).foldl (fun ns x=>(f ns x).2) ns
theorem nmAt_succ {α : Type} {f:List ByteArray → α → Int × List ByteArray} {ns:List ByteArray} {l:List α} {i:Nat} {y:α} (h:l[i]? = some y):nmAt f ns l (i + 1) = (f (nmAt f ns l i) y).2:=by
 rw [nmAt,List.take_add_one,h,List.foldl_append]; rfl
theorem eachArm_ok (ns:List ByteArray) (l:List Ar) (hsz:∀ p ∈ l,p.le (2 ^ 28)) (hl:l.length < 2 ^ 40) (es:List (List AE.AV)) (hes:es = lsAv Ar.c l) (g g' : Value → Option Value) (r:Int) (hg:g = setF ns) (hg' : g' = setF (eachN armN ns l).2) (hr:r = (eachN armN ns l).1):AE.ACallG GG Tryz.prog 142 [.box [.r 1] 195,.mp .str .bool g] [.l 12 es,.f 140 [.p 0 0]] [.box [.r 1] 195,.mp .str .bool g'] (.v (.int .i64 r)):=by
 refine AE.ACallG.of_walk (fn:=Tryz.f142) (c:=bodyOf Tryz.f142) GG_stays tabOK Tryz.func142 rfl rfl mixed fun A hA X=>?_
 obtain ⟨gm,hgm⟩:∃ gm:Nat → Value → Option Value,∀ i,gm i = setF (nmAt armN ns l i):=⟨_,fun _=>rfl⟩
 have hg0:g = gm 0:=by rw [hg,hgm]; rfl
 (repeat' (first|(refine X.g ?_; cbv)|refine X.splitT ?_|refine X.splitF ?_|refine X.sp (fun hc=>?_) (fun hc=>?_)|refine X.needT ?_))
 refine rangeL X hA hes (by omega) (fun i=>eachN armN ns l = eachN armN (nmAt armN ns l i) (l.drop i)) (fun z _=>[(10,.v (.int .i64 z))]) (fun i=>[.box [.r 1] 195,.mp .str .bool (gm i)]) rfl ?_ (fun i z y hz hy he c3 hI B hB=>?_) (fun z c3 hI B=>?_)
 ·(cbv <;> (and_intros <;> first|exact hg0|rfl|trivial))
 ·obtain ⟨e,hee⟩:∃ e,e = (armN (nmAt armN ns l i) y).1:=⟨_,rfl⟩
  have hs1:gm (i + 1) = setF (armN (nmAt armN ns l i) y).2:=by rw [hgm,nmAt_succ hy]
  have k1:=worksArm1_ok (nmAt armN ns l i) y (hsz y (List.mem_of_getElem? hy)) (gm i) (gm (i + 1)) e (hgm i) hs1 hee
  rw [eachN_drop hy,← hee] at hI
  by_cases h0:e = 0
  ·have c4:A.cmp .neq e 0 = false:=by rw [AE.c_neq hA,h0]; rfl
   rw [if_neg (by omega),← nmAt_succ hy] at hI
   (repeat' (first|(refine X.g ?_; cbv)|refine X.splitT ?_|refine X.splitF ?_|refine X.sp (fun hc=>?_) (fun hc=>?_)|refine X.needT ?_|refine X.idx _ _ _ _ _ _ _ _ he hz ?_|refine X.callsGA [0,1] k1 ?_))
   all_goals (refine hB hI _ ?_; clear hB; (cbv <;> (and_intros <;> first|rfl|trivial)))
  ·have c4:A.cmp .neq e 0 = true:=by rw [AE.c_neq hA]; simpa using h0
   rw [if_pos h0] at hI
   have e1:e = r:=by rw [hr,hI]; exact hee
   have e2:gm (i + 1) = g' := by rw [hs1,hg', hI]
   clear hB
   (repeat' (first|(refine X.g ?_; cbv)|refine X.splitT ?_|refine X.splitF ?_|refine X.sp (fun hc=>?_) (fun hc=>?_)|refine X.needT ?_|refine X.idx _ _ _ _ _ _ _ _ he hz ?_|refine X.callsGA [0,1] k1 ?_))
   all_goals (refine X.ret _ (X.done rfl ?_); cbv <;> (and_intros <;> first|exact e1|exact e2|rfl|trivial))
 ·rw [List.drop_length] at hI
  have e1:0 = r:=by rw [hr,hI]; rfl
  have e2:gm l.length = g' := by rw [hgm,hg', hI]; rfl
  (repeat' (first|(refine X.g ?_; cbv)|refine X.splitT ?_|refine X.splitF ?_|refine X.sp (fun hc=>?_) (fun hc=>?_)|refine X.needT ?_))
  all_goals (refine X.ret _ (X.done rfl ?_); cbv <;> (and_intros <;> first|exact e1|exact e2|rfl|trivial))
theorem eachPart_ok (ns:List ByteArray) (l:List Pt) (hsz:∀ p ∈ l,p.le (2 ^ 28)) (hl:l.length < 2 ^ 40) (es:List (List AE.AV)) (hes:es = lsAv Pt.c l) (g g' : Value → Option Value) (r:Int) (hg:g = setF ns) (hg' : g' = setF (eachN partN ns l).2) (hr:r = (eachN partN ns l).1):AE.ACallG GG Tryz.prog 145 [.mp .str .bool g] [.l 12 es,.f 1000146 [.r 0]] [.mp .str .bool g'] (.v (.int .i64 r)):=by
 refine AE.ACallG.of_walk (fn:=Tryz.f145) (c:=bodyOf Tryz.f145) GG_stays tabOK Tryz.func145 rfl rfl mixed fun A hA X=>?_
 obtain ⟨gm,hgm⟩:∃ gm:Nat → Value → Option Value,∀ i,gm i = setF (nmAt partN ns l i):=⟨_,fun _=>rfl⟩
 have hg0:g = gm 0:=by rw [hg,hgm]; rfl
 (repeat' (first|(refine X.g ?_; cbv)|refine X.splitT ?_|refine X.splitF ?_|refine X.sp (fun hc=>?_) (fun hc=>?_)|refine X.needT ?_))
 refine rangeL X hA hes (by omega) (fun i=>eachN partN ns l = eachN partN (nmAt partN ns l i) (l.drop i)) (fun z _=>[(10,.v (.int .i64 z))]) (fun i=>[.mp .str .bool (gm i)]) rfl ?_ (fun i z y hz hy he c3 hI B hB=>?_) (fun z c3 hI B=>?_)
 ·(cbv <;> (and_intros <;> first|exact hg0|rfl|trivial))
 ·obtain ⟨e,hee⟩:∃ e,e = (partN (nmAt partN ns l i) y).1:=⟨_,rfl⟩
  have hs1:gm (i + 1) = setF (partN (nmAt partN ns l i) y).2:=by rw [hgm,nmAt_succ hy]
  have k1:=worksPart_ok (nmAt partN ns l i) y (hsz y (List.mem_of_getElem? hy)) (gm i) (gm (i + 1)) e (hgm i) hs1 hee
  rw [eachN_drop hy,← hee] at hI
  by_cases h0:e = 0
  ·have c4:A.cmp .neq e 0 = false:=by rw [AE.c_neq hA,h0]; rfl
   rw [if_neg (by omega),← nmAt_succ hy] at hI
   (repeat' (first|(refine X.g ?_; cbv)|refine X.splitT ?_|refine X.splitF ?_|refine X.sp (fun hc=>?_) (fun hc=>?_)|refine X.needT ?_|refine X.idx _ _ _ _ _ _ _ _ he hz ?_|refine X.callsGA [0] k1 ?_))
   all_goals (refine hB hI _ ?_; clear hB; (cbv <;> (and_intros <;> first|rfl|trivial)))
  ·have c4:A.cmp .neq e 0 = true:=by rw [AE.c_neq hA]; simpa using h0
   rw [if_pos h0] at hI
   have e1:e = r:=by rw [hr,hI]; exact hee
   have e2:gm (i + 1) = g' := by rw [hs1,hg', hI]
   clear hB
   (repeat' (first|(refine X.g ?_; cbv)|refine X.splitT ?_|refine X.splitF ?_|refine X.sp (fun hc=>?_) (fun hc=>?_)|refine X.needT ?_|refine X.idx _ _ _ _ _ _ _ _ he hz ?_|refine X.callsGA [0] k1 ?_))
   all_goals (refine X.ret _ (X.done rfl ?_); cbv <;> (and_intros <;> first|exact e1|exact e2|rfl|trivial))
 ·rw [List.drop_length] at hI
  have e1:0 = r:=by rw [hr,hI]; rfl
  have e2:gm l.length = g' := by rw [hgm,hg', hI]; rfl
  (repeat' (first|(refine X.g ?_; cbv)|refine X.splitT ?_|refine X.splitF ?_|refine X.sp (fun hc=>?_) (fun hc=>?_)|refine X.needT ?_))
  all_goals (refine X.ret _ (X.done rfl ?_); cbv <;> (and_intros <;> first|exact e1|exact e2|rfl|trivial))
theorem eachSlot_ok (ns:List ByteArray) (l:List Sl) (hsz:∀ p ∈ l,p.le (2 ^ 28)) (hl:l.length < 2 ^ 40) (es:List (List AE.AV)) (hes:es = lsAv Sl.c l) (g g' : Value → Option Value) (r:Int) (hg:g = setF ns) (hg' : g' = setF (eachN slotN ns l).2) (hr:r = (eachN slotN ns l).1):AE.ACallG GG Tryz.prog 147 [.mp .str .bool g] [.l 14 es,.f 1000148 [.r 0]] [.mp .str .bool g'] (.v (.int .i64 r)):=by
 refine AE.ACallG.of_walk (fn:=Tryz.f147) (c:=bodyOf Tryz.f147) GG_stays tabOK Tryz.func147 rfl rfl mixed fun A hA X=>?_
 obtain ⟨gm,hgm⟩:∃ gm:Nat → Value → Option Value,∀ i,gm i = setF (nmAt slotN ns l i):=⟨_,fun _=>rfl⟩
 have hg0:g = gm 0:=by rw [hg,hgm]; rfl
 (repeat' (first|(refine X.g ?_; cbv)|refine X.splitT ?_|refine X.splitF ?_|refine X.sp (fun hc=>?_) (fun hc=>?_)|refine X.needT ?_))
 refine rangeL X hA hes (by omega) (fun i=>eachN slotN ns l = eachN slotN (nmAt slotN ns l i) (l.drop i)) (fun z _=>[(10,.v (.int .i64 z))]) (fun i=>[.mp .str .bool (gm i)]) rfl ?_ (fun i z y hz hy he c3 hI B hB=>?_) (fun z c3 hI B=>?_)
 ·(cbv <;> (and_intros <;> first|exact hg0|rfl|trivial))
 ·obtain ⟨e,hee⟩:∃ e,e = (slotN (nmAt slotN ns l i) y).1:=⟨_,rfl⟩
  have hs1:gm (i + 1) = setF (slotN (nmAt slotN ns l i) y).2:=by rw [hgm,nmAt_succ hy]
  have k1:=worksSlot_ok (nmAt slotN ns l i) y (hsz y (List.mem_of_getElem? hy)) (gm i) (gm (i + 1)) e (hgm i) hs1 hee
  rw [eachN_drop hy,← hee] at hI
  by_cases h0:e = 0
  ·have c4:A.cmp .neq e 0 = false:=by rw [AE.c_neq hA,h0]; rfl
   rw [if_neg (by omega),← nmAt_succ hy] at hI
   (repeat' (first|(refine X.g ?_; cbv)|refine X.splitT ?_|refine X.splitF ?_|refine X.sp (fun hc=>?_) (fun hc=>?_)|refine X.needT ?_|refine X.idx _ _ _ _ _ _ _ _ he hz ?_|refine X.callsGA [0] k1 ?_))
   all_goals (refine hB hI _ ?_; clear hB; (cbv <;> (and_intros <;> first|rfl|trivial)))
  ·have c4:A.cmp .neq e 0 = true:=by rw [AE.c_neq hA]; simpa using h0
   rw [if_pos h0] at hI
   have e1:e = r:=by rw [hr,hI]; exact hee
   have e2:gm (i + 1) = g' := by rw [hs1,hg', hI]
   clear hB
   (repeat' (first|(refine X.g ?_; cbv)|refine X.splitT ?_|refine X.splitF ?_|refine X.sp (fun hc=>?_) (fun hc=>?_)|refine X.needT ?_|refine X.idx _ _ _ _ _ _ _ _ he hz ?_|refine X.callsGA [0] k1 ?_))
   all_goals (refine X.ret _ (X.done rfl ?_); cbv <;> (and_intros <;> first|exact e1|exact e2|rfl|trivial))
 ·rw [List.drop_length] at hI
  have e1:0 = r:=by rw [hr,hI]; rfl
  have e2:gm l.length = g' := by rw [hgm,hg', hI]; rfl
  (repeat' (first|(refine X.g ?_; cbv)|refine X.splitT ?_|refine X.splitF ?_|refine X.sp (fun hc=>?_) (fun hc=>?_)|refine X.needT ?_))
  all_goals (refine X.ret _ (X.done rfl ?_); cbv <;> (and_intros <;> first|exact e1|exact e2|rfl|trivial))
theorem eachGate_ok (ns:List ByteArray) (l:List Gt) (hsz:∀ p ∈ l,p.le (2 ^ 28)) (hl:l.length < 2 ^ 40) (es:List (List AE.AV)) (hes:es = lsAv Gt.c l) (g g' : Value → Option Value) (r:Int) (hg:g = setF ns) (hg' : g' = setF (eachN gateN ns l).2) (hr:r = (eachN gateN ns l).1):AE.ACallG GG Tryz.prog 149 [.mp .str .bool g] [.l 13 es,.f 1000150 [.r 0]] [.mp .str .bool g'] (.v (.int .i64 r)):=by
 refine AE.ACallG.of_walk (fn:=Tryz.f149) (c:=bodyOf Tryz.f149) GG_stays tabOK Tryz.func149 rfl rfl mixed fun A hA X=>?_
 obtain ⟨gm,hgm⟩:∃ gm:Nat → Value → Option Value,∀ i,gm i = setF (nmAt gateN ns l i):=⟨_,fun _=>rfl⟩
 have hg0:g = gm 0:=by rw [hg,hgm]; rfl
 (repeat' (first|(refine X.g ?_; cbv)|refine X.splitT ?_|refine X.splitF ?_|refine X.sp (fun hc=>?_) (fun hc=>?_)|refine X.needT ?_))
 refine rangeL X hA hes (by omega) (fun i=>eachN gateN ns l = eachN gateN (nmAt gateN ns l i) (l.drop i)) (fun z _=>[(10,.v (.int .i64 z))]) (fun i=>[.mp .str .bool (gm i)]) rfl ?_ (fun i z y hz hy he c3 hI B hB=>?_) (fun z c3 hI B=>?_)
 ·(cbv <;> (and_intros <;> first|exact hg0|rfl|trivial))
 ·obtain ⟨e,hee⟩:∃ e,e = (gateN (nmAt gateN ns l i) y).1:=⟨_,rfl⟩
  have hs1:gm (i + 1) = setF (gateN (nmAt gateN ns l i) y).2:=by rw [hgm,nmAt_succ hy]
  have k1:=worksGate_ok (nmAt gateN ns l i) y (hsz y (List.mem_of_getElem? hy)) (gm i) (gm (i + 1)) e (hgm i) hs1 hee
  rw [eachN_drop hy,← hee] at hI
  by_cases h0:e = 0
  ·have c4:A.cmp .neq e 0 = false:=by rw [AE.c_neq hA,h0]; rfl
   rw [if_neg (by omega),← nmAt_succ hy] at hI
   (repeat' (first|(refine X.g ?_; cbv)|refine X.splitT ?_|refine X.splitF ?_|refine X.sp (fun hc=>?_) (fun hc=>?_)|refine X.needT ?_|refine X.idx _ _ _ _ _ _ _ _ he hz ?_|refine X.callsGA [0] k1 ?_))
   all_goals (refine hB hI _ ?_; clear hB; (cbv <;> (and_intros <;> first|rfl|trivial)))
  ·have c4:A.cmp .neq e 0 = true:=by rw [AE.c_neq hA]; simpa using h0
   rw [if_pos h0] at hI
   have e1:e = r:=by rw [hr,hI]; exact hee
   have e2:gm (i + 1) = g' := by rw [hs1,hg', hI]
   clear hB
   (repeat' (first|(refine X.g ?_; cbv)|refine X.splitT ?_|refine X.splitF ?_|refine X.sp (fun hc=>?_) (fun hc=>?_)|refine X.needT ?_|refine X.idx _ _ _ _ _ _ _ _ he hz ?_|refine X.callsGA [0] k1 ?_))
   all_goals (refine X.ret _ (X.done rfl ?_); cbv <;> (and_intros <;> first|exact e1|exact e2|rfl|trivial))
 ·rw [List.drop_length] at hI
  have e1:0 = r:=by rw [hr,hI]; rfl
  have e2:gm l.length = g' := by rw [hgm,hg', hI]; rfl
  (repeat' (first|(refine X.g ?_; cbv)|refine X.splitT ?_|refine X.splitF ?_|refine X.sp (fun hc=>?_) (fun hc=>?_)|refine X.needT ?_))
  all_goals (refine X.ret _ (X.done rfl ?_); cbv <;> (and_intros <;> first|exact e1|exact e2|rfl|trivial))
def wallLe (l:List V2):Prop:=(∀ p ∈ l,p.sz ≤ 2 ^ 28) ∧ l.length < 2 ^ 40
theorem eachWall_ok (l:List (List V2)) (hsz:∀ p ∈ l,wallLe p) (hl:l.length < 2 ^ 40) (es:List (List AE.AV)) (hes:es = lsAv wallC l) (r:Int) (hr:r = firstE shapeC l):AE.ACallG GG Tryz.prog 143 [] [.l 1 es,.f 144 []] [] (.v (.int .i64 r)):=by
 refine AE.ACallG.of_walk (fn:=Tryz.f143) (c:=bodyOf Tryz.f143) GG_stays tabOK Tryz.func143 rfl rfl mixed fun A hA X=>?_
 (repeat' (first|(refine X.g ?_; cbv)|refine X.splitT ?_|refine X.splitF ?_|refine X.sp (fun hc=>?_) (fun hc=>?_)|refine X.needT ?_))
 refine rangeL0 X hA hes (by omega) (fun i=>firstE shapeC (l.drop i) = r) (fun z _=>[(10,.v (.int .i64 z))]) hr.symm ?_ (fun i z y hz hy he c3 hI B hB=>?_) (fun z c3 hI B=>?_)
 ·(cbv <;> (and_intros <;> first|rfl|trivial))
 ·obtain ⟨h1,h2⟩:=hsz y (List.mem_of_getElem? hy)
  obtain ⟨e,hee⟩:∃ e,e = shapeC y:=⟨_,rfl⟩
  obtain ⟨ys,hys⟩:∃ e,e = lsAv V2.c y:=⟨_,rfl⟩
  have k1:=worksShape_ok y h1 h2 ys hys e hee
  rw [wallC,← hys] at he
  rw [firstE_drop hy,← hee] at hI
  by_cases h0:e = 0
  ·have c4:A.cmp .neq e 0 = false:=by rw [AE.c_neq hA,h0]; rfl
   rw [if_neg (by omega)] at hI
   (repeat' (first|(refine X.g ?_; cbv)|refine X.splitT ?_|refine X.splitF ?_|refine X.sp (fun hc=>?_) (fun hc=>?_)|refine X.needT ?_|refine X.idx _ _ _ _ _ _ _ _ he hz ?_|refine X.callsGA [] k1 ?_))
   all_goals (refine hB hI _ ?_; clear hB; (cbv <;> (and_intros <;> first|rfl|trivial)))
  ·have c4:A.cmp .neq e 0 = true:=by rw [AE.c_neq hA]; simpa using h0
   rw [if_pos h0] at hI
   clear hB
   (repeat' (first|(refine X.g ?_; cbv)|refine X.splitT ?_|refine X.splitF ?_|refine X.sp (fun hc=>?_) (fun hc=>?_)|refine X.needT ?_|refine X.idx _ _ _ _ _ _ _ _ he hz ?_|refine X.callsGA [] k1 ?_))
   all_goals (refine X.ret _ (X.done rfl ?_); cbv <;> (and_intros <;> first|exact hI|rfl|trivial))
 ·have e1:0 = r:=by rw [← hI,List.drop_length]; rfl
  (repeat' (first|(refine X.g ?_; cbv)|refine X.splitT ?_|refine X.splitF ?_|refine X.sp (fun hc=>?_) (fun hc=>?_)|refine X.needT ?_))
  all_goals (refine X.ret _ (X.done rfl ?_); cbv <;> (and_intros <;> first|exact e1|rfl|trivial))
end Go.Proofs.YthadehkggddgoaaGreatDoor
end
section
set_option linter.unusedVariables false
set_option linter.unusedSimpArgs false
namespace Go.Proofs.YthadehkggddgoaaGreatDoor
open Go Go.Num
def worksI (na nw np ns ng z:Int):Int:=if 4 < na ∨ 10 < nw ∨ 6 < np ∨ 8 < ns ∨ 4 < ng then 2 else if na = 0 then 4 else z
def walkI (e:Int) (sm:Bool) (s:Int):Int:=if e ≠ 0 then e else if sm = true ∧ 0 ≤ s then 0 else 1
def wksA (w:Wk):Int × List ByteArray:=eachN armN [] w.arms
def wksP (w:Wk):Int × List ByteArray:=eachN partN (wksA w).2 w.parts
def wksS (w:Wk):Int × List ByteArray:=eachN slotN (wksP w).2 w.slots
def wksG (w:Wk):Int × List ByteArray:=eachN gateN (wksS w).2 w.gates
def worksC (w:Wk):Int:=worksI w.arms.length w.walls.length w.parts.length w.slots.length w.gates.length (walkI (firstE (fun e=>e) [(wksA w).1,firstE shapeC w.walls,(wksP w).1,(wksS w).1,(wksG w).1]) (decide w.walk.Small) (sgnR w.walk.v))
structure Wk.Le (w:Wk):Prop where
 arms:∀ p ∈ w.arms,p.le (2 ^ 28)
 narms:w.arms.length < 2 ^ 40
 walls:∀ p ∈ w.walls,wallLe p
 nwalls:w.walls.length < 2 ^ 40
 parts:∀ p ∈ w.parts,p.le (2 ^ 28)
 nparts:w.parts.length < 2 ^ 40
 slots:∀ p ∈ w.slots,p.le (2 ^ 28)
 nslots:w.slots.length < 2 ^ 40
 gates:∀ p ∈ w.gates,p.le (2 ^ 28)
 ngates:w.gates.length < 2 ^ 40
 walk:w.walk.sz ≤ 2 ^ 28
theorem share1 {A:AE.Ari} {P:Program} {T:AE.Tab} {fn:Func} {n0:Nat} {own' : List AE.OB} {res:AE.AV} {GG:(Nat → Option Obj) → Prop} (X:AE.Walk A P T fn n0 own' res GG) {s0 s1:AE.Stop} (h:X.G s1 → X.G s0) (h1:X.G s1):X.G s0:=h h1
theorem share2 {A:AE.Ari} {P:Program} {T:AE.Tab} {fn:Func} {n0:Nat} {own' : List AE.OB} {res:AE.AV} {GG:(Nat → Option Obj) → Prop} (X:AE.Walk A P T fn n0 own' res GG) {s0 s1 s2:AE.Stop} (h:X.G s1 → X.G s2 → X.G s0) (h1:X.G s1) (h2:X.G s2):X.G s0:=h h1 h2
theorem share4 {A:AE.Ari} {P:Program} {T:AE.Tab} {fn:Func} {n0:Nat} {own' : List AE.OB} {res:AE.AV} {GG:(Nat → Option Obj) → Prop} (X:AE.Walk A P T fn n0 own' res GG) {s0 s1 s2 s3 s4:AE.Stop} (h:X.G s1 → X.G s2 → X.G s3 → X.G s4 → X.G s0) (h1:X.G s1) (h2:X.G s2) (h3:X.G s3) (h4:X.G s4):X.G s0:=h h1 h2 h3 h4
theorem share8 {A:AE.Ari} {P:Program} {T:AE.Tab} {fn:Func} {n0:Nat} {own' : List AE.OB} {res:AE.AV} {GG:(Nat → Option Obj) → Prop} (X:AE.Walk A P T fn n0 own' res GG) {s0 s1 s2 s3 s4 s5 s6 s7 s8:AE.Stop} (h:X.G s1 → X.G s2 → X.G s3 → X.G s4 → X.G s5 → X.G s6 → X.G s7 → X.G s8 → X.G s0) (h1:X.G s1) (h2:X.G s2) (h3:X.G s3) (h4:X.G s4) (h5:X.G s5) (h6:X.G s6) (h7:X.G s7) (h8:X.G s8):X.G s0:=h h1 h2 h3 h4 h5 h6 h7 h8
def intC (e:Int):List AE.AV:=[.v (.int .i64 e)]
theorem worksCheck_ok (w:Wk) (hw:w.Le) (r:Int) (hr:r = worksC w):AE.ACallG GG Tryz.prog 68 [] [.a w.c] [] (.v (.int .i64 r)):=by
 refine AE.ACallG.of_walk (fn:=Tryz.f68) (c:=bodyOf Tryz.f68) GG_stays tabOK Tryz.func68 rfl rfl mixed fun A hA X=>?_
 obtain ⟨e1,he1⟩:∃ e,e = (wksA w).1:=⟨_,rfl⟩
 obtain ⟨e2,he2⟩:∃ e,e = firstE shapeC w.walls:=⟨_,rfl⟩
 obtain ⟨e3,he3⟩:∃ e,e = (wksP w).1:=⟨_,rfl⟩
 obtain ⟨e4,he4⟩:∃ e,e = (wksS w).1:=⟨_,rfl⟩
 obtain ⟨e5,he5⟩:∃ e,e = (wksG w).1:=⟨_,rfl⟩
 obtain ⟨g0,hg0⟩:∃ g,g = setF []:=⟨_,rfl⟩
 obtain ⟨g1,hg1⟩:∃ g,g = setF (wksA w).2:=⟨_,rfl⟩
 obtain ⟨g2,hg2⟩:∃ g,g = setF (wksP w).2:=⟨_,rfl⟩
 obtain ⟨g3,hg3⟩:∃ g,g = setF (wksS w).2:=⟨_,rfl⟩
 obtain ⟨g4,hg4⟩:∃ g,g = setF (wksG w).2:=⟨_,rfl⟩
 obtain ⟨wg,hwg⟩:∃ g,g = decide w.walk.Good:=⟨_,rfl⟩
 obtain ⟨ws,hws⟩:∃ g,g = decide w.walk.Small:=⟨_,rfl⟩
 obtain ⟨wz,hwz⟩:∃ g,g = sgnR w.walk.v:=⟨_,rfl⟩
 have zw:=hw.walk
 have q1:=good_ok w.walk (by omega) wg hwg
 have q2:=small_ok w.walk (by omega) ws hws
 have q3:=sign_ok w.walk (by omega) wz hwz
 have i1:ws = true → wg = true:=fun h=>by rw [hwg]; rw [hws] at h; exact decide_eq_true (of_decide_eq_true h).1
 obtain ⟨ea,hea⟩:∃ es,es = lsAv Ar.c w.arms:=⟨_,rfl⟩
 obtain ⟨ew,hew⟩:∃ es,es = lsAv wallC w.walls:=⟨_,rfl⟩
 obtain ⟨ep,hep⟩:∃ es,es = lsAv Pt.c w.parts:=⟨_,rfl⟩
 obtain ⟨es,hes⟩:∃ es,es = lsAv Sl.c w.slots:=⟨_,rfl⟩
 obtain ⟨eg,heg⟩:∃ es,es = lsAv Gt.c w.gates:=⟨_,rfl⟩
 have l1:A.llen ea = (w.arms.length:Int):=by rw [llen hA,hea,lsAv_len]
 have l2:A.llen ew = (w.walls.length:Int):=by rw [llen hA,hew,lsAv_len]
 have l3:A.llen ep = (w.parts.length:Int):=by rw [llen hA,hep,lsAv_len]
 have l4:A.llen es = (w.slots.length:Int):=by rw [llen hA,hes,lsAv_len]
 have l5:A.llen eg = (w.gates.length:Int):=by rw [llen hA,heg,lsAv_len]
 obtain ⟨zz,hzz⟩:∃ z,z = walkI (firstE (fun e=>e) [e1,e2,e3,e4,e5]) ws wz:=⟨_,rfl⟩
 have hr:r = worksI (A.llen ea) (A.llen ew) (A.llen ep) (A.llen es) (A.llen eg) zz:=by rw [hr,worksC,l1,l2,l3,l4,l5,hzz,he1,he2,he3,he4,he5,hws,hwz]
 have k1:=eachArm_ok [] w.arms hw.arms hw.narms ea hea g0 g1 e1 hg0 hg1 he1
 have k2:=eachWall_ok w.walls hw.walls hw.nwalls ew hew e2 he2
 have k3:=eachPart_ok (wksA w).2 w.parts hw.parts hw.nparts ep hep g1 g2 e3 hg1 hg2 he3
 have k4:=eachSlot_ok (wksP w).2 w.slots hw.slots hw.nslots es hes g2 g3 e4 hg2 hg3 he4
 have k5:=eachGate_ok (wksS w).2 w.gates hw.gates hw.ngates eg heg g3 g4 e5 hg3 hg4 he5
 have hm0:A.mnew = g0:=by subst hA; rw [hg0]; rfl
 rw [← hm0] at k1
 obtain ⟨walk,hwalk⟩:∃ q,q = w.walk:=⟨_,rfl⟩
 simp only [Wk.c,← hea,← hew,← hep,← hes,← heg,← hwalk] at q1 q2 q3 ⊢
 clear hw hea hew hep hes heg l1 l2 l3 l4 l5 he1 he2 he3 he4 he5 hg1 hg2 hg3 hg4 hws hwz hwg zw hwalk hg0
 (repeat' (first|(refine X.g ?_; cbv)|refine X.splitT ?_|refine X.splitF ?_|refine X.sp (fun hc=>?_) (fun hc=>?_)|refine X.needT ?_))
 all_goals first|(refine X.ret _ (X.done rfl ?_); cbv <;> (and_intros <;> first|rfl|trivial|(clear X k1 k2 k3 k4 k5 q1 q2 q3 hm0; rw [hr]; (try simp only [AE.c_lss hA,AE.c_leq hA,AE.c_gtr hA,AE.c_geq hA,AE.c_eql hA,AE.c_neq hA,AE.c_not hA,AE.c_and hA,AE.c_beq hA,AE.c_bne hA,decide_eq_true_eq,decide_eq_false_iff_not,Bool.not_eq_true,Bool.not_eq_false,Bool.not_eq_eq_eq_not,Bool.not_true,Bool.not_false,Int.not_lt,Int.not_le,Int.ofNat_eq_natCast] at *); unfold worksI; first|(simp_all; done)|((repeat' split) <;> first|omega|(simp_all; done)|(simp_all; omega)))))|skip
 have hrz:r = zz:=by
  clear X k1 k2 k3 k4 k5 q1 q2 q3 hm0
  simp only [AE.c_lss hA,AE.c_leq hA,AE.c_gtr hA,AE.c_geq hA,AE.c_eql hA,AE.c_neq hA,AE.c_not hA,AE.c_and hA,AE.c_beq hA,AE.c_bne hA,decide_eq_true_eq,decide_eq_false_iff_not,Bool.not_eq_true,Bool.not_eq_false,Bool.not_eq_eq_eq_not,Bool.not_true,Bool.not_false,Int.not_lt,Int.not_le,Int.ofNat_eq_natCast] at *
  rw [hr,worksI,if_neg (by omega),if_neg (by omega)]
 refine X.drawX _ _ _ (by kernel_rfl) (X.frzB 0 _ _ (Nat.zero_le _) ?_)
 (refine X.g ?_; cbv)
 apply share1 X
 ·intro p1
  apply share2 X
  ·intro d1 d2
   apply share4 X
   ·intro c1 c2 c3 c4
    apply share8 X
    ·intro b1 b2 b3 b4 b5 b6 b7 b8
     apply share8 X
     ·intro a1 a2 a3 a4 a5 a6 a7 a8
      (repeat' (first|refine X.fork _ _ ?_ ?_|(refine X.needT ?_; (refine X.g ?_; cbv))))
      all_goals first|exact a1|exact a2|exact a3|exact a4|exact a5|exact a6|exact a7|exact a8
     all_goals (refine X.callsGA [2,1] k1 ?_; (refine X.g ?_; cbv); (repeat' (first|refine X.fork _ _ ?_ ?_|(refine X.needT ?_; (refine X.g ?_; cbv)))) <;> first|exact b1|exact b2|exact b3|exact b4|exact b5|exact b6|exact b7|exact b8)
    all_goals (refine X.callsGA [] k2 ?_; (refine X.g ?_; cbv); (repeat' (first|refine X.fork _ _ ?_ ?_|(refine X.needT ?_; (refine X.g ?_; cbv)))) <;> first|exact c1|exact c2|exact c3|exact c4)
   all_goals (refine X.callsGA [1] k3 ?_; (refine X.g ?_; cbv); (repeat' (first|refine X.fork _ _ ?_ ?_|(refine X.needT ?_; (refine X.g ?_; cbv)))) <;> first|exact d1|exact d2)
  all_goals (refine X.callsGA [1] k4 ?_; (refine X.g ?_; cbv); (repeat' (first|refine X.fork _ _ ?_ ?_|(refine X.needT ?_; (refine X.g ?_; cbv)))) <;> exact p1)
 refine X.callsGA [1] k5 ?_
 (refine X.g ?_; cbv)
 refine X.loopG _ _ _ (X.frz 3 _ _ ?_)
 (refine X.g ?_; cbv)
 clear k1 k2 k3 k4 k5
 obtain ⟨l,hl⟩:∃ l,l = [e1,e2,e3,e4,e5]:=⟨_,rfl⟩
 have hll:l.length = 5:=by rw [hl]; rfl
 rw [← hl] at hzz
 refine rangeL0 X hA (f:=intC) (l:=l) (by rw [lsAv_eq,hl]; try rfl) (by omega) (fun i=>firstE (fun e=>e) l = firstE (fun e=>e) (l.drop i)) (fun z _=>[(65,.v (.int .i64 z))]) rfl ?_ (fun i z y hz hy hye c3 hI B hB=>?_) (fun z c3 hI B=>?_)
 ·(cbv <;> (and_intros <;> first|rfl|trivial))
 ·rw [firstE_drop hy] at hI
  rw [intC] at hye
  by_cases h0:y = 0
  ·have c4:A.cmp .neq y 0 = false:=by rw [AE.c_neq hA,h0]; rfl
   rw [if_neg (by omega)] at hI
   (repeat' (first|(refine X.g ?_; cbv)|refine X.splitT ?_|refine X.splitF ?_|refine X.sp (fun hc=>?_) (fun hc=>?_)|refine X.needT ?_|refine X.idx _ _ _ _ _ _ _ _ hye hz ?_))
   all_goals (refine hB hI _ ?_; clear hB; (cbv <;> (and_intros <;> first|rfl|trivial)))
  ·have c4:A.cmp .neq y 0 = true:=by rw [AE.c_neq hA]; simpa using h0
   rw [if_pos h0] at hI
   have e9:y = r:=by rw [hrz,hzz,hI,walkI,if_pos h0]
   clear hB
   (repeat' (first|(refine X.g ?_; cbv)|refine X.splitT ?_|refine X.splitF ?_|refine X.sp (fun hc=>?_) (fun hc=>?_)|refine X.needT ?_|refine X.idx _ _ _ _ _ _ _ _ hye hz ?_))
   all_goals (refine X.ret _ (X.done rfl ?_); cbv <;> (and_intros <;> first|exact e9|rfl|trivial))
 ·have e0:firstE (fun e=>e) l = 0:=by rw [hI,List.drop_length]; rfl
  have hr2:r = if ws = true ∧ 0 ≤ wz then 0 else 1:=by rw [hrz,hzz,e0,walkI,if_neg (by decide)]
  clear hr hrz hzz hI e0 hl hll
  (repeat' (first|(refine X.g ?_; cbv)|refine X.splitT ?_|refine X.splitF ?_|refine X.sp (fun hc=>?_) (fun hc=>?_)|refine X.needT ?_|refine X.callsGA [] q1 ?_|refine X.callsGA [] q2 ?_|refine X.callsGA [] q3 ?_))
  all_goals (refine X.ret _ (X.done rfl ?_); cbv <;> (and_intros <;> first|rfl|trivial|(clear X q1 q2 q3; rw [hr2]; (try simp only [AE.c_lss hA,AE.c_leq hA,AE.c_gtr hA,AE.c_geq hA,AE.c_eql hA,AE.c_neq hA,AE.c_not hA,AE.c_and hA,AE.c_beq hA,AE.c_bne hA,decide_eq_true_eq,decide_eq_false_iff_not,Bool.not_eq_true,Bool.not_eq_false,Bool.not_eq_eq_eq_not,Bool.not_true,Bool.not_false,Int.not_lt,Int.not_le,Int.ofNat_eq_natCast] at *); clear hA; first|(rw [if_pos ⟨by first|assumption|rfl,by omega⟩])|(rw [if_neg (fun h=>by first|omega|(rw [h.1] at *; contradiction)|(have:=i1 h.1; simp_all; done)|(simp_all; done))]))))
end Go.Proofs.YthadehkggddgoaaGreatDoor
end
