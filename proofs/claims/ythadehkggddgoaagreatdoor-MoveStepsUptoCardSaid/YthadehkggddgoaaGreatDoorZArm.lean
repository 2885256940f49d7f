/- Contracts: arm.IsName, works.Name, arm.small, arm.check, arm.Check, arm.Has, arm.Fits. -/
import Derived.Test.YthadehkggddgoaaGreatDoorZVec
import Derived.Test.YthadehkggddgoaaGreatDoorZRatC
set_option maxRecDepth 100000
set_option maxHeartbeats 0
set_option linter.unusedVariables false
set_option linter.unusedSimpArgs false
namespace Go.Proofs.YthadehkggddgoaaGreatDoor
open Go Go.Num
def letters (l:List UInt8):Prop:=∀ b ∈ l,97 ≤ b.toNat ∧ b.toNat ≤ 122
instance (l:List UInt8):Decidable (letters l):=by unfold letters; infer_instance
def nameOK (s:ByteArray):Prop:=1 ≤ s.size ∧ s.size ≤ 12 ∧ letters s.data.toList
instance (s:ByteArray):Decidable (nameOK s):=by unfold nameOK; infer_instance
theorem isName_ok (s:ByteArray) (hs:s.size < 2 ^ 60) (r:Bool) (hr:r = decide (nameOK s)):AE.ACallG GG Tryz.prog 192 [] [.v (.string s)] [] (.b r):=by
 refine AE.ACallG.of_walk (fn:=Tryz.f192) (c:=bodyOf Tryz.f192) GG_stays tabOK Tryz.func192 rfl rfl mixed fun A hA X=>?_
 (repeat' (first|(refine X.g ?_; cbv)|refine X.splitT ?_|refine X.splitF ?_|refine X.sp (fun hc=>?_) (fun hc=>?_)|refine X.needT ?_))
 refine ranges0 X 0 s.size (fun i=>letters (s.data.toList.take i)) (fun z _=>[(6,.v (.int .i64 z))]) (fun b hb=>by simp at hb) ?_ (fun i z hz hi hI B hB=>?_) (fun z hz hI B=>?_)
 ·(cbv <;> (and_intros <;> first|rfl|trivial))
 ·have hz0:=hz
  rw [Nat.zero_add] at hz
  have c1:A.cmp .lss z (A.slen s) = true:=ltT hA hz (slen hA s) hi
  have hi' : i < s.data.toList.length:=by rw [size_data]; exact hi
  have hg:s.data.toList[i]? = some s.data.toList[i]:=List.getElem?_eq_getElem hi'
  obtain ⟨b,hb⟩:∃ b,b = s.data.toList[i]:=⟨_,rfl⟩
  rw [← hb] at hg
  have hbt:A.sidx s z = b.toNat:=by subst hA; rw [hz]; exact bAt_get hg
  have hin:AE.InR z (A.slen s):=⟨by rw [hz]; exact Int.natCast_nonneg _,by rw [slen hA,hz]; exact Int.ofNat_lt.2 hi⟩
  have hno:¬ (97 ≤ b.toNat ∧ b.toNat ≤ 122) → false = r:=fun h=>by
   rw [hr,decide_eq_false]
   exact fun hh=>h (hh.2.2 b (List.mem_of_getElem? hg))
  have c2:A.cmp .lss (A.sidx s z) 97 = decide (b.toNat < 97):=ltI hA hbt (b:=97) rfl
  have c3:A.cmp .gtr (A.sidx s z) 122 = decide (122 < b.toNat):=gtI hA hbt (b:=122) rfl
  by_cases h:97 ≤ b.toNat ∧ b.toNat ≤ 122
  ·have c2' : A.cmp .lss (A.sidx s z) 97 = false:=by rw [c2]; exact decide_eq_false (by omega)
   have c3' : A.cmp .gtr (A.sidx s z) 122 = false:=by rw [c3]; exact decide_eq_false (by omega)
   have hI' : letters (s.data.toList.take (i + 1)):=by
    rw [List.take_add_one,hg]
    intro x hx
    rcases List.mem_append.1 hx with hx|hx
    ·exact hI x hx
    ·simp at hx; rw [hx]; exact h
   (repeat' (first|(refine X.g ?_; cbv)|refine X.splitT ?_|refine X.splitF ?_|refine X.sp (fun hc=>?_) (fun hc=>?_)|refine X.needT ?_|refine X.need _ _ _ hin ?_))
   all_goals (refine hB _ (addI hA hz0 (y:=1) (b:=1) rfl (by omega)) hI' _ ?_; clear hB; (cbv <;> (and_intros <;> first|rfl|trivial)))
  ·have e1:=hno h
   clear hB
   by_cases h3:b.toNat < 97
   ·have c2' : A.cmp .lss (A.sidx s z) 97 = true:=by rw [c2]; exact decide_eq_true h3
    (repeat' (first|(refine X.g ?_; cbv)|refine X.splitT ?_|refine X.splitF ?_|refine X.sp (fun hc=>?_) (fun hc=>?_)|refine X.needT ?_|refine X.need _ _ _ hin ?_))
    all_goals (refine X.ret _ (X.done rfl ?_); cbv <;> (and_intros <;> first|exact e1|rfl|trivial))
   ·have c2' : A.cmp .lss (A.sidx s z) 97 = false:=by rw [c2]; exact decide_eq_false h3
    have c3' : A.cmp .gtr (A.sidx s z) 122 = true:=by rw [c3]; exact decide_eq_true (by omega)
    (repeat' (first|(refine X.g ?_; cbv)|refine X.splitT ?_|refine X.splitF ?_|refine X.sp (fun hc=>?_) (fun hc=>?_)|refine X.needT ?_|refine X.need _ _ _ hin ?_))
    all_goals (refine X.ret _ (X.done rfl ?_); cbv <;> (and_intros <;> first|exact e1|rfl|trivial))
 ·rw [Nat.zero_add] at hz
  have c1:A.cmp .lss z (A.slen s) = false:=ltF hA hz (slen hA s) (by omega)
  rw [List.take_of_length_le (by rw [size_data]; omega)] at hI
  by_cases h1:1 ≤ s.size
  ·have c2:A.cmp .geq (A.slen s) 1 = true:=geT hA (slen hA s) (b:=1) rfl h1
   have e1:A.cmp .leq (A.slen s) 12 = r:=by
    rw [hr]; refine (leI hA (slen hA s) (b:=12) rfl).trans ?_
    congr 1
    exact propext ⟨fun h=>⟨h1,h,hI⟩,fun h=>h.2.1⟩
   (repeat' (first|(refine X.g ?_; cbv)|refine X.splitT ?_|refine X.splitF ?_|refine X.sp (fun hc=>?_) (fun hc=>?_)|refine X.needT ?_))
   all_goals (refine X.ret _ (X.done rfl ?_); cbv <;> (and_intros <;> first|exact e1|rfl|trivial))
  ·have c2:A.cmp .geq (A.slen s) 1 = false:=geF hA (slen hA s) (b:=1) rfl h1
   have e1:false = r:=by rw [hr,decide_eq_false (fun h=>h1 h.1)]
   (repeat' (first|(refine X.g ?_; cbv)|refine X.splitT ?_|refine X.splitF ?_|refine X.sp (fun hc=>?_) (fun hc=>?_)|refine X.needT ?_))
   all_goals (refine X.ret _ (X.done rfl ?_); cbv <;> (and_intros <;> first|exact e1|rfl|trivial))
theorem worksName_ok (s:ByteArray) (hs:s.size < 2 ^ 60) (r:Bool) (hr:r = decide (nameOK s)):AE.ACallG GG Tryz.prog 200 [] [.v (.string s)] [] (.b r):=by
 refine AE.ACallG.of_walk (fn:=Tryz.f200) (c:=bodyOf Tryz.f200) GG_stays tabOK Tryz.func200 rfl rfl mixed fun A hA X=>?_
 (repeat' (first|(refine X.g ?_; cbv)|refine X.splitT ?_|refine X.splitF ?_|refine X.sp (fun hc=>?_) (fun hc=>?_)|refine X.needT ?_))
 refine ranges0 X 0 s.size (fun i=>letters (s.data.toList.take i)) (fun z _=>[(6,.v (.int .i64 z))]) (fun b hb=>by simp at hb) ?_ (fun i z hz hi hI B hB=>?_) (fun z hz hI B=>?_)
 ·(cbv <;> (and_intros <;> first|rfl|trivial))
 ·have hz0:=hz
  rw [Nat.zero_add] at hz
  have c1:A.cmp .lss z (A.slen s) = true:=ltT hA hz (slen hA s) hi
  have hi' : i < s.data.toList.length:=by rw [size_data]; exact hi
  have hg:s.data.toList[i]? = some s.data.toList[i]:=List.getElem?_eq_getElem hi'
  obtain ⟨b,hb⟩:∃ b,b = s.data.toList[i]:=⟨_,rfl⟩
  rw [← hb] at hg
  have hbt:A.sidx s z = b.toNat:=by subst hA; rw [hz]; exact bAt_get hg
  have hin:AE.InR z (A.slen s):=⟨by rw [hz]; exact Int.natCast_nonneg _,by rw [slen hA,hz]; exact Int.ofNat_lt.2 hi⟩
  have hno:¬ (97 ≤ b.toNat ∧ b.toNat ≤ 122) → false = r:=fun h=>by
   rw [hr,decide_eq_false]
   exact fun hh=>h (hh.2.2 b (List.mem_of_getElem? hg))
  have c2:A.cmp .lss (A.sidx s z) 97 = decide (b.toNat < 97):=ltI hA hbt (b:=97) rfl
  have c3:A.cmp .gtr (A.sidx s z) 122 = decide (122 < b.toNat):=gtI hA hbt (b:=122) rfl
  by_cases h:97 ≤ b.toNat ∧ b.toNat ≤ 122
  ·have c2' : A.cmp .lss (A.sidx s z) 97 = false:=by rw [c2]; exact decide_eq_false (by omega)
   have c3' : A.cmp .gtr (A.sidx s z) 122 = false:=by rw [c3]; exact decide_eq_false (by omega)
   have hI' : letters (s.data.toList.take (i + 1)):=by
    rw [List.take_add_one,hg]
    intro x hx
    rcases List.mem_append.1 hx with hx|hx
    ·exact hI x hx
    ·simp at hx; rw [hx]; exact h
   (repeat' (first|(refine X.g ?_; cbv)|refine X.splitT ?_|refine X.splitF ?_|refine X.sp (fun hc=>?_) (fun hc=>?_)|refine X.needT ?_|refine X.need _ _ _ hin ?_))
   all_goals (refine hB _ (addI hA hz0 (y:=1) (b:=1) rfl (by omega)) hI' _ ?_; clear hB; (cbv <;> (and_intros <;> first|rfl|trivial)))
  ·have e1:=hno h
   clear hB
   by_cases h3:b.toNat < 97
   ·have c2' : A.cmp .lss (A.sidx s z) 97 = true:=by rw [c2]; exact decide_eq_true h3
    (repeat' (first|(refine X.g ?_; cbv)|refine X.splitT ?_|refine X.splitF ?_|refine X.sp (fun hc=>?_) (fun hc=>?_)|refine X.needT ?_|refine X.need _ _ _ hin ?_))
    all_goals (refine X.ret _ (X.done rfl ?_); cbv <;> (and_intros <;> first|exact e1|rfl|trivial))
   ·have c2' : A.cmp .lss (A.sidx s z) 97 = false:=by rw [c2]; exact decide_eq_false h3
    have c3' : A.cmp .gtr (A.sidx s z) 122 = true:=by rw [c3]; exact decide_eq_true (by omega)
    (repeat' (first|(refine X.g ?_; cbv)|refine X.splitT ?_|refine X.splitF ?_|refine X.sp (fun hc=>?_) (fun hc=>?_)|refine X.needT ?_|refine X.need _ _ _ hin ?_))
    all_goals (refine X.ret _ (X.done rfl ?_); cbv <;> (and_intros <;> first|exact e1|rfl|trivial))
 ·rw [Nat.zero_add] at hz
  have c1:A.cmp .lss z (A.slen s) = false:=ltF hA hz (slen hA s) (by omega)
  rw [List.take_of_length_le (by rw [size_data]; omega)] at hI
  by_cases h1:1 ≤ s.size
  ·have c2:A.cmp .geq (A.slen s) 1 = true:=geT hA (slen hA s) (b:=1) rfl h1
   have e1:A.cmp .leq (A.slen s) 12 = r:=by
    rw [hr]; refine (leI hA (slen hA s) (b:=12) rfl).trans ?_
    congr 1
    exact propext ⟨fun h=>⟨h1,h,hI⟩,fun h=>h.2.1⟩
   (repeat' (first|(refine X.g ?_; cbv)|refine X.splitT ?_|refine X.splitF ?_|refine X.sp (fun hc=>?_) (fun hc=>?_)|refine X.needT ?_))
   all_goals (refine X.ret _ (X.done rfl ?_); cbv <;> (and_intros <;> first|exact e1|rfl|trivial))
  ·have c2:A.cmp .geq (A.slen s) 1 = false:=geF hA (slen hA s) (b:=1) rfl h1
   have e1:false = r:=by rw [hr,decide_eq_false (fun h=>h1 h.1)]
   (repeat' (first|(refine X.g ?_; cbv)|refine X.splitT ?_|refine X.splitF ?_|refine X.sp (fun hc=>?_) (fun hc=>?_)|refine X.needT ?_))
   all_goals (refine X.ret _ (X.done rfl ?_); cbv <;> (and_intros <;> first|exact e1|rfl|trivial))
theorem armSmall_ok (l:List Q) (hsz:∀ q ∈ l,q.sz ≤ 2 ^ 34) (hl:l.length < 2 ^ 40) (es:List (List AE.AV)) (hes:es = lsAv Q.c l) (r:Bool) (hr:r = decide (∀ q ∈ l,q.Small)):AE.ACallG GG Tryz.prog 193 [] [.l 3 es] [] (.b r):=by
 refine AE.ACallG.of_walk (fn:=Tryz.f193) (c:=bodyOf Tryz.f193) GG_stays tabOK Tryz.func193 rfl rfl mixed fun A hA X=>?_
 (repeat' (first|(refine X.g ?_; cbv)|refine X.splitT ?_|refine X.splitF ?_|refine X.sp (fun hc=>?_) (fun hc=>?_)|refine X.needT ?_))
 refine rangeL0 X hA hes (by omega) (fun i=>∀ q ∈ l.take i,q.Small) (fun z _=>[(7,.v (.int .i64 z))]) (fun b hb=>by simp at hb) ?_ (fun i z y hz hy he c3 hI B hB=>?_) (fun z c3 hI B=>?_)
 ·(cbv <;> (and_intros <;> first|rfl|trivial))
 ·have hm:=List.mem_of_getElem? hy
  obtain ⟨g,hg⟩:∃ g,g = decide y.Small:=⟨_,rfl⟩
  have k1:=small_ok y (hsz y hm) g hg
  by_cases h:y.Small
  ·have c4:A.bnot g = false:=by rw [AE.c_not hA,hg,decide_eq_true h]; rfl
   have hI' : ∀ q ∈ l.take (i + 1),q.Small:=by
    rw [List.take_add_one,hy]
    intro x hx
    rcases List.mem_append.1 hx with hx|hx
    ·exact hI x hx
    ·simp at hx; rw [hx]; exact h
   (repeat' (first|(refine X.g ?_; cbv)|refine X.splitT ?_|refine X.splitF ?_|refine X.sp (fun hc=>?_) (fun hc=>?_)|refine X.needT ?_|refine X.idx _ _ _ _ _ _ _ _ he hz ?_|refine X.callsGA [] k1 ?_))
   all_goals (refine hB hI' _ ?_; clear hB; (cbv <;> (and_intros <;> first|rfl|trivial)))
  ·have c4:A.bnot g = true:=by rw [AE.c_not hA,hg,decide_eq_false h]; rfl
   have e1:false = r:=by rw [hr,decide_eq_false (fun hh=>h (hh y hm))]
   clear hB
   (repeat' (first|(refine X.g ?_; cbv)|refine X.splitT ?_|refine X.splitF ?_|refine X.sp (fun hc=>?_) (fun hc=>?_)|refine X.needT ?_|refine X.idx _ _ _ _ _ _ _ _ he hz ?_|refine X.callsGA [] k1 ?_))
   all_goals (refine X.ret _ (X.done rfl ?_); cbv <;> (and_intros <;> first|exact e1|rfl|trivial))
 ·rw [List.take_length] at hI
  have e1:true = r:=by rw [hr,decide_eq_true hI]
  (repeat' (first|(refine X.g ?_; cbv)|refine X.splitT ?_|refine X.splitF ?_|refine X.sp (fun hc=>?_) (fun hc=>?_)|refine X.needT ?_))
  all_goals (refine X.ret _ (X.done rfl ?_); cbv <;> (and_intros <;> first|exact e1|rfl|trivial))
def V2.Small (p:V2):Prop:=p.x.Small ∧ p.y.Small
instance (p:V2):Decidable p.Small:=by unfold V2.Small; infer_instance
def linkI (sm:Bool) (z1 zc z2 z3 pc:Int) (sh:Bool):Int:=if sm = false ∨ z1 ≤ 0 ∨ 0 ≤ zc then 1 else if z2 ≤ 0 ∨ z3 ≤ 0 then 1 else if pc ≠ 0 then pc else if sh = true then 0 else 1
def linkC (k:Lk):Int:=linkI (decide (∀ q ∈ [k.length,k.low,k.high,k.speed,k.brake],q.Small)) (sgnR k.length.v) (cmpR k.low.v k.high.v) (sgnR k.speed.v) (sgnR k.brake.v) (polyC 8 k.shape) (decide (∀ p ∈ k.shape,p.Small))
def Lk.le (k:Lk) (n:Nat):Prop:=k.length.sz ≤ n ∧ k.low.sz ≤ n ∧ k.high.sz ≤ n ∧ k.speed.sz ≤ n ∧ k.brake.sz ≤ n ∧ (∀ p ∈ k.shape,p.sz ≤ n) ∧ k.shape.length < 2 ^ 40
theorem armLink_ok (k:Lk) (hk:k.le (2 ^ 28)) (r:Int) (hr:r = linkC k):AE.ACallG GG Tryz.prog 194 [] [.a k.c] [] (.v (.int .i64 r)):=by
 obtain ⟨z1,z2,z3,z4,z5,z6,z7⟩:=hk
 obtain ⟨q1,q2,q3,q4,q5,l⟩:=k
 simp only at z1 z2 z3 z4 z5 z6 z7 hr ⊢
 refine AE.ACallG.of_walk (fn:=Tryz.f194) (c:=bodyOf Tryz.f194) GG_stays tabOK Tryz.func194 rfl rfl mixed fun A hA X=>?_
 obtain ⟨sm,hsm⟩:∃ b,b = decide (∀ q ∈ [q1,q2,q3,q4,q5],q.Small):=⟨_,rfl⟩
 obtain ⟨y1,hy1⟩:∃ z,z = sgnR q1.v:=⟨_,rfl⟩
 obtain ⟨y2,hy2⟩:∃ z,z = cmpR q2.v q3.v:=⟨_,rfl⟩
 obtain ⟨y3,hy3⟩:∃ z,z = sgnR q4.v:=⟨_,rfl⟩
 obtain ⟨y4,hy4⟩:∃ z,z = sgnR q5.v:=⟨_,rfl⟩
 obtain ⟨pc,hpc⟩:∃ z,z = polyC 8 l:=⟨_,rfl⟩
 obtain ⟨sh,hsh⟩:∃ b,b = decide (∀ p ∈ l,p.Small):=⟨_,rfl⟩
 have hr:r = linkI sm y1 y2 y3 y4 pc sh:=by rw [hr,linkC,hsm,hy1,hy2,hy3,hy4,hpc,hsh]
 obtain ⟨es,hes⟩:∃ es,es = lsAv V2.c l:=⟨_,rfl⟩
 have k1:=armSmall_ok [q1,q2,q3,q4,q5] (by simp only [List.mem_cons,List.not_mem_nil,or_false,forall_eq_or_imp,forall_eq]; omega) (by simp) [q1.c,q2.c,q3.c,q4.c,q5.c] (by rw [lsAv_eq]; rfl) sm hsm
 have k2:=sign_ok q1 (by omega) y1 hy1
 have k3:=ratCmp_ok q2 q3 (by omega) (by omega) y2 hy2
 have k4:=sign_ok q4 (by omega) y3 hy3
 have k5:=sign_ok q5 (by omega) y4 hy4
 have k6:=polyCheck8_ok l z6 z7 es hes pc hpc
 simp only [Lk.c,← hes]
 (repeat' (first|(refine X.g ?_; cbv)|refine X.splitT ?_|refine X.splitF ?_|refine X.sp (fun hc=>?_) (fun hc=>?_)|refine X.needT ?_|(refine X.isCall ?_; refine X.lendsG [1] k1 rfl ?_ (by cbv) ?_; focus (cbv <;> (and_intros <;> first|rfl|trivial)))|refine X.callsGA [] k2 ?_|refine X.callsGA [] k3 ?_|refine X.callsGA [] k4 ?_|refine X.callsGA [] k5 ?_|refine X.callsGA [] k6 ?_))
 all_goals first|(refine X.ret _ (X.done rfl ?_); cbv <;> (and_intros <;> first|rfl|trivial|(clear X; rw [hr]; (try simp only [AE.c_lss hA,AE.c_leq hA,AE.c_gtr hA,AE.c_geq hA,AE.c_eql hA,AE.c_neq hA,AE.c_not hA,AE.c_and hA,AE.c_beq hA,AE.c_bne hA,decide_eq_true_eq,decide_eq_false_iff_not,Bool.not_eq_true,Bool.not_eq_false,Bool.not_eq_eq_eq_not,Bool.not_true,Bool.not_false,Int.not_lt,Int.not_le,Int.ofNat_eq_natCast] at *); unfold linkI; first|(simp_all; done)|((repeat' split) <;> first|omega|(simp_all; done)|(simp_all; omega)))))|skip
 have ez:pc = 0 ∧ sm = true ∧ 0 < y1 ∧ y2 < 0 ∧ 0 < y3 ∧ 0 < y4:=by
  clear X k1 k2 k3 k4 k5 k6
  simp only [AE.c_lss hA,AE.c_leq hA,AE.c_gtr hA,AE.c_geq hA,AE.c_eql hA,AE.c_neq hA,AE.c_not hA,AE.c_and hA,AE.c_beq hA,AE.c_bne hA,decide_eq_true_eq,decide_eq_false_iff_not,Bool.not_eq_true,Bool.not_eq_false,Bool.not_eq_eq_eq_not,Bool.not_true,Bool.not_false,Int.not_lt,Int.not_le,Int.ofNat_eq_natCast] at *
  refine ⟨by omega,by assumption,by omega,by omega,by omega,by omega⟩
 have hr2:r = if sh = true then 0 else 1:=by
  obtain ⟨e1,e2,e3,e4,e5,e6⟩:=ez
  rw [hr,linkI,if_neg (by rw [e2]; simp; omega),if_neg (by omega),if_neg (by omega)]
 refine rangeL0 X hA hes (by omega) (fun i=>∀ p ∈ l.take i,p.Small) (fun z _=>[(52,.v (.int .i64 z))]) (fun b hb=>by simp at hb) ?_ (fun i z y hz hy he c3 hI B hB=>?_) (fun z c3 hI B=>?_)
 ·(cbv <;> (and_intros <;> first|rfl|trivial))
 ·have hm:=List.mem_of_getElem? hy
  have ym:=z6 y hm
  simp only [V2.sz] at ym
  obtain ⟨g,hg⟩:∃ g,g = decide (∀ q ∈ [y.x,y.y],q.Small):=⟨_,rfl⟩
  have k1:=armSmall_ok [y.x,y.y] (by simp only [List.mem_cons,List.not_mem_nil,or_false,forall_eq_or_imp,forall_eq]; omega) (by simp) [y.x.c,y.y.c] (by rw [lsAv_eq]; rfl) g hg
  have hgs:g = decide y.Small:=by rw [hg]; congr 1; simp [V2.Small]
  by_cases h:y.Small
  ·have c4:A.bnot g = false:=by rw [AE.c_not hA,hgs,decide_eq_true h]; rfl
   have hI' : ∀ q ∈ l.take (i + 1),q.Small:=by
    rw [List.take_add_one,hy]
    intro x hx
    rcases List.mem_append.1 hx with hx|hx
    ·exact hI x hx
    ·simp at hx; rw [hx]; exact h
   (repeat' (first|(refine X.g ?_; cbv)|refine X.splitT ?_|refine X.splitF ?_|refine X.sp (fun hc=>?_) (fun hc=>?_)|refine X.needT ?_|refine X.idx _ _ _ _ _ _ _ _ he hz ?_|(refine X.isCall ?_; refine X.lendsG [3] k1 rfl ?_ (by cbv) ?_; focus (cbv <;> (and_intros <;> first|rfl|trivial)))))
   all_goals (refine hB hI' _ ?_; clear hB; (cbv <;> (and_intros <;> first|rfl|trivial)))
  ·have c4:A.bnot g = true:=by rw [AE.c_not hA,hgs,decide_eq_false h]; rfl
   have e1:1 = r:=by rw [hr2,hsh,decide_eq_false (fun hh=>h (hh y hm))]; rfl
   clear hB
   (repeat' (first|(refine X.g ?_; cbv)|refine X.splitT ?_|refine X.splitF ?_|refine X.sp (fun hc=>?_) (fun hc=>?_)|refine X.needT ?_|refine X.idx _ _ _ _ _ _ _ _ he hz ?_|(refine X.isCall ?_; refine X.lendsG [3] k1 rfl ?_ (by cbv) ?_; focus (cbv <;> (and_intros <;> first|rfl|trivial)))))
   all_goals (refine X.ret _ (X.done rfl ?_); cbv <;> (and_intros <;> first|exact e1|rfl|trivial))
 ·rw [List.take_length] at hI
  have e1:0 = r:=by rw [hr2,hsh,decide_eq_true hI]; rfl
  (repeat' (first|(refine X.g ?_; cbv)|refine X.splitT ?_|refine X.splitF ?_|refine X.sp (fun hc=>?_) (fun hc=>?_)|refine X.needT ?_))
  all_goals (refine X.ret _ (X.done rfl ?_); cbv <;> (and_intros <;> first|exact e1|rfl|trivial))
def firstE {α : Type} (f:α → Int):List α → Int
 | []=>0
 | x :: l=>if f x ≠ 0 then f x else firstE f l
theorem firstE_drop {α : Type} {f:α → Int} {l:List α} {i:Nat} {y:α} (h:l[i]? = some y):firstE f (l.drop i) = if f y ≠ 0 then f y else firstE f (l.drop (i + 1)):=by
 obtain ⟨hi,rfl⟩:=List.getElem?_eq_some_iff.1 h
 rw [List.drop_eq_getElem_cons hi,firstE]
def Fr.le (p:Fr) (n:Nat):Prop:=p.at_.sz ≤ n ∧ p.turn.t.sz ≤ n
def Ar.le (a:Ar) (n:Nat):Prop:=a.name.size < 2 ^ 60 ∧ a.base.le n ∧ (∀ k ∈ a.links,k.le n) ∧ a.links.length < 2 ^ 40
def armI (nm:Bool) (n:Int) (sm half:Bool) (s:Int) (ls:Int):Int:=if nm = false then 3 else if 3 < n then 2 else if n = 0 ∨ sm = false ∨ (half = true ∧ s ≠ 0) then 1 else ls
def armC (a:Ar):Int:=armI (decide (nameOK a.name)) a.links.length (decide (∀ q ∈ [a.base.at_.x,a.base.at_.y,a.base.turn.t],q.Small)) a.base.turn.half (sgnR a.base.turn.t.v) (firstE linkC a.links)
theorem armCheck_ok (a:Ar) (ha:a.le (2 ^ 28)) (r:Int) (hr:r = armC a):AE.ACallG GG Tryz.prog 123 [] [.a a.c] [] (.v (.int .i64 r)):=by
 obtain ⟨z1,⟨z2,z3⟩,z4,z5⟩:=ha
 obtain ⟨name,⟨⟨q1,q2⟩,⟨half,q3⟩⟩,l⟩:=a
 simp only [V2.sz] at z1 z2 z3 z4 z5 hr ⊢
 refine AE.ACallG.of_walk (fn:=Tryz.f123) (c:=bodyOf Tryz.f123) GG_stays tabOK Tryz.func123 rfl rfl mixed fun A hA X=>?_
 obtain ⟨nm,hnm⟩:∃ b,b = decide (nameOK name):=⟨_,rfl⟩
 obtain ⟨sm,hsm⟩:∃ b,b = decide (∀ q ∈ [q1,q2,q3],q.Small):=⟨_,rfl⟩
 obtain ⟨y1,hy1⟩:∃ z,z = sgnR q3.v:=⟨_,rfl⟩
 obtain ⟨ls,hls⟩:∃ z,z = firstE linkC l:=⟨_,rfl⟩
 obtain ⟨es,hes⟩:∃ es,es = lsAv Lk.c l:=⟨_,rfl⟩
 have hlen:A.llen es = (l.length:Int):=by rw [llen hA,hes,lsAv_len]
 have hr:r = armI nm (A.llen es) sm half y1 ls:=by rw [hr,armC,hsm,hy1,hnm,hls,hlen]
 have k1:=isName_ok name z1 nm hnm
 have k2:=armSmall_ok [q1,q2,q3] (by simp only [List.mem_cons,List.not_mem_nil,or_false,forall_eq_or_imp,forall_eq]; omega) (by simp) [q1.c,q2.c,q3.c] (by rw [lsAv_eq]; rfl) sm hsm
 have k3:=sign_ok q3 (by omega) y1 hy1
 simp only [Ar.c,← hes]
 (repeat' (first|(refine X.g ?_; cbv)|refine X.splitT ?_|refine X.splitF ?_|refine X.sp (fun hc=>?_) (fun hc=>?_)|refine X.needT ?_|refine X.callsGA [] k1 ?_|refine X.callsGA [] k3 ?_|(refine X.isCall ?_; refine X.lendsG [2] k2 rfl ?_ (by cbv) ?_; focus (cbv <;> (and_intros <;> first|rfl|trivial)))))
 all_goals first|(refine X.ret _ (X.done rfl ?_); cbv <;> (and_intros <;> first|rfl|trivial|(clear X; rw [hr]; (try simp only [AE.c_lss hA,AE.c_leq hA,AE.c_gtr hA,AE.c_geq hA,AE.c_eql hA,AE.c_neq hA,AE.c_not hA,AE.c_and hA,AE.c_beq hA,AE.c_bne hA,decide_eq_true_eq,decide_eq_false_iff_not,Bool.not_eq_true,Bool.not_eq_false,Bool.not_eq_eq_eq_not,Bool.not_true,Bool.not_false,Int.not_lt,Int.not_le,Int.ofNat_eq_natCast] at *); unfold armI; first|(simp_all; done)|((repeat' split) <;> first|omega|(simp_all; done)|(simp_all; omega)))))|skip
 all_goals (
  have ez:nm = true ∧ ¬ 3 < A.llen es ∧ ¬ (A.llen es = 0 ∨ sm = false ∨ (half = true ∧ y1 ≠ 0)):=by
   clear X k1 k2 k3 hr hsm hy1 hls hlen hes hnm
   simp only [AE.c_lss hA,AE.c_leq hA,AE.c_gtr hA,AE.c_geq hA,AE.c_eql hA,AE.c_neq hA,AE.c_not hA,AE.c_and hA,AE.c_beq hA,AE.c_bne hA,decide_eq_true_eq,decide_eq_false_iff_not,Bool.not_eq_true,Bool.not_eq_false,Bool.not_eq_eq_eq_not,Bool.not_true,Bool.not_false,Int.not_lt,Int.not_le,Int.ofNat_eq_natCast] at *
   refine ⟨by assumption,by omega,?_⟩
   rintro (h|h|⟨h,h2⟩) <;> first|omega|(simp_all; done))
 all_goals (
  have hr2:r = ls:=by
   obtain ⟨e1,e2,e3⟩:=ez
   rw [hr,armI,if_neg (by rw [e1]; simp),if_neg e2,if_neg e3])
 all_goals refine rangeL0 X hA hes (by omega) (fun i=>firstE linkC (l.drop i) = r) (fun z _=>[(50,.v (.int .i64 z))]) (by rw [hr2,hls]; rfl) (by (cbv <;> (and_intros <;> first|rfl|trivial))) (fun i z y hz hy he c3 hI B hB=>by
   obtain ⟨e,hee⟩:∃ e,e = linkC y:=⟨_,rfl⟩
   have k4:=armLink_ok y (z4 y (List.mem_of_getElem? hy)) e hee
   rw [firstE_drop hy,← hee] at hI
   by_cases h0:e = 0
   ·have c4:A.cmp .neq e 0 = false:=by rw [AE.c_neq hA,h0]; rfl
    rw [if_neg (by omega)] at hI
    (repeat' (first|(refine X.g ?_; cbv)|refine X.splitT ?_|refine X.splitF ?_|refine X.sp (fun hc=>?_) (fun hc=>?_)|refine X.needT ?_|refine X.idx _ _ _ _ _ _ _ _ he hz ?_|refine X.callsGA [] k4 ?_))
    all_goals (refine hB hI _ ?_; clear hB; (cbv <;> (and_intros <;> first|rfl|trivial)))
   ·have c4:A.cmp .neq e 0 = true:=by rw [AE.c_neq hA]; simpa using h0
    rw [if_pos h0] at hI
    clear hB
    (repeat' (first|(refine X.g ?_; cbv)|refine X.splitT ?_|refine X.splitF ?_|refine X.sp (fun hc=>?_) (fun hc=>?_)|refine X.needT ?_|refine X.idx _ _ _ _ _ _ _ _ he hz ?_|refine X.callsGA [] k4 ?_))
    all_goals (refine X.ret _ (X.done rfl ?_); cbv <;> (and_intros <;> first|exact hI|rfl|trivial))) (fun z c3 hI B=>by
   have e1:0 = r:=by rw [← hI,List.drop_length]; rfl
   (repeat' (first|(refine X.g ?_; cbv)|refine X.splitT ?_|refine X.splitF ?_|refine X.sp (fun hc=>?_) (fun hc=>?_)|refine X.needT ?_))
   all_goals (refine X.ret _ (X.done rfl ?_); cbv <;> (and_intros <;> first|exact e1|rfl|trivial)))
def hasI (ac v n:Int):Int:=if ac ≠ 0 then ac else if v ≠ n then 1 else 0
theorem armHas_ok (a:Ar) (ha:a.le (2 ^ 28)) (v:Int) (r:Int) (hr:r = hasI (armC a) v a.links.length):AE.ACallG GG Tryz.prog 171 [] [.a a.c,.v (.int .i64 v)] [] (.v (.int .i64 r)):=by
 refine AE.ACallG.of_walk (fn:=Tryz.f171) (c:=bodyOf Tryz.f171) GG_stays tabOK Tryz.func171 rfl rfl mixed fun A hA X=>?_
 obtain ⟨e,he⟩:∃ e,e = armC a:=⟨_,rfl⟩
 have k1:=armCheck_ok a ha e he
 obtain ⟨name,base,l⟩:=a
 obtain ⟨es,hes⟩:∃ es,es = lsAv Lk.c l:=⟨_,rfl⟩
 have hlen:A.llen es = (l.length:Int):=by rw [llen hA,hes,lsAv_len]
 have hr:r = hasI e v (A.llen es):=by rw [hr,← he,hlen]
 simp only [Ar.c,← hes] at k1 ⊢
 (repeat' (first|(refine X.g ?_; cbv)|refine X.splitT ?_|refine X.splitF ?_|refine X.sp (fun hc=>?_) (fun hc=>?_)|refine X.callsGA [] k1 ?_|refine X.needT ?_))
 all_goals (refine X.ret _ (X.done rfl ?_); cbv <;> (and_intros <;> first|rfl|trivial|(clear X k1; rw [hr]; (try simp only [AE.c_lss hA,AE.c_leq hA,AE.c_gtr hA,AE.c_geq hA,AE.c_eql hA,AE.c_neq hA,AE.c_not hA,AE.c_and hA,AE.c_beq hA,AE.c_bne hA,decide_eq_true_eq,decide_eq_false_iff_not,Bool.not_eq_true,Bool.not_eq_false,Bool.not_eq_eq_eq_not,Bool.not_true,Bool.not_false,Int.not_lt,Int.not_le,Int.ofNat_eq_natCast] at *); unfold hasI; first|(simp_all; done)|((repeat' split) <;> first|omega|(simp_all; done)|(simp_all; omega)))))
def between (q:Q) (k:Lk):Prop:=k.low.v ≤ q.v ∧ q.v ≤ k.high.v
instance (q:Q) (k:Lk):Decidable (between q k):=by unfold between; infer_instance
def allBetween:List Q → List Lk → Prop
 | q :: qs,k :: ks=>between q k ∧ allBetween qs ks
 | _,_=>True
instance allBetween_dec:∀ (q:List Q) (k:List Lk),Decidable (allBetween q k)
 | q :: qs,k :: ks=>by unfold allBetween; exact @instDecidableAnd _ _ _ (allBetween_dec qs ks)
 | [],_=>by unfold allBetween; infer_instance
 | _ :: _,[]=>by unfold allBetween; infer_instance
theorem allBetween_drop {qs:List Q} {ks:List Lk} {i:Nat} {q:Q} {k:Lk} (h1:qs[i]? = some q) (h2:ks[i]? = some k):allBetween (qs.drop i) (ks.drop i) ↔ between q k ∧ allBetween (qs.drop (i + 1)) (ks.drop (i + 1)):=by
 obtain ⟨hi,rfl⟩:=List.getElem?_eq_some_iff.1 h1
 obtain ⟨hj,rfl⟩:=List.getElem?_eq_some_iff.1 h2
 rw [List.drop_eq_getElem_cons hi,List.drop_eq_getElem_cons hj,allBetween]
def fitsC (a:Ar) (q:List Q):Int:=if hasI (armC a) q.length a.links.length ≠ 0 then hasI (armC a) q.length a.links.length else if allBetween q a.links then 0 else 17
theorem armFits_ok (a:Ar) (ha:a.le (2 ^ 28)) (q:List Q) (hq:∀ x ∈ q,x.sz ≤ 2 ^ 32) (hql:q.length < 2 ^ 40) (eq:List (List AE.AV)) (heq:eq = lsAv Q.c q) (r:Int) (hr:r = fitsC a q):AE.ACallG GG Tryz.prog 117 [] [.a a.c,.l 3 eq] [] (.v (.int .i64 r)):=by
 refine AE.ACallG.of_walk (fn:=Tryz.f117) (c:=bodyOf Tryz.f117) GG_stays tabOK Tryz.func117 rfl rfl mixed fun A hA X=>?_
 have hlq:A.llen eq = (q.length:Int):=by rw [llen hA,heq,lsAv_len]
 obtain ⟨e,he⟩:∃ e,e = hasI (armC a) q.length a.links.length:=⟨_,rfl⟩
 have k1:=armHas_ok a ha (A.llen eq) e (by rw [hlq]; exact he)
 rw [fitsC,← he] at hr
 obtain ⟨z1,z2,z4,z5⟩:=ha
 obtain ⟨name,base,l⟩:=a
 simp only at z1 z2 z4 z5 hr he
 obtain ⟨es,hes⟩:∃ es,es = lsAv Lk.c l:=⟨_,rfl⟩
 simp only [Ar.c,← hes] at k1 ⊢
 by_cases h0:e = 0
 ·have c4:A.cmp .neq e 0 = false:=by rw [AE.c_neq hA,h0]; rfl
  rw [if_neg (by omega)] at hr
  have hll:q.length = l.length:=by
   rw [h0] at he
   unfold hasI at he
   split at he
   ·omega
   ·split at he
    ·omega
    ·omega
  (repeat' (first|(refine X.g ?_; cbv)|refine X.splitT ?_|refine X.splitF ?_|refine X.sp (fun hc=>?_) (fun hc=>?_)|refine X.callsGA [] k1 ?_|refine X.needT ?_))
  refine rangeL0 X hA hes (by omega) (fun i=>allBetween q l ↔ allBetween (q.drop i) (l.drop i)) (fun z _=>[(18,.v (.int .i64 z))]) Iff.rfl ?_ (fun i z y hz hy hey c3 hI B hB=>?_) (fun z c3 hI B=>?_)
  ·(cbv <;> (and_intros <;> first|rfl|trivial))
  ·have hil:i < l.length:=(List.getElem?_eq_some_iff.1 hy).1
   obtain ⟨x,hx⟩:∃ x,q[i]? = some x:=⟨_,List.getElem?_eq_getElem (by omega)⟩
   have hex:eq[i]? = some x.c:=by rw [heq]; exact lsAv_get hx
   have hyl:=z4 y (List.mem_of_getElem? hy)
   have hxs:=hq x (List.mem_of_getElem? hx)
   obtain ⟨l1,l2,l3,_⟩:=hyl
   rw [allBetween_drop hx hy] at hI
   obtain ⟨u,hu⟩:∃ u,u = cmpR x.v y.low.v:=⟨_,rfl⟩
   obtain ⟨w,hw⟩:∃ u,u = cmpR x.v y.high.v:=⟨_,rfl⟩
   have k2:=ratCmp_ok x y.low (by omega) (by omega) u hu
   have k3:=ratCmp_ok x y.high (by omega) (by omega) w hw
   have hbt:between x y ↔ 0 ≤ u ∧ w ≤ 0:=by rw [hu,hw,cmpR_ge,cmpR_le]; rfl
   clear k1
   by_cases hu0:0 ≤ u
   ·have c5:A.cmp .lss u 0 = false:=by rw [AE.c_lss hA]; exact decide_eq_false (by omega)
    by_cases hw0:w ≤ 0
    ·have c6:A.cmp .gtr w 0 = false:=by rw [AE.c_gtr hA]; exact decide_eq_false (by omega)
     have hI' := hI.trans ⟨fun h=>h.2,fun h=>⟨hbt.2 ⟨hu0,hw0⟩,h⟩⟩
     (repeat' (first|(refine X.g ?_; cbv)|refine X.splitT ?_|refine X.splitF ?_|refine X.sp (fun hc=>?_) (fun hc=>?_)|refine X.needT ?_|refine X.drawX _ _ _ (by kernel_rfl) (X.frzB 1 _ _ (Nat.zero_le _) ?_)|refine X.idx _ _ _ _ _ _ _ _ hey hz ?_|refine X.idx _ _ _ _ _ _ _ _ hex hz ?_|refine X.callsGA [] k2 ?_|refine X.callsGA [] k3 ?_))
     all_goals (refine hB hI' _ ?_; clear hB; (cbv <;> (and_intros <;> first|rfl|trivial)))
    ·have c6:A.cmp .gtr w 0 = true:=by rw [AE.c_gtr hA]; exact decide_eq_true (by omega)
     have e1:17 = r:=by rw [hr,if_neg (fun h=>hw0 (hbt.1 (hI.1 h).1).2)]
     clear hB
     (repeat' (first|(refine X.g ?_; cbv)|refine X.splitT ?_|refine X.splitF ?_|refine X.sp (fun hc=>?_) (fun hc=>?_)|refine X.needT ?_|refine X.drawX _ _ _ (by kernel_rfl) (X.frzB 1 _ _ (Nat.zero_le _) ?_)|refine X.idx _ _ _ _ _ _ _ _ hey hz ?_|refine X.idx _ _ _ _ _ _ _ _ hex hz ?_|refine X.callsGA [] k2 ?_|refine X.callsGA [] k3 ?_))
     all_goals (refine X.ret _ (X.done rfl ?_); cbv <;> (and_intros <;> first|exact e1|rfl|trivial))
   ·have c5:A.cmp .lss u 0 = true:=by rw [AE.c_lss hA]; exact decide_eq_true (by omega)
    have e1:17 = r:=by rw [hr,if_neg (fun h=>hu0 (hbt.1 (hI.1 h).1).1)]
    clear hB
    (repeat' (first|(refine X.g ?_; cbv)|refine X.splitT ?_|refine X.splitF ?_|refine X.sp (fun hc=>?_) (fun hc=>?_)|refine X.needT ?_|refine X.drawX _ _ _ (by kernel_rfl) (X.frzB 1 _ _ (Nat.zero_le _) ?_)|refine X.idx _ _ _ _ _ _ _ _ hey hz ?_|refine X.idx _ _ _ _ _ _ _ _ hex hz ?_|refine X.callsGA [] k2 ?_|refine X.callsGA [] k3 ?_))
    all_goals (refine X.ret _ (X.done rfl ?_); cbv <;> (and_intros <;> first|exact e1|rfl|trivial))
  ·have e1:0 = r:=by
    rw [hr,if_pos (hI.2 ?_)]
    rw [List.drop_length,List.drop_eq_nil_of_le (by omega)]
    trivial
   (repeat' (first|(refine X.g ?_; cbv)|refine X.splitT ?_|refine X.splitF ?_|refine X.sp (fun hc=>?_) (fun hc=>?_)|refine X.needT ?_))
   all_goals (refine X.ret _ (X.done rfl ?_); cbv <;> (and_intros <;> first|exact e1|rfl|trivial))
 ·have c4:A.cmp .neq e 0 = true:=by rw [AE.c_neq hA]; simpa using h0
  rw [if_pos h0] at hr
  (repeat' (first|(refine X.g ?_; cbv)|refine X.splitT ?_|refine X.splitF ?_|refine X.sp (fun hc=>?_) (fun hc=>?_)|refine X.callsGA [] k1 ?_|refine X.needT ?_))
  all_goals (refine X.ret _ (X.done rfl ?_); cbv <;> (and_intros <;> first|exact hr.symm|rfl|trivial))
end Go.Proofs.YthadehkggddgoaaGreatDoor
