/- Contracts: gantmake.Below, Stream.Next, slices.Reverse of bytes, digits, Of, at, rectangle. Contract: slices.Reverse of bytes; gantmake.digits. Contracts: gantmake.Of, at, rectangle, poly. -/
import Derived.Test.YthadehkggddgoaaGreatDoorZLoop
import Derived.Test.YthadehkggddgoaaGreatDoorZGcd
import Derived.Test.YthadehkggddgoaaGreatDoorZVec
import Derived.Test.YthadehkggddgoaaGreatDoorZAdd
set_option maxRecDepth 100000
set_option maxHeartbeats 0
section
set_option linter.unusedVariables false
set_option linter.unusedSimpArgs false
namespace Go.Proofs.YthadehkggddgoaaGreatDoor
open Go Go.Num
def numC (e:Int):List AE.AV:=[.v (.int .i64 e)]
theorem rem_std {A:AE.Ari} (hA:A = AE.std) (x n:Int):A.bin .rem .i64 x n = Int.tmod x n:=by subst hA; rfl
theorem makeBelow_ok (x n:Int) (h0:0 < n) (h1:n ≤ 2 ^ 40) (r:Int) (hr:r = x % n):AE.ACall Tryz.prog 20 [] [.v (.int .i64 x),.v (.int .i64 n)] [] (.v (.int .i64 r)):=by
 refine AE.ACall.of_walk (fn:=Tryz.f20) (c:=bodyOf Tryz.f20) tabOK Tryz.func20 rfl rfl mixed fun A hA X=>?_
 have ht:A.bin .rem .i64 x n = x % n - if 0 ≤ x ∨ n ∣ x then 0 else n:=by
  rw [rem_std hA,Int.tmod_eq_emod]
  have:((n.natAbs:Nat):Int) = n:=by omega
  split <;> simp [this]
 have hb:=Int.emod_nonneg x (show n ≠ 0 by omega)
 have hb2:=Int.emod_lt_of_pos x h0
 have hne:n ≠ 0:=by omega
 by_cases h:0 ≤ x ∨ n ∣ x
 ·have e1:A.bin .rem .i64 x n = r:=by rw [ht,if_pos h,hr]; omega
  have c1:A.cmp .lss (A.bin .rem .i64 x n) 0 = false:=by rw [AE.c_lss hA,e1,hr]; exact decide_eq_false (by omega)
  (repeat' (first|(refine X.g ?_; cbv)|refine X.splitT ?_|refine X.splitF ?_|refine X.sp (fun hc=>?_) (fun hc=>?_)|refine X.needT ?_|refine X.need _ _ _ hne ?_))
  all_goals (refine X.ret _ (X.done rfl ?_); cbv <;> (and_intros <;> first|exact e1|rfl|trivial))
 ·have e1:A.bin .rem .i64 x n = r - n:=by rw [ht,if_neg h,hr]
  have c1:A.cmp .lss (A.bin .rem .i64 x n) 0 = true:=by rw [AE.c_lss hA,e1,hr]; exact decide_eq_true (by omega)
  have e2:A.bin .add .i64 (A.bin .rem .i64 x n) n = r:=by
   rw [e1]; subst hA; rw [AE.std_add (by omega) (by omega)]; omega
  (repeat' (first|(refine X.g ?_; cbv)|refine X.splitT ?_|refine X.splitF ?_|refine X.sp (fun hc=>?_) (fun hc=>?_)|refine X.needT ?_|refine X.need _ _ _ hne ?_))
  all_goals (refine X.ret _ (X.done rfl ?_); cbv <;> (and_intros <;> first|exact e2|rfl|trivial))
def nextM (n:Int) (l:List Int):Int × List Int :=
 match l with
 | []=>(0,[])
 | x :: t=>if n < 1 then (0,x :: t) else (x % n,t)
theorem nextM_len (n:Int) (l:List Int):(nextM n l).2.length ≤ l.length:=by
 unfold nextM; split
 ·exact Nat.le_refl _
 ·split <;> simp
theorem nextM_rng (n:Int) (l:List Int):0 ≤ (nextM n l).1 ∧ ((nextM n l).1 < n ∨ (nextM n l).1 = 0):=by
 unfold nextM; split
 ·simp
 ·split
  ·simp
  ·rename_i x t h
   exact ⟨Int.emod_nonneg _ (by omega),.inl (Int.emod_lt_of_pos _ (by omega))⟩
theorem next_ok (l:List Int) (hl:l.length < 2 ^ 40) (n:Int) (hn:n ≤ 2 ^ 40) (e e' : List (List AE.AV)) (he:e = lsAv numC l) (he' : e' = lsAv numC (nextM n l).2) (r:Int) (hr:r = (nextM n l).1):AE.ACall Tryz.prog 135 [.box [.l 1 e] 188] [.p 0 0,.v (.int .i64 n)] [.box [.l 1 e'] 188] (.v (.int .i64 r)):=by
 refine AE.ACall.of_walk (fn:=Tryz.f135) (c:=bodyOf Tryz.f135) tabOK Tryz.func135 rfl rfl mixed fun A hA X=>?_
 have hlen:A.llen e = (l.length:Int):=by rw [llen hA,he,lsAv_len]
 cases l with
 | nil =>
  have c1:A.cmp .eql (A.llen e) 0 = true:=by rw [AE.c_eql hA,hlen]; rfl
  have e1:0 = r:=by rw [hr]; rfl
  have e2:e = e' := by rw [he,he']; rfl
  (repeat' (first|(refine X.g ?_; cbv)|refine X.splitT ?_|refine X.splitF ?_|refine X.sp (fun hc=>?_) (fun hc=>?_)|refine X.needT ?_))
  all_goals (refine X.ret _ (X.done rfl ?_); cbv <;> (and_intros <;> first|exact e1|exact e2|rfl|trivial))
 | cons x t =>
  have c1:A.cmp .eql (A.llen e) 0 = false:=by rw [AE.c_eql hA,hlen]; exact decide_eq_false (by simp; omega)
  by_cases h:n < 1
  ·have c2:A.cmp .lss n 1 = true:=by rw [AE.c_lss hA]; exact decide_eq_true h
   have e1:0 = r:=by rw [hr,nextM,if_pos h]
   have e2:e = e' := by rw [he,he', nextM,if_pos h]
   (repeat' (first|(refine X.g ?_; cbv)|refine X.splitT ?_|refine X.splitF ?_|refine X.sp (fun hc=>?_) (fun hc=>?_)|refine X.needT ?_))
   all_goals (refine X.ret _ (X.done rfl ?_); cbv <;> (and_intros <;> first|exact e1|exact e2|rfl|trivial))
  ·have c2:A.cmp .lss n 1 = false:=by rw [AE.c_lss hA]; exact decide_eq_false h
   have k1:=makeBelow_ok x n (by omega) hn r (by rw [hr,nextM,if_neg h])
   have hget:e[0]? = some [.v (.int .i64 x)]:=by rw [he]; exact lsAv_get (f:=numC) rfl
   have hcut:AE.CutR 1 (A.llen e):=by
    have:(1:Int) ≤ A.llen e:=by rw [hlen]; simp; omega
    constructor <;> omega
   have e2:A.lsub e 1 (A.llen e) = e' := by
    rw [he', nextM,if_neg h,hlen,he]
    subst hA
    show (List.take _ _).drop 1 = _
    rw [lsAv_eq,lsAv_eq]
    simp
    exact List.take_of_length_le (by simp)
   (repeat' (first|(refine X.g ?_; cbv)|refine X.splitT ?_|refine X.splitF ?_|refine X.sp (fun hc=>?_) (fun hc=>?_)|refine X.needT ?_|refine X.idx _ _ _ _ _ _ _ _ hget rfl ?_|refine X.callsA [] k1 ?_|refine X.need _ _ _ hcut ?_))
   all_goals (refine X.ret _ (X.done rfl ?_); cbv <;> (and_intros <;> first|exact e2|rfl|trivial))
def leL (n:Nat):List UInt8:=(encL n).reverse
theorem leL_pos {n:Nat} (h:n ≠ 0):leL n = UInt8.ofNat (n % 256) :: leL (n / 256):=by
 rw [leL,encL_pos h,List.reverse_append]; rfl
def turned {α : Type} (l:List α) (i:Nat):List α:=(l.reverse.take i) ++ ((l.drop i).take (l.length - 2 * i)) ++ (l.reverse.drop (l.length - i))
theorem turned_len {α : Type} (l:List α) {i:Nat} (h:2 * i ≤ l.length):(turned l i).length = l.length:=by
 simp [turned]; omega
theorem turned_get {α : Type} (l:List α) {i k:Nat} (h:2 * i ≤ l.length) (hk:k < l.length):(turned l i)[k]? = if k < i ∨ l.length - i ≤ k then l[l.length - 1 - k]? else l[k]?:=by
 unfold turned
 by_cases h1:k < i
 ·rw [if_pos (.inl h1),List.append_assoc,List.getElem?_append_left (by simp; omega),List.getElem?_take_of_lt h1,List.getElem?_reverse (by omega)]
 ·by_cases h2:l.length - i ≤ k
  ·rw [if_pos (.inr h2),List.getElem?_append_right (by simp; omega),List.getElem?_drop]
   have:l.length - i + (k - (l.reverse.take i ++ (l.drop i).take (l.length - 2 * i)).length) = k:=by simp; omega
   rw [this,List.getElem?_reverse (by omega)]
  ·rw [if_neg (fun h=>h.elim h1 h2),List.getElem?_append_left (by simp; omega),List.getElem?_append_right (by simp; omega),List.getElem?_take_of_lt (by simp; omega),List.getElem?_drop]
   congr 1; simp; omega
theorem turned_zero {α : Type} (l:List α):turned l 0 = l:=by simp [turned]
theorem turned_end {α : Type} (l:List α) {i:Nat} (h:2 * i ≤ l.length) (h2:l.length ≤ 2 * i + 1):turned l i = l.reverse:=by
 apply List.ext_getElem?
 intro k
 by_cases hk:k < l.length
 ·rw [turned_get l h hk,List.getElem?_reverse hk]
  by_cases hc:k < i ∨ l.length - i ≤ k
  ·rw [if_pos hc]
  ·rw [if_neg hc]; congr 1; omega
 ·rw [List.getElem?_eq_none (by rw [turned_len l h]; omega),List.getElem?_eq_none (by simp; omega)]
theorem turned_succ {α : Type} (l:List α) {i:Nat} (h:2 * (i + 1) ≤ l.length) (a b:α) (ha:l[i]? = some a) (hb:l[l.length - 1 - i]? = some b):((turned l i).set i b).set (l.length - 1 - i) a = turned l (i + 1):=by
 apply List.ext_getElem?
 intro k
 by_cases hk:k < l.length
 ·rw [turned_get l h hk,List.getElem?_set,List.getElem?_set]
  by_cases e1:l.length - 1 - i = k
  ·rw [if_pos e1,if_pos (by rw [List.length_set,turned_len l (by omega)]; omega),if_pos (by omega)]
   rw [show l.length - 1 - k = i by omega,ha]
  ·rw [if_neg e1]
   by_cases e2:i = k
   ·rw [if_pos e2,if_pos (by rw [turned_len l (by omega)]; omega),if_pos (by omega),← e2,hb]
   ·rw [if_neg e2,turned_get l (by omega) hk]
    by_cases hc:k < i ∨ l.length - i ≤ k
    ·rw [if_pos hc,if_pos (by omega)]
    ·rw [if_neg hc,if_neg (by omega)]
 ·rw [List.getElem?_eq_none (by rw [List.length_set,List.length_set,turned_len l (by omega)]; omega),List.getElem?_eq_none (by rw [turned_len l h]; omega)]
end Go.Proofs.YthadehkggddgoaaGreatDoor
end
section
set_option linter.unusedVariables false
set_option linter.unusedSimpArgs false
namespace Go.Proofs.YthadehkggddgoaaGreatDoor
open Go Go.Num
theorem reverse_ok (l:List UInt8) (hl:l.length < 2 ^ 40) (es es' : List (List AE.AV)) (hes:es = bl l) (hes' : es' = bl l.reverse):AE.ACall Tryz.prog 161 [.row 1000005 1 es] [.r 0] [.row 1000005 1 es'] (.t []):=by
 refine AE.ACall.of_walk (fn:=Tryz.f161) (c:=bodyOf Tryz.f161) tabOK Tryz.func161 rfl rfl mixed fun A hA X=>?_
 have hlen:A.llen es = (l.length:Int):=by rw [llen hA,hes,bl_len]
 obtain ⟨g,hg⟩:∃ g:Nat → List (List AE.AV),∀ i,g i = bl (turned l i):=⟨_,fun _=>rfl⟩
 have g0:es = g 0:=by rw [hg,turned_zero,hes]
 have e0:A.bin .sub .i64 (A.llen es) 1 = (l.length:Int) - 1:=by rw [hlen]; subst hA; rw [AE.std_sub (by omega) (by omega)]
 (repeat' (first|(refine X.g ?_; cbv)|refine X.splitT ?_|refine X.splitF ?_|refine X.sp (fun hc=>?_) (fun hc=>?_)|refine X.needT ?_))
 refine X.carries (ι:={ p:Nat × Int × Int // 2 * p.1 ≤ l.length ∧ p.2.1 = (p.1:Int) ∧ p.2.2 = (l.length:Int) - 1 - p.1 }) (fun p=>[(2,.v (.int .i64 p.1.2.1)),(3,.v (.int .i64 p.1.2.2))]) (fun p=>[.row 1000005 1 (g p.1.1)]) (fun p=>l.length - p.1.1) ⟨(0,0,A.bin .sub .i64 (A.llen es) 1),Nat.zero_le _,rfl,by rw [e0]; show (l.length:Int) - 1 = (l.length:Int) - 1 - ((0:Nat):Int); omega⟩ ?_ fun p B hB=>?_
 ·(cbv <;> (and_intros <;> first|exact g0|rfl|trivial))
 obtain ⟨⟨i,z,y⟩,hi,hz,hy⟩:=p
 simp only at hi hz hy ⊢
 obtain ⟨j,hj⟩:∃ j,j = l.length - 1 - i:=⟨_,rfl⟩
 by_cases h:2 * (i + 1) ≤ l.length
 ·have hy' : y = (j:Int):=by rw [hy,hj]; omega
  have c1:A.cmp .lss z y = true:=ltT hA hz hy' (by omega)
  obtain ⟨a,ha⟩:∃ a,l[i]? = some a:=⟨_,List.getElem?_eq_getElem (by omega)⟩
  obtain ⟨b,hb⟩:∃ b,l[j]? = some b:=⟨_,List.getElem?_eq_getElem (by omega)⟩
  have ga:(g i)[i]? = some [.v (.int .u8 a.toNat)]:=by rw [hg]; exact bl_get (by rw [turned_get l (by omega) (by omega),if_neg (by omega)]; exact ha)
  have gb:(g i)[j]? = some [.v (.int .u8 b.toNat)]:=by rw [hg]; exact bl_get (by rw [turned_get l (by omega) (by omega),if_neg (by omega)]; exact hb)
  have ati:AE.AtR i (g i):=⟨by rw [hg,bl_len,turned_len l (by omega)]; omega⟩
  have atj:AE.AtR j (g i):=⟨by rw [hg,bl_len,turned_len l (by omega)]; omega⟩
  have hset:∀ x,AE.AtR j (A.lset (g i) i x):=fun x=>⟨by rw [lsetE hA,List.length_set]; exact atj.h⟩
  have e1:A.lset (A.lset (g i) i [.v (.int .u8 b.toNat)]) j [.v (.int .u8 a.toNat)] = g (i + 1):=by
   rw [lsetE hA,lsetE hA,hg,bl_set,bl_set,hj,turned_succ l h a b ha (by rw [← hj]; exact hb),← hg]
  have e2:A.bin .add .i64 z 1 = ((i + 1:Nat):Int):=addI hA hz (y:=1) (b:=1) rfl (by omega)
  have e3:A.bin .sub .i64 y 1 = (l.length:Int) - 1 - ((i + 1:Nat):Int):=by rw [hy]; subst hA; rw [AE.std_sub (by omega) (by omega)]; omega
  (repeat' (first|(refine X.g ?_; cbv)|refine X.splitT ?_|refine X.splitF ?_|refine X.sp (fun hc=>?_) (fun hc=>?_)|refine X.needT ?_|refine X.drawX _ _ _ (by kernel_rfl) ?_|refine X.fork _ _ ?_ ?_|refine X.idxA i ati hz ?_|refine X.idxA j atj hy' ?_|refine X.ldq _ _ _ _ _ _ _ _ _ ga ?_|refine X.ldq _ _ _ _ _ _ _ _ _ gb ?_|refine X.need _ _ _ ati ?_|refine X.need _ _ _ (hset _) ?_|refine X.idxA j (hset _) hy' ?_))
  all_goals (refine hB ⟨(i + 1,A.bin .add .i64 z 1,A.bin .sub .i64 y 1),h,e2,e3⟩ _ (by show l.length - (i + 1) < l.length - i; omega) ?_; clear hB; (cbv <;> (and_intros <;> first|exact e1|rfl|trivial)))
 ·have c1:A.cmp .lss z y = false:=by rw [AE.c_lss hA,hz,hy]; exact decide_eq_false (by omega)
  have e1:g i = es' := by rw [hg,turned_end l hi (by omega),hes']
  clear hB
  (repeat' (first|(refine X.g ?_; cbv)|refine X.splitT ?_|refine X.splitF ?_|refine X.sp (fun hc=>?_) (fun hc=>?_)|refine X.needT ?_))
  all_goals (first|(refine X.ret _ (X.done rfl ?_); cbv <;> (and_intros <;> first|exact e1|rfl|trivial))|(refine X.fin _ (X.done rfl ?_); cbv <;> (and_intros <;> first|exact e1|rfl|trivial)))
theorem wrap_small {A:AE.Ari} (hA:A = AE.std) {n:Int} (h:-(2 ^ 62) ≤ n ∧ n ≤ 2 ^ 62):A.un .neg .i64 n = -n:=by
 subst hA
 exact (AE.wrap_i64 (n:=0 - n) (by omega) (by omega)).trans (by omega)
theorem digits_ok (n:Nat) (hn:n < 2 ^ 62) (z:Int) (hz:z = n) (r:ByteArray) (hr:r = enc n):AE.ACall Tryz.prog 74 [] [.v (.int .i64 z)] [] (.v (.string r)):=by
 refine AE.ACall.of_walk (fn:=Tryz.f74) (c:=bodyOf Tryz.f74) tabOK Tryz.func74 rfl rfl mixed fun A hA X=>?_
 (refine X.g ?_; cbv)
 refine X.loopG _ _ _ (X.nilT 3 5 1 _ _ ?_)
 (refine X.g ?_; cbv)
 refine X.carries (ι:={ p:Nat × List UInt8 × Int // p.2.1 ++ leL p.1 = leL n ∧ p.2.2 = (p.1:Int) ∧ p.1 ≤ n }) (fun p=>[(0,.v (.int .i64 p.1.2.2)),(3,.r 0)]) (fun p=>[.row 5 1 (bl p.1.2.1)]) (fun p=>p.1.1) ⟨(n,[],z),rfl,hz,Nat.le_refl _⟩ ?_ fun p B hB=>?_
 ·have h0:[] = bl []:=by rw [bl_eq]; rfl
  (cbv <;> (and_intros <;> first|exact h0|rfl|trivial))
 obtain ⟨⟨m,pre,y⟩,hp,hy,hm⟩:=p
 simp only at hp hy hm
 obtain ⟨es,hes⟩:∃ es,es = bl pre:=⟨_,rfl⟩
 simp only [← hes]
 by_cases h:m = 0
 ·have c1:A.cmp .gtr y 0 = false:=by rw [AE.c_gtr hA,hy,h]; rfl
  have hpre:pre = leL n:=by rw [← hp,h,leL,encL_zero]; simp
  obtain ⟨e2,he2⟩:∃ e,e = bl pre.reverse:=⟨_,rfl⟩
  have hlen:(leL n).length ≤ 8:=by rw [leL,List.length_reverse,encL_len]; omega
  have k1:=reverse_ok pre (by rw [hpre]; omega) es e2 hes he2
  have e3:e2 = AE.sbytes r:=by rw [he2,hpre,leL,List.reverse_reverse,hr,AE.sbytes_eq,bl_eq]; rfl
  clear hB
  refine X.fix 0 _ _ _ _ _ rfl (by decide) ?_
  (repeat' (first|(refine X.g ?_; cbv)|refine X.splitT ?_|refine X.splitF ?_|refine X.sp (fun hc=>?_) (fun hc=>?_)|refine X.needT ?_|refine X.callsA [0] k1 ?_|refine X.str _ _ _ _ r e3 ?_))
  all_goals (refine X.ret _ (X.done rfl ?_); cbv <;> (and_intros <;> first|rfl|trivial))
 ·have c1:A.cmp .gtr y 0 = true:=by rw [AE.c_gtr hA,hy]; exact decide_eq_true (by omega)
  have e1:A.conv .u8 (A.bin .rem .i64 y 256) = ((UInt8.ofNat (m % 256)).toNat:Int):=by
   rw [cv8 hA (remI hA hy (y:=256) (b:=256) rfl),UInt8.toNat_ofNat']
  have e2:A.bin .quo .i64 y 256 = ((m / 256:Nat):Int):=quoI hA hy (y:=256) (b:=256) rfl (by omega)
  have hpl:pre.length ≤ 8:=by
   have h1:pre.length ≤ (leL n).length:=by rw [← hp]; simp
   have h2:(leL n).length ≤ 8:=by rw [leL,List.length_reverse,encL_len]; omega
   omega
  have hgrow:∀ c,AE.GrowR (A.llen es) (A.llen [c]) 1:=fun c=>grow1 hA (n:=8) (by rw [hes,bl_len]; exact hpl) (by decide) (by decide)
  obtain ⟨pre', hpre'⟩:∃ q,q = pre ++ [UInt8.ofNat (m % 256)]:=⟨_,rfl⟩
  have e3:A.lapp es [[.v (.int .u8 (A.conv .u8 (A.bin .rem .i64 y 256)))]] = bl pre' := by
   rw [e1,hes,hpre']; subst hA
   show bl pre ++ _ = _
   rw [bl_eq,bl_eq,List.map_append]; rfl
  (repeat' (first|(refine X.g ?_; cbv)|refine X.splitT ?_|refine X.splitF ?_|refine X.sp (fun hc=>?_) (fun hc=>?_)|refine X.needT ?_|refine X.need _ _ _ (hgrow _) ?_))
  all_goals (refine hB ⟨(m / 256,pre', A.bin .quo .i64 y 256),by rw [← hp,leL_pos h,hpre']; simp,e2,Nat.le_trans (Nat.div_le_self _ _) hm⟩ _ (by show m / 256 < m; omega) ?_; clear hB; (cbv <;> (and_intros <;> first|exact e3|rfl|trivial)))
end Go.Proofs.YthadehkggddgoaaGreatDoor
end
section
set_option linter.unusedVariables false
set_option linter.unusedSimpArgs false
namespace Go.Proofs.YthadehkggddgoaaGreatDoor
open Go Go.Num
theorem carries0 {A:AE.Ari} {P:Program} {T:AE.Tab} {fn:Func} {n0:Nat} {own' : List AE.OB} {res:AE.AV} {GG:(Nat → Option Obj) → Prop} (X:AE.Walk A P T fn n0 own' res GG) {x:Code} {K:List AE.Item} {σ : AE.St} {ι : Type} (ps:ι → List (Nat × AE.AV)) (m:ι → Nat) (i0:ι) (h0:AE.Says n0 σ (σ.carry x (ps i0) σ.own))
  (h:∀ (i:ι) (B:Act → World → Prop),(∀ (j:ι) (σ' : AE.St),m j < m i → AE.Says n0 σ' (σ.carry x (ps j) σ.own) → X.G (.back B σ')) → X.H (.c x :: .back B :: K) (σ.carry x (ps i) σ.own)):X.G (.loop x K σ) :=
 X.carries ps (fun _=>σ.own) m i0 h0 fun i B hB=>h i B fun j σ' hj hs=>hB j σ' hj hs
theorem ofMk (z:Int) {d:Nat} (hd:d ≠ 0):Q.of (mkRat z d) = ⟨decide (z < 0),enc (z.natAbs / Nat.gcd z.natAbs d),enc (d / Nat.gcd z.natAbs d)⟩:=by
 have hg:0 < Nat.gcd z.natAbs d:=Nat.gcd_pos_of_pos_right _ (Nat.pos_of_ne_zero hd)
 have hdv:((Nat.gcd z.natAbs d:Nat):Int) ∣ z:=by rw [← Int.dvd_natAbs,Int.ofNat_dvd]; exact Nat.gcd_dvd_left _ _
 have e1:(mkRat z d).num = z / (Nat.gcd z.natAbs d:Nat):=by rw [Rat.num_mkRat,if_neg hd,Nat.gcd_comm]
 have e2:(mkRat z d).den = d / Nat.gcd z.natAbs d:=by rw [Rat.den_mkRat,if_neg hd,Nat.gcd_comm]
 rw [Q.of,e1,e2,Int.natAbs_ediv_of_dvd hdv,Int.natAbs_natCast]
 congr 1
 obtain ⟨k,hk⟩:=hdv
 have hgi:(0:Int) < (Nat.gcd z.natAbs d:Nat):=by omega
 have e3:z / (Nat.gcd z.natAbs d:Nat) = k:=by
  conv=>lhs; lhs; rw [hk]
  exact Int.mul_ediv_cancel_left _ (by omega)
 rw [e3]
 by_cases h:k < 0
 ·rw [decide_eq_true h,decide_eq_true]
  rw [hk]; exact Int.mul_neg_of_pos_of_neg hgi h
 ·rw [decide_eq_false h,decide_eq_false]
  rw [hk]; have:=Int.mul_nonneg (Int.le_of_lt hgi) (show 0 ≤ k by omega); omega
theorem imax_abs {A:AE.Ari} (hA:A = AE.std) {z:Int} (hz:-(2 ^ 62) ≤ z ∧ z ≤ 2 ^ 62):A.imax z (A.un .neg .i64 z) = (z.natAbs:Int):=by
 rw [wrap_small hA hz]; subst hA
 show (if -z > z then -z else z) = _
 split <;> omega
theorem makeOf_ok (z d:Int) (hz:-(2 ^ 50) ≤ z ∧ z ≤ 2 ^ 50) (hd:1 ≤ d ∧ d ≤ 2 ^ 50) (r:Q) (hr:r = Q.of (mkRat z d.toNat)):AE.ACall Tryz.prog 19 [] [.v (.int .i64 z),.v (.int .i64 d)] [] (.a r.c):=by
 refine AE.ACall.of_walk (fn:=Tryz.f19) (c:=bodyOf Tryz.f19) tabOK Tryz.func19 rfl rfl mixed fun A hA X=>?_
 obtain ⟨n,hn⟩:∃ n:Nat,n = z.natAbs:=⟨_,rfl⟩
 obtain ⟨m,hm⟩:∃ n:Nat,n = d.toNat:=⟨_,rfl⟩
 have hdm:d = (m:Int):=by omega
 have hm0:m ≠ 0:=by omega
 obtain ⟨g,hg⟩:∃ g:Nat,g = Nat.gcd n m:=⟨_,rfl⟩
 have hg0:0 < g:=by rw [hg]; exact Nat.gcd_pos_of_pos_right _ (by omega)
 have hgle:g ≤ m:=by rw [hg]; exact Nat.gcd_le_right _ (by omega)
 have e1:=imax_abs hA (z:=z) (by omega)
 rw [← hn] at e1
 rw [← hm,ofMk z hm0,← hn,← hg] at hr
 obtain ⟨s1,hs1⟩:∃ s,s = enc (n / g):=⟨_,rfl⟩
 obtain ⟨s2,hs2⟩:∃ s,s = enc (m / g):=⟨_,rfl⟩
 rw [← hs1,← hs2] at hr
 have hdv:((g:Nat):Int) ∣ z:=by rw [hg,hn,← Int.dvd_natAbs,Int.ofNat_dvd]; exact Nat.gcd_dvd_left _ _
 obtain ⟨k,hk⟩:=hdv
 have hkn:k.natAbs = n / g:=by
  have:n = g * k.natAbs:=by rw [hn,hk,Int.natAbs_mul,Int.natAbs_natCast]
  rw [this,Nat.mul_div_cancel_left _ hg0]
 have hkl:k.natAbs ≤ n:=by rw [hkn]; exact Nat.div_le_self _ _
 have q1:A.bin .quo .i64 z (g:Int) = k:=by
  subst hA
  show IntKind.wrap .i64 (Int.tdiv z g) = k
  rw [hk,Int.mul_tdiv_cancel_left _ (by omega)]
  exact AE.wrap_i64 (by omega) (by omega)
 have q2:A.bin .quo .i64 d (g:Int) = ((m / g:Nat):Int):=quoI hA hdm rfl (by omega)
 have q3:=imax_abs hA (z:=k) (by omega)
 have hneg:A.cmp .lss k 0 = r.neg:=by
  rw [AE.c_lss hA,hr]
  by_cases h:k < 0
  ·rw [decide_eq_true h]; symm; apply decide_eq_true; rw [hk]; exact Int.mul_neg_of_pos_of_neg (by omega) h
  ·rw [decide_eq_false h]; symm; apply decide_eq_false; rw [hk]
   have:=Int.mul_nonneg (show (0:Int) ≤ g by omega) (show 0 ≤ k by omega); omega
 have k1:=digits_ok (n / g) (by omega) (A.imax k (A.un .neg .i64 k)) (by rw [q3,hkn]) s1 hs1
 have k2:=digits_ok (m / g) (by have:=Nat.div_le_self m g; omega) (A.bin .quo .i64 d (g:Int)) q2 s2 hs2
 obtain ⟨zg,hzg⟩:∃ z:Int,z = (g:Int):=⟨_,rfl⟩
 rw [← hzg] at q1 k2
 rw [← q1] at k1 hneg
 have f2:s1 = r.num:=by rw [hr]
 have f3:s2 = r.den:=by rw [hr]
 have hzg0:zg ≠ 0:=by omega
 have nl:n < 2 ^ 60:=by omega
 have ml:m < 2 ^ 60:=by omega
 (refine X.g ?_; cbv)
 refine carries0 X (ι:={ p:Nat × Nat × Int × Int // Nat.gcd p.1 p.2.1 = g ∧ p.2.2.1 = (p.1:Int) ∧ p.2.2.2 = (p.2.1:Int) ∧ p.1 < 2 ^ 60 ∧ p.2.1 < 2 ^ 60 }) (fun p=>[(5,.v (.int .i64 p.1.2.2.1)),(6,.v (.int .i64 p.1.2.2.2))]) (fun p=>p.1.2.1) ⟨(n,m,A.imax z (A.un .neg .i64 z),d),hg.symm,e1,hdm,nl,ml⟩ ?_ fun p B hB=>?_
 ·(cbv <;> (and_intros <;> first|rfl|trivial))
 obtain ⟨⟨a,b,x,y⟩,hp,hx,hy,la,lb⟩:=p
 simp only at hp hx hy la lb
 by_cases h:b = 0
 ·have c1:A.cmp .gtr y 0 = false:=by rw [AE.c_gtr hA,hy,h]; rfl
  have hxg:x = zg:=by rw [hx,hzg,← hp,h,Nat.gcd_zero_right]
  subst hxg
  clear hB
  (repeat' (first|(refine X.g ?_; cbv)|refine X.splitT ?_|refine X.splitF ?_|refine X.sp (fun hc=>?_) (fun hc=>?_)|refine X.needT ?_|refine X.drawX _ _ _ (by kernel_rfl) ?_|refine X.fork _ _ ?_ ?_|refine X.need _ _ _ hzg0 ?_|refine X.callsA [] k1 ?_|refine X.callsA [] k2 ?_))
  all_goals (refine X.ret _ (X.done rfl ?_); cbv <;> (and_intros <;> first|exact hneg|exact f2|exact f3|rfl|trivial))
 ·have c1:A.cmp .gtr y 0 = true:=by rw [AE.c_gtr hA,hy]; exact decide_eq_true (by omega)
  have hy0:y ≠ 0:=by omega
  have hml:=Nat.mod_lt a (show b > 0 by omega)
  have e2:A.bin .rem .i64 x y = ((a % b:Nat):Int):=remI hA hx hy
  have e3:Nat.gcd b (a % b) = g:=by rw [← hp,Nat.gcd_comm,← Nat.gcd_rec,Nat.gcd_comm]
  (repeat' (first|(refine X.g ?_; cbv)|refine X.splitT ?_|refine X.splitF ?_|refine X.sp (fun hc=>?_) (fun hc=>?_)|refine X.needT ?_|refine X.drawX _ _ _ (by kernel_rfl) ?_|refine X.fork _ _ ?_ ?_|refine X.need _ _ _ hy0 ?_))
  all_goals (refine hB ⟨(b,a % b,y,A.bin .rem .i64 x y),e3,hy,e2,lb,Nat.lt_trans hml lb⟩ _ hml ?_; clear hB; (cbv <;> (and_intros <;> first|rfl|trivial)))
def atM (x y:Int):V2:=V2.of ⟨mkRat x 4,mkRat y 4⟩
theorem makeAt_ok (x y:Int) (hx:-(2 ^ 50) ≤ x ∧ x ≤ 2 ^ 50) (hy:-(2 ^ 50) ≤ y ∧ y ≤ 2 ^ 50) (r:V2) (hr:r = atM x y):AE.ACall Tryz.prog 139 [] [.v (.int .i64 x),.v (.int .i64 y)] [] (.a r.c):=by
 obtain ⟨p,hp⟩:∃ p,p = Q.of (mkRat x 4):=⟨_,rfl⟩
 obtain ⟨q,hq⟩:∃ p,p = Q.of (mkRat y 4):=⟨_,rfl⟩
 have hr' : r = ⟨p,q⟩:=by rw [hr,hp,hq]; rfl
 subst hr'
 refine AE.ACall.of_walk (fn:=Tryz.f139) (c:=bodyOf Tryz.f139) tabOK Tryz.func139 rfl rfl mixed fun A hA X=>?_
 have k1:=makeOf_ok x 4 hx (by decide) p hp
 have k2:=makeOf_ok y 4 hy (by decide) q hq
 (repeat' (first|(refine X.g ?_; cbv)|refine X.splitT ?_|refine X.splitF ?_|refine X.sp (fun hc=>?_) (fun hc=>?_)|refine X.callsA [] k1 ?_|refine X.callsA [] k2 ?_|refine X.needT ?_))
 all_goals (refine X.ret _ (X.done rfl ?_); cbv <;> (and_intros <;> first|rfl|trivial))
def rectM (x y u v:Int):List V2:=[atM x y,atM u y,atM u v,atM x v]
theorem makeRect_ok (x y u v:Int) (hx:-(2 ^ 50) ≤ x ∧ x ≤ 2 ^ 50) (hy:-(2 ^ 50) ≤ y ∧ y ≤ 2 ^ 50) (hu:-(2 ^ 50) ≤ u ∧ u ≤ 2 ^ 50) (hv:-(2 ^ 50) ≤ v ∧ v ≤ 2 ^ 50) (es:List (List AE.AV)) (hes:es = lsAv V2.c (rectM x y u v)):AE.ACall Tryz.prog 137 [] [.v (.int .i64 x),.v (.int .i64 y),.v (.int .i64 u),.v (.int .i64 v)] [] (.l 6 es):=by
 refine AE.ACall.of_walk (fn:=Tryz.f137) (c:=bodyOf Tryz.f137) tabOK Tryz.func137 rfl rfl mixed fun A hA X=>?_
 obtain ⟨p1,h1⟩:∃ p,p = atM x y:=⟨_,rfl⟩
 obtain ⟨p2,h2⟩:∃ p,p = atM u y:=⟨_,rfl⟩
 obtain ⟨p3,h3⟩:∃ p,p = atM u v:=⟨_,rfl⟩
 obtain ⟨p4,h4⟩:∃ p,p = atM x v:=⟨_,rfl⟩
 have k1:=makeAt_ok x y hx hy p1 h1
 have k2:=makeAt_ok u y hu hy p2 h2
 have k3:=makeAt_ok u v hu hv p3 h3
 have k4:=makeAt_ok x v hx hv p4 h4
 have e1:[p1.c,p2.c,p3.c,p4.c] = es:=by rw [hes,rectM,lsAv_eq,← h1,← h2,← h3,← h4]; rfl
 (repeat' (first|(refine X.g ?_; cbv)|refine X.splitT ?_|refine X.splitF ?_|refine X.sp (fun hc=>?_) (fun hc=>?_)|refine X.callsA [] k1 ?_|refine X.callsA [] k2 ?_|refine X.callsA [] k3 ?_|refine X.callsA [] k4 ?_|refine X.needT ?_))
 all_goals (refine X.ret _ (X.frz 0 _ _ (X.done rfl ?_)); cbv <;> (and_intros <;> first|exact e1|rfl|trivial))
end Go.Proofs.YthadehkggddgoaaGreatDoor
end
