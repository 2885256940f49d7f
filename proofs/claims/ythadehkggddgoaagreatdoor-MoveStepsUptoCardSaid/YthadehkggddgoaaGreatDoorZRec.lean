/- Contracts: how the reference writes a day as bytes (written by tools/genrec.py). -/
import Derived.Test.YthadehkggddgoaaGreatDoorZLoop
import Derived.Test.YthadehkggddgoaaGreatDoorZText
set_option maxRecDepth 100000
set_option maxHeartbeats 0
set_option linter.unusedVariables false
set_option linter.unusedSimpArgs false
namespace Go.Proofs.YthadehkggddgoaaGreatDoor
open Go Go.Num
theorem S_ex:∃ g:List UInt8 → ByteArray,∀ l,g l = ⟨l.toArray⟩:=⟨_,fun _=>rfl⟩
noncomputable def S:List UInt8 → ByteArray:=S_ex.choose
theorem S_eq (l:List UInt8):S l = ⟨l.toArray⟩:=S_ex.choose_spec l
theorem S_app (l m:List UInt8):S l ++ S m = S (l ++ m):=by
 apply ByteArray.ext
 simp [S_eq]
theorem S_size (l:List UInt8):(S l).size = l.length:=by simp [S_eq,ByteArray.size]
theorem S_bytes (l:List UInt8):AE.sbytes (S l) = bl l:=by simp [AE.sbytes_eq,S_eq,bl_eq]
theorem ba_size (a b:ByteArray):(a ++ b).size = a.size + b.size:=by simp
def natL (u:Nat):List UInt8:=if h:u < 128 then [UInt8.ofNat u] else UInt8.ofNat (u % 128 + 128) :: natL (u / 128)
termination_by u
theorem natL_len:∀ (u:Nat),u < 2 ^ 64 → (natL u).length ≤ 10:=by
 have key:∀ (k u:Nat),u < 128 ^ (k + 1) → (natL u).length ≤ k + 1:=by
  intro k
  induction k with
  | zero=>intro u h; unfold natL; rw [dif_pos (by simpa using h)]; simp
  | succ k ih =>
   intro u h
   unfold natL
   split
   ·simp
   ·have:u / 128 < 128 ^ (k + 1):=by rw [Nat.div_lt_iff_lt_mul (by omega)]; rw [Nat.pow_succ] at h; exact h
    have:=ih _ this
    simp; omega
 intro u h
 exact key 9 u (by omega)
def intL (n:Int):List UInt8:=natL (n % 2 ^ 64).toNat
theorem intL_len (n:Int):(intL n).length ≤ 10:=natL_len _ (by omega)
theorem std_and127 (u:Nat) (h:u < 2 ^ 64):AE.std.bin .and .u64 u 127 = ((u % 128:Nat):Int):=by
 show IntKind.wrap .u64 ((((BitVec.ofInt 64 (u:Int)) &&& (BitVec.ofInt 64 (127:Int))).toNat:Nat):Int) = _
 rw [AE.wrap_u64]
 have h1:(BitVec.ofInt 64 (u:Int)).toNat = u:=by rw [BitVec.toNat_ofInt]; omega
 have h2:(BitVec.ofInt 64 (127:Int)).toNat = 127:=by decide
 rw [BitVec.toNat_and,h1,h2]
 have:u &&& 127 = u % 128:=Nat.and_two_pow_sub_one_eq_mod u 7
 rw [this]
 omega
theorem std_or128 (m:Nat) (h:m < 128):AE.std.bin .or .u64 m 128 = ((m + 128:Nat):Int):=by
 show IntKind.wrap .u64 ((((BitVec.ofInt 64 (m:Int)) ||| (BitVec.ofInt 64 (128:Int))).toNat:Nat):Int) = _
 rw [AE.wrap_u64]
 have h1:(BitVec.ofInt 64 (m:Int)).toNat = m:=by rw [BitVec.toNat_ofInt]; omega
 have h2:(BitVec.ofInt 64 (128:Int)).toNat = 128:=by decide
 rw [BitVec.toNat_or,h1,h2]
 have:m ||| 128 = m + 128:=by
  have:=Nat.two_pow_add_eq_or_of_lt (i:=7) (b:=m) (by simpa using h) 1
  have e:(2:Nat) ^ 7 * 1 = 128:=by decide
  rw [e] at this
  rw [Nat.or_comm]; omega
 rw [this]
 omega
noncomputable def natS (n:Int):ByteArray:=S (intL n)
theorem natS_size (n:Int):(natS n).size ≤ 10:=by rw [natS,S_size]; exact intL_len n
theorem refNat_ok (n:Int) (r:ByteArray) (hr:r = natS n):AE.ACall Tryz.prog 183 [] [.v (.int .i64 n)] [] (.v (.string r)):=by
 refine AE.ACall.of_walk (fn:=Tryz.f183) (c:=bodyOf Tryz.f183) tabOK Tryz.func183 rfl rfl mixed fun A hA X=>?_
 obtain ⟨u0,hu0⟩:∃ u0:Nat,u0 = (n % 2 ^ 64).toNat:=⟨_,rfl⟩
 obtain ⟨fin,hfin⟩:∃ fin,fin = natL u0:=⟨_,rfl⟩
 have hfin' : r = S fin:=by rw [hr,natS,intL,← hu0,← hfin]
 have hu0' : A.conv .u64 n = u0:=by
  subst hA; simp only [AE.std,AE.wrap_u64]; omega
 have hu0l:u0 < 2 ^ 64:=by omega
 have hfl:=natL_len u0 hu0l
 rw [← hfin] at hfl
 (refine X.g ?_; cbv)
 refine X.carries (ι:={ p:Nat × List UInt8 // p.1 < 2 ^ 64 ∧ p.2 ++ natL p.1 = fin }) (fun p=>[(4,.v (.int .u64 p.1.1)),(3,.v (.string (S p.1.2)))]) (fun p=>[]) (fun p=>p.1.1) ⟨(u0,[]),hu0l,by rw [hfin]; rfl⟩ ?_ fun i B hB=>?_
 ·cbv <;> (and_intros <;> try first|rfl|trivial|exact hu0' | exact (show (⟨#[]⟩:ByteArray) = S [] by rw [S_eq]))
 ·obtain ⟨⟨u,pre⟩,hi1,hi⟩:=i
  simp only at hi1 hi
  obtain ⟨sp,hsp⟩:∃ sp,sp = S pre:=⟨_,rfl⟩
  obtain ⟨zu,hzu⟩:∃ z:Int,z = (u:Int):=⟨_,rfl⟩
  simp only [← hsp,← hzu]
  have hfl2:fin.length = pre.length + (natL u).length:=by rw [← hi]; simp
  have hfit:∀ b:UInt8,AE.SFit (A.slen sp) (A.slen (S [b])):=by
   intro b; subst hA; constructor; simp only [AE.std,hsp,S_size,List.length_singleton]; omega
  by_cases hlt:u < 128
  ·have c1:A.cmp .lss zu 128 = true:=ltT hA hzu (b:=128) rfl hlt
   obtain ⟨sb,hsb⟩:∃ sb,sb = S [UInt8.ofNat u]:=⟨_,rfl⟩
   have hf2:=hfit (UInt8.ofNat u)
   rw [← hsb] at hf2
   have e0:[[AE.AV.v (.int .u8 (A.conv .u8 zu))]] = AE.sbytes sb:=by
    rw [hsb,S_bytes,hzu]; subst hA
    simp only [AE.std,AE.wrap_u8,bl_eq,List.map_cons,List.map_nil]
    congr 5
   have e1:A.cat sp sb = r:=by
    subst hA; rw [hfin', hsb,hsp,← hi]
    show S pre ++ S [UInt8.ofNat u] = _
    rw [S_app]
    conv=>rhs; unfold natL
    rw [dif_pos hlt]
   clear hB
   (repeat' (first|(refine X.g ?_; cbv)|refine X.splitT ?_|refine X.splitF ?_|refine X.sp (fun hc=>?_) (fun hc=>?_)|refine X.needT ?_|refine X.str _ _ _ _ sb e0 ?_|refine X.need _ _ _ hf2 ?_))
   all_goals (refine X.ret _ (X.done rfl ?_); cbv <;> (and_intros <;> first|exact e1|rfl|trivial))
  ·have c1:A.cmp .lss zu 128 = false:=ltF hA hzu (b:=128) rfl hlt
   obtain ⟨sb,hsb⟩:∃ sb,sb = S [UInt8.ofNat (u % 128 + 128)]:=⟨_,rfl⟩
   have hf2:=hfit (UInt8.ofNat (u % 128 + 128))
   rw [← hsb] at hf2
   have e0:[[AE.AV.v (.int .u8 (A.conv .u8 (A.bin .or .u64 (A.bin .and .u64 zu 127) 128)))]] = AE.sbytes sb:=by
    rw [hsb,S_bytes,hzu]
    have e1:A.bin .and .u64 (u:Int) 127 = ((u % 128:Nat):Int):=by subst hA; exact std_and127 u hi1
    have e2:A.bin .or .u64 ((u % 128:Nat):Int) 128 = ((u % 128 + 128:Nat):Int):=by subst hA; exact std_or128 _ (by omega)
    rw [e1,e2]
    subst hA
    simp only [AE.std,AE.wrap_u8,bl_eq,List.map_cons,List.map_nil]
    congr 5
   have e1:A.cat sp sb = S (pre ++ [UInt8.ofNat (u % 128 + 128)]):=by subst hA; rw [hsb,hsp,← S_app]; rfl
   have e2:A.bin .shr .u64 zu 7 = ((u / 128:Nat):Int):=shrU hA hzu (y:=7) (b:=7) rfl (by decide)
   (repeat' (first|(refine X.g ?_; cbv)|refine X.splitT ?_|refine X.splitF ?_|refine X.sp (fun hc=>?_) (fun hc=>?_)|refine X.needT ?_|refine X.str _ _ _ _ sb e0 ?_|refine X.need _ _ _ hf2 ?_))
   all_goals (refine hB ⟨(u / 128,pre ++ [UInt8.ofNat (u % 128 + 128)]),by show u / 128 < 2 ^ 64; omega,?_⟩ _ (by show u / 128 < u; omega) ?_)
   ·rw [← hi]; conv=>rhs; unfold natL
    rw [dif_neg (by omega)]; simp
   ·obtain ⟨r1,hr1⟩:∃ r1,r1 = S (pre ++ [UInt8.ofNat (u % 128 + 128)]):=⟨_,rfl⟩
    obtain ⟨u1,hu1⟩:∃ u1:Int,u1 = ((u / 128:Nat):Int):=⟨_,rfl⟩
    have e3:A.bin .shr .u64 zu 7 = u1:=e2.trans hu1.symm
    simp only [← hr1,← hu1]
    rw [← hr1] at e1
    clear hB
    (cbv <;> (and_intros <;> first|exact e1|exact e3|rfl|trivial))
def boolS (b:Bool):ByteArray:=if b then ⟨⟨[1]⟩⟩ else ⟨⟨[0]⟩⟩
theorem boolS_size (b:Bool):(boolS b).size = 1:=by cases b <;> rfl
theorem refTruth_ok (b:Bool) (r:ByteArray) (hr:r = boolS b):AE.ACall Tryz.prog 182 [] [.b b] [] (.v (.string r)):=by
 refine AE.ACall.of_walk (fn:=Tryz.f182) (c:=bodyOf Tryz.f182) tabOK Tryz.func182 rfl rfl mixed fun A hA X=>?_
 cases b
 ·have e1:(⟨⟨[0]⟩⟩:ByteArray) = r:=by rw [hr]; rfl
  (repeat' (first|(refine X.g ?_; cbv)|refine X.splitT ?_|refine X.splitF ?_|refine X.sp (fun hc=>?_) (fun hc=>?_)|refine X.needT ?_))
  all_goals (refine X.ret _ (X.done rfl ?_); cbv <;> (and_intros <;> first|exact e1|rfl|trivial))
 ·have e1:(⟨⟨[1]⟩⟩:ByteArray) = r:=by rw [hr]; rfl
  (repeat' (first|(refine X.g ?_; cbv)|refine X.splitT ?_|refine X.splitF ?_|refine X.sp (fun hc=>?_) (fun hc=>?_)|refine X.needT ?_))
  all_goals (refine X.ret _ (X.done rfl ?_); cbv <;> (and_intros <;> first|exact e1|rfl|trivial))
theorem catS {A:AE.Ari} (hA:A = AE.std) (s t:ByteArray):A.cat s t = s ++ t:=by subst hA; rfl
theorem fitS {A:AE.Ari} (hA:A = AE.std) {s t:ByteArray} {n:Nat} (hn:n < 2 ^ 60) (h:(s ++ t).size ≤ n):AE.SFit (A.slen s) (A.slen t):=by
 rw [slen hA,slen hA]; rw [ba_size] at h; constructor; omega
noncomputable def textS (s:ByteArray):ByteArray:=natS s.size ++ s
theorem refText_ok (s r:ByteArray) (hr:r = textS s) (hs:r.size < 2 ^ 60):AE.ACall Tryz.prog 209 [] [.v (.string s)] [] (.v (.string r)):=by
 refine AE.ACall.of_walk (fn:=Tryz.f209) (c:=bodyOf Tryz.f209) tabOK Tryz.func209 rfl rfl mixed fun A hA X=>?_
 obtain ⟨r1,hr1⟩:∃ r,r = natS s.size:=⟨_,rfl⟩
 rw [textS,← hr1] at hr
 have k1:=refNat_ok (A.slen s) r1 (by rw [slen hA]; exact hr1)
 have hf:=fitS hA (s:=r1) (t:=s) (n:=2 ^ 60 - 1) (by decide) (by rw [← hr]; omega)
 have e1:A.cat r1 s = r:=by rw [catS hA,hr]
 (repeat' (first|(refine X.g ?_; cbv)|refine X.splitT ?_|refine X.splitF ?_|refine X.sp (fun hc=>?_) (fun hc=>?_)|refine X.needT ?_|refine X.callsA [] k1 ?_|refine X.need _ _ _ hf ?_))
 all_goals (refine X.ret _ (X.done rfl ?_); cbv <;> (and_intros <;> first|exact e1|rfl|trivial))
noncomputable def Q.S (q:Q):ByteArray:=boolS q.neg ++ textS q.num ++ textS q.den
theorem refNumber_ok (q:Q) (r:ByteArray) (hr:r = Q.S q) (hs:r.size < 2 ^ 60):AE.ACall Tryz.prog 181 [] [.a q.c] [] (.v (.string r)):=by
 refine AE.ACall.of_walk (fn:=Tryz.f181) (c:=bodyOf Tryz.f181) tabOK Tryz.func181 rfl rfl mixed fun A hA X=>?_
 obtain ⟨r1,hr1⟩:∃ r,r = boolS q.neg:=⟨_,rfl⟩
 obtain ⟨r2,hr2⟩:∃ r,r = textS q.num:=⟨_,rfl⟩
 obtain ⟨r3,hr3⟩:∃ r,r = textS q.den:=⟨_,rfl⟩
 have hr0:r = r1 ++ r2 ++ r3:=by rw [hr,hr1,hr2,hr3] <;> rfl
 have hz:=hs
 rw [hr0] at hz
 simp only [ba_size] at hz
 have k1:=refTruth_ok q.neg r1 hr1
 have k2:=refText_ok q.num r2 hr2 (by omega)
 have k3:=refText_ok q.den r3 hr3 (by omega)
 have f2:=fitS hA (s:=r1) (t:=r2) (n:=2 ^ 60 - 1) (by decide) (by simp only [ba_size]; omega)
 have e2:A.cat (r1) r2 = r1 ++ r2:=catS hA _ _
 have f3:=fitS hA (s:=(r1 ++ r2)) (t:=r3) (n:=2 ^ 60 - 1) (by decide) (by simp only [ba_size]; omega)
 have e3:A.cat ((r1 ++ r2)) r3 = (r1 ++ r2) ++ r3:=catS hA _ _
 have g2:AE.SFit (A.slen r1) (A.slen r2):=by first|exact f2|(simp only [catS hA]; exact f2)
 have g3:AE.SFit (A.slen (A.cat r1 r2)) (A.slen r3):=by first|exact f3|(simp only [catS hA]; exact f3)
 have efin:(A.cat (A.cat r1 r2) r3) = r:=by simp only [catS hA]; exact hr0.symm
 (refine X.g ?_; cbv)
 refine X.drawX _ _ _ (by kernel_rfl) (X.frzB 0 _ _ (Nat.zero_le _) ?_)
 (repeat' (first|(refine X.g ?_; cbv)|refine X.splitT ?_|refine X.splitF ?_|refine X.sp (fun hc=>?_) (fun hc=>?_)|refine X.needT ?_|refine X.callsA [] k1 ?_|refine X.callsA [] k2 ?_|refine X.callsA [] k3 ?_|refine X.need _ _ _ g2 ?_|refine X.need _ _ _ g3 ?_))
 all_goals (refine X.ret _ (X.done rfl ?_); cbv <;> (and_intros <;> first|exact efin|rfl|trivial))
noncomputable def V2.S (p:V2):ByteArray:=p.x.S ++ p.y.S
theorem refPoint_ok (p:V2) (r:ByteArray) (hr:r = V2.S p) (hs:r.size < 2 ^ 60):AE.ACall Tryz.prog 188 [] [.a p.c] [] (.v (.string r)):=by
 refine AE.ACall.of_walk (fn:=Tryz.f188) (c:=bodyOf Tryz.f188) tabOK Tryz.func188 rfl rfl mixed fun A hA X=>?_
 obtain ⟨r1,hr1⟩:∃ r,r = p.x.S:=⟨_,rfl⟩
 obtain ⟨r2,hr2⟩:∃ r,r = p.y.S:=⟨_,rfl⟩
 have hr0:r = r1 ++ r2:=by rw [hr,hr1,hr2] <;> rfl
 have hz:=hs
 rw [hr0] at hz
 simp only [ba_size] at hz
 have k1:=refNumber_ok p.x r1 hr1 (by omega)
 have k2:=refNumber_ok p.y r2 hr2 (by omega)
 have f2:=fitS hA (s:=r1) (t:=r2) (n:=2 ^ 60 - 1) (by decide) (by simp only [ba_size]; omega)
 have e2:A.cat (r1) r2 = r1 ++ r2:=catS hA _ _
 have g2:AE.SFit (A.slen r1) (A.slen r2):=by first|exact f2|(simp only [catS hA]; exact f2)
 have efin:(A.cat r1 r2) = r:=by simp only [catS hA]; exact hr0.symm
 (refine X.g ?_; cbv)
 refine X.drawX _ _ _ (by kernel_rfl) (X.frzB 0 _ _ (Nat.zero_le _) ?_)
 (repeat' (first|(refine X.g ?_; cbv)|refine X.splitT ?_|refine X.splitF ?_|refine X.sp (fun hc=>?_) (fun hc=>?_)|refine X.needT ?_|refine X.callsA [] k1 ?_|refine X.callsA [] k2 ?_|refine X.need _ _ _ g2 ?_))
 all_goals (refine X.ret _ (X.done rfl ?_); cbv <;> (and_intros <;> first|exact efin|rfl|trivial))
noncomputable def Fr.S (p:Fr):ByteArray:=p.at_.S ++ boolS p.turn.half ++ p.turn.t.S
theorem refPlaced_ok (p:Fr) (r:ByteArray) (hr:r = Fr.S p) (hs:r.size < 2 ^ 60):AE.ACall Tryz.prog 186 [] [.a p.c] [] (.v (.string r)):=by
 refine AE.ACall.of_walk (fn:=Tryz.f186) (c:=bodyOf Tryz.f186) tabOK Tryz.func186 rfl rfl mixed fun A hA X=>?_
 obtain ⟨r1,hr1⟩:∃ r,r = p.at_.S:=⟨_,rfl⟩
 obtain ⟨r2,hr2⟩:∃ r,r = boolS p.turn.half:=⟨_,rfl⟩
 obtain ⟨r3,hr3⟩:∃ r,r = p.turn.t.S:=⟨_,rfl⟩
 have hr0:r = r1 ++ r2 ++ r3:=by rw [hr,hr1,hr2,hr3] <;> rfl
 have hz:=hs
 rw [hr0] at hz
 simp only [ba_size] at hz
 have k1:=refPoint_ok p.at_ r1 hr1 (by omega)
 have k2:=refTruth_ok p.turn.half r2 hr2
 have k3:=refNumber_ok p.turn.t r3 hr3 (by omega)
 have f2:=fitS hA (s:=r1) (t:=r2) (n:=2 ^ 60 - 1) (by decide) (by simp only [ba_size]; omega)
 have e2:A.cat (r1) r2 = r1 ++ r2:=catS hA _ _
 have f3:=fitS hA (s:=(r1 ++ r2)) (t:=r3) (n:=2 ^ 60 - 1) (by decide) (by simp only [ba_size]; omega)
 have e3:A.cat ((r1 ++ r2)) r3 = (r1 ++ r2) ++ r3:=catS hA _ _
 have g2:AE.SFit (A.slen r1) (A.slen r2):=by first|exact f2|(simp only [catS hA]; exact f2)
 have g3:AE.SFit (A.slen (A.cat r1 r2)) (A.slen r3):=by first|exact f3|(simp only [catS hA]; exact f3)
 have efin:(A.cat (A.cat r1 r2) r3) = r:=by simp only [catS hA]; exact hr0.symm
 (refine X.g ?_; cbv)
 refine X.drawX _ _ _ (by kernel_rfl) (X.frzB 0 _ _ (Nat.zero_le _) ?_)
 (repeat' (first|(refine X.g ?_; cbv)|refine X.splitT ?_|refine X.splitF ?_|refine X.sp (fun hc=>?_) (fun hc=>?_)|refine X.needT ?_|refine X.callsA [] k1 ?_|refine X.callsA [] k2 ?_|refine X.callsA [] k3 ?_|refine X.need _ _ _ g2 ?_|refine X.need _ _ _ g3 ?_))
 all_goals (refine X.ret _ (X.done rfl ?_); cbv <;> (and_intros <;> first|exact efin|rfl|trivial))
noncomputable def upS {α : Type} (f:α → ByteArray) (l:List α) (i:Nat):ByteArray:=(l.take i).foldl (fun acc x=>acc ++ f x) (natS l.length)
noncomputable def lsS {α : Type} (f:α → ByteArray) (l:List α):ByteArray:=upS f l l.length
theorem upS_succ {α : Type} {f:α → ByteArray} {l:List α} {i:Nat} {y:α} (h:l[i]? = some y):upS f l (i + 1) = upS f l i ++ f y:=by
 rw [upS,take_snoc h,List.foldl_append]; rfl
theorem foldS_le {α : Type} (f:α → ByteArray):∀ (l:List α) (a:ByteArray),a.size ≤ (l.foldl (fun acc x=>acc ++ f x) a).size
 | [],a=>Nat.le_refl _
 | x :: l,a=>Nat.le_trans (by rw [ba_size]; omega) (foldS_le f l (a ++ f x))
theorem upS_le {α : Type} (f:α → ByteArray) (l:List α) (i:Nat):(upS f l i).size ≤ (lsS f l).size:=by
 have:lsS f l = (l.drop i).foldl (fun acc x=>acc ++ f x) (upS f l i):=by
  rw [lsS,upS,upS,← List.foldl_append,List.take_append_drop,List.take_length]
 rw [this]; exact foldS_le f _ _
theorem elS_le {α : Type} {f:α → ByteArray} {l:List α} {i:Nat} {y:α} (h:l[i]? = some y):(f y).size ≤ (lsS f l).size:=by
 have:=upS_le f l (i + 1)
 rw [upS_succ h,ba_size] at this; omega
theorem lstRat_ok (l:List Q) (hl:l.length < 2 ^ 40) (es:List (List AE.AV)) (hes:es = lsAv Q.c l) (fn:Nat) (f:Q → ByteArray) (r:ByteArray) (hr:r = lsS f l) (hs:r.size < 2 ^ 60) (each:∀ y ∈ l,∀ r,r = f y → r.size < 2 ^ 60 → AE.ACall Tryz.prog (fn % 1000000) [] [.a y.c] [] (.v (.string r))):AE.ACall Tryz.prog 180 [] [.l 3 es,.f fn []] [] (.v (.string r)):=by
 refine AE.ACall.of_walk (fn:=Tryz.f180) (c:=bodyOf Tryz.f180) tabOK Tryz.func180 rfl rfl mixed fun A hA X=>?_
 obtain ⟨r0,hr0⟩:∃ r,r = natS l.length:=⟨_,rfl⟩
 have k0:=refNat_ok (A.llen es) r0 (by rw [llen hA,hes,lsAv_len]; exact hr0)
 obtain ⟨g,hg⟩:∃ g:Nat → ByteArray,∀ i,g i = upS f l i:=⟨_,fun _=>rfl⟩
 have h00:r0 = g 0:=by rw [hr0,hg]; rfl
 rw [hr] at hs
 (repeat' (first|(refine X.g ?_; cbv)|refine X.splitT ?_|refine X.splitF ?_|refine X.sp (fun hc=>?_) (fun hc=>?_)|refine X.needT ?_|refine X.callsA [] k0 ?_))
 refine rangeL0 X hA hes (by omega) (fun _=>True) (fun z i=>[(13,.v (.int .i64 z)),(5,.v (.string (g i)))]) trivial ?_ (fun i z y hz hy he c3 hI B hB=>?_) (fun z c3 hI B=>?_)
 ·(cbv <;> (and_intros <;> first|exact h00|rfl|trivial))
 ·obtain ⟨ry,hry⟩:∃ r,r = f y:=⟨_,rfl⟩
  have hle:=elS_le (f:=f) hy
  have hle2:=upS_le f l (i + 1)
  rw [upS_succ hy,← hg,← hry] at hle2
  rw [← hry] at hle
  have k1:=each y (List.mem_of_getElem? hy) ry hry (by omega)
  have hf:=fitS hA (s:=g i) (t:=ry) (n:=2 ^ 60 - 1) (by decide) (by omega)
  have e1:A.cat (g i) ry = g (i + 1):=by rw [catS hA,hg (i + 1),upS_succ hy,← hg,← hry]
  clear each k0
  (repeat' (first|(refine X.g ?_; cbv)|refine X.splitT ?_|refine X.splitF ?_|refine X.sp (fun hc=>?_) (fun hc=>?_)|refine X.needT ?_|refine X.idx _ _ _ _ _ _ _ _ he hz ?_|refine X.callsA [] k1 ?_|refine X.need _ _ _ hf ?_))
  all_goals (refine hB trivial _ ?_; clear hB; (cbv <;> (and_intros <;> first|exact e1|rfl|trivial)))
 ·have e1:g l.length = r:=by rw [hg,hr]; rfl
  clear each
  (repeat' (first|(refine X.g ?_; cbv)|refine X.splitT ?_|refine X.splitF ?_|refine X.sp (fun hc=>?_) (fun hc=>?_)|refine X.needT ?_))
  all_goals (refine X.ret _ (X.done rfl ?_); cbv <;> (and_intros <;> first|exact e1|rfl|trivial))
theorem lstVec_ok (l:List V2) (hl:l.length < 2 ^ 40) (es:List (List AE.AV)) (hes:es = lsAv V2.c l) (fn:Nat) (f:V2 → ByteArray) (r:ByteArray) (hr:r = lsS f l) (hs:r.size < 2 ^ 60) (each:∀ y ∈ l,∀ r,r = f y → r.size < 2 ^ 60 → AE.ACall Tryz.prog (fn % 1000000) [] [.a y.c] [] (.v (.string r))):AE.ACall Tryz.prog 187 [] [.l 6 es,.f fn []] [] (.v (.string r)):=by
 refine AE.ACall.of_walk (fn:=Tryz.f187) (c:=bodyOf Tryz.f187) tabOK Tryz.func187 rfl rfl mixed fun A hA X=>?_
 obtain ⟨r0,hr0⟩:∃ r,r = natS l.length:=⟨_,rfl⟩
 have k0:=refNat_ok (A.llen es) r0 (by rw [llen hA,hes,lsAv_len]; exact hr0)
 obtain ⟨g,hg⟩:∃ g:Nat → ByteArray,∀ i,g i = upS f l i:=⟨_,fun _=>rfl⟩
 have h00:r0 = g 0:=by rw [hr0,hg]; rfl
 rw [hr] at hs
 (repeat' (first|(refine X.g ?_; cbv)|refine X.splitT ?_|refine X.splitF ?_|refine X.sp (fun hc=>?_) (fun hc=>?_)|refine X.needT ?_|refine X.callsA [] k0 ?_))
 refine rangeL0 X hA hes (by omega) (fun _=>True) (fun z i=>[(13,.v (.int .i64 z)),(5,.v (.string (g i)))]) trivial ?_ (fun i z y hz hy he c3 hI B hB=>?_) (fun z c3 hI B=>?_)
 ·(cbv <;> (and_intros <;> first|exact h00|rfl|trivial))
 ·obtain ⟨ry,hry⟩:∃ r,r = f y:=⟨_,rfl⟩
  have hle:=elS_le (f:=f) hy
  have hle2:=upS_le f l (i + 1)
  rw [upS_succ hy,← hg,← hry] at hle2
  rw [← hry] at hle
  have k1:=each y (List.mem_of_getElem? hy) ry hry (by omega)
  have hf:=fitS hA (s:=g i) (t:=ry) (n:=2 ^ 60 - 1) (by decide) (by omega)
  have e1:A.cat (g i) ry = g (i + 1):=by rw [catS hA,hg (i + 1),upS_succ hy,← hg,← hry]
  clear each k0
  (repeat' (first|(refine X.g ?_; cbv)|refine X.splitT ?_|refine X.splitF ?_|refine X.sp (fun hc=>?_) (fun hc=>?_)|refine X.needT ?_|refine X.idx _ _ _ _ _ _ _ _ he hz ?_|refine X.callsA [] k1 ?_|refine X.need _ _ _ hf ?_))
  all_goals (refine hB trivial _ ?_; clear hB; (cbv <;> (and_intros <;> first|exact e1|rfl|trivial)))
 ·have e1:g l.length = r:=by rw [hg,hr]; rfl
  clear each
  (repeat' (first|(refine X.g ?_; cbv)|refine X.splitT ?_|refine X.splitF ?_|refine X.sp (fun hc=>?_) (fun hc=>?_)|refine X.needT ?_))
  all_goals (refine X.ret _ (X.done rfl ?_); cbv <;> (and_intros <;> first|exact e1|rfl|trivial))
theorem lstFrame_ok (l:List Fr) (hl:l.length < 2 ^ 40) (es:List (List AE.AV)) (hes:es = lsAv Fr.c l) (fn:Nat) (f:Fr → ByteArray) (r:ByteArray) (hr:r = lsS f l) (hs:r.size < 2 ^ 60) (each:∀ y ∈ l,∀ r,r = f y → r.size < 2 ^ 60 → AE.ACall Tryz.prog (fn % 1000000) [] [.a y.c] [] (.v (.string r))):AE.ACall Tryz.prog 185 [] [.l 10 es,.f fn []] [] (.v (.string r)):=by
 refine AE.ACall.of_walk (fn:=Tryz.f185) (c:=bodyOf Tryz.f185) tabOK Tryz.func185 rfl rfl mixed fun A hA X=>?_
 obtain ⟨r0,hr0⟩:∃ r,r = natS l.length:=⟨_,rfl⟩
 have k0:=refNat_ok (A.llen es) r0 (by rw [llen hA,hes,lsAv_len]; exact hr0)
 obtain ⟨g,hg⟩:∃ g:Nat → ByteArray,∀ i,g i = upS f l i:=⟨_,fun _=>rfl⟩
 have h00:r0 = g 0:=by rw [hr0,hg]; rfl
 rw [hr] at hs
 (repeat' (first|(refine X.g ?_; cbv)|refine X.splitT ?_|refine X.splitF ?_|refine X.sp (fun hc=>?_) (fun hc=>?_)|refine X.needT ?_|refine X.callsA [] k0 ?_))
 refine rangeL0 X hA hes (by omega) (fun _=>True) (fun z i=>[(13,.v (.int .i64 z)),(5,.v (.string (g i)))]) trivial ?_ (fun i z y hz hy he c3 hI B hB=>?_) (fun z c3 hI B=>?_)
 ·(cbv <;> (and_intros <;> first|exact h00|rfl|trivial))
 ·obtain ⟨ry,hry⟩:∃ r,r = f y:=⟨_,rfl⟩
  have hle:=elS_le (f:=f) hy
  have hle2:=upS_le f l (i + 1)
  rw [upS_succ hy,← hg,← hry] at hle2
  rw [← hry] at hle
  have k1:=each y (List.mem_of_getElem? hy) ry hry (by omega)
  have hf:=fitS hA (s:=g i) (t:=ry) (n:=2 ^ 60 - 1) (by decide) (by omega)
  have e1:A.cat (g i) ry = g (i + 1):=by rw [catS hA,hg (i + 1),upS_succ hy,← hg,← hry]
  clear each k0
  (repeat' (first|(refine X.g ?_; cbv)|refine X.splitT ?_|refine X.splitF ?_|refine X.sp (fun hc=>?_) (fun hc=>?_)|refine X.needT ?_|refine X.idx _ _ _ _ _ _ _ _ he hz ?_|refine X.callsA [] k1 ?_|refine X.need _ _ _ hf ?_))
  all_goals (refine hB trivial _ ?_; clear hB; (cbv <;> (and_intros <;> first|exact e1|rfl|trivial)))
 ·have e1:g l.length = r:=by rw [hg,hr]; rfl
  clear each
  (repeat' (first|(refine X.g ?_; cbv)|refine X.splitT ?_|refine X.splitF ?_|refine X.sp (fun hc=>?_) (fun hc=>?_)|refine X.needT ?_))
  all_goals (refine X.ret _ (X.done rfl ?_); cbv <;> (and_intros <;> first|exact e1|rfl|trivial))
theorem lstBool_ok (l:List Bool) (hl:l.length < 2 ^ 40) (es:List (List AE.AV)) (hes:es = lsAv boolC l) (fn:Nat) (f:Bool → ByteArray) (r:ByteArray) (hr:r = lsS f l) (hs:r.size < 2 ^ 60) (each:∀ y ∈ l,∀ r,r = f y → r.size < 2 ^ 60 → AE.ACall Tryz.prog (fn % 1000000) [] [.b y] [] (.v (.string r))):AE.ACall Tryz.prog 189 [] [.l 1 es,.f fn []] [] (.v (.string r)):=by
 refine AE.ACall.of_walk (fn:=Tryz.f189) (c:=bodyOf Tryz.f189) tabOK Tryz.func189 rfl rfl mixed fun A hA X=>?_
 obtain ⟨r0,hr0⟩:∃ r,r = natS l.length:=⟨_,rfl⟩
 have k0:=refNat_ok (A.llen es) r0 (by rw [llen hA,hes,lsAv_len]; exact hr0)
 obtain ⟨g,hg⟩:∃ g:Nat → ByteArray,∀ i,g i = upS f l i:=⟨_,fun _=>rfl⟩
 have h00:r0 = g 0:=by rw [hr0,hg]; rfl
 rw [hr] at hs
 (repeat' (first|(refine X.g ?_; cbv)|refine X.splitT ?_|refine X.splitF ?_|refine X.sp (fun hc=>?_) (fun hc=>?_)|refine X.needT ?_|refine X.callsA [] k0 ?_))
 refine rangeL0 X hA hes (by omega) (fun _=>True) (fun z i=>[(13,.v (.int .i64 z)),(5,.v (.string (g i)))]) trivial ?_ (fun i z y hz hy he c3 hI B hB=>?_) (fun z c3 hI B=>?_)
 ·(cbv <;> (and_intros <;> first|exact h00|rfl|trivial))
 ·obtain ⟨ry,hry⟩:∃ r,r = f y:=⟨_,rfl⟩
  have hle:=elS_le (f:=f) hy
  have hle2:=upS_le f l (i + 1)
  rw [upS_succ hy,← hg,← hry] at hle2
  rw [← hry] at hle
  have k1:=each y (List.mem_of_getElem? hy) ry hry (by omega)
  have hf:=fitS hA (s:=g i) (t:=ry) (n:=2 ^ 60 - 1) (by decide) (by omega)
  have e1:A.cat (g i) ry = g (i + 1):=by rw [catS hA,hg (i + 1),upS_succ hy,← hg,← hry]
  clear each k0
  (repeat' (first|(refine X.g ?_; cbv)|refine X.splitT ?_|refine X.splitF ?_|refine X.sp (fun hc=>?_) (fun hc=>?_)|refine X.needT ?_|refine X.idx _ _ _ _ _ _ _ _ he hz ?_|refine X.callsA [] k1 ?_|refine X.need _ _ _ hf ?_))
  all_goals (refine hB trivial _ ?_; clear hB; (cbv <;> (and_intros <;> first|exact e1|rfl|trivial)))
 ·have e1:g l.length = r:=by rw [hg,hr]; rfl
  clear each
  (repeat' (first|(refine X.g ?_; cbv)|refine X.splitT ?_|refine X.splitF ?_|refine X.sp (fun hc=>?_) (fun hc=>?_)|refine X.needT ?_))
  all_goals (refine X.ret _ (X.done rfl ?_); cbv <;> (and_intros <;> first|exact e1|rfl|trivial))
noncomputable def Lk.S (p:Lk):ByteArray:=p.length.S ++ p.low.S ++ p.high.S ++ p.speed.S ++ p.brake.S ++ lsS V2.S p.shape
noncomputable def Ar.S (p:Ar):ByteArray:=textS p.name ++ p.base.S ++ lsS Lk.S p.links
noncomputable def Pt.S (p:Pt):ByteArray:=textS p.name ++ lsS V2.S p.shape ++ p.grasp.S
noncomputable def Sl.S (p:Sl):ByteArray:=textS p.name ++ p.frame.S ++ p.within.S
noncomputable def Gt.S (p:Gt):ByteArray:=textS p.name ++ p.zone.low.S ++ p.zone.high.S
end Go.Proofs.YthadehkggddgoaaGreatDoor
