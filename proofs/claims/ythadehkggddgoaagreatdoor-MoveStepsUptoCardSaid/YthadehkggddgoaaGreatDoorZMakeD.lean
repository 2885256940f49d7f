/- Contracts: how the reference writes a day as bytes, second part (written by tools/genrec.py b). Contract: the reference's Record (written by tools/genrec.py c). Contracts: slices.IndexFunc and ContainsFunc at the program's types (written by tools/gencl.py). Contracts: gantmake.poly, arm. -/
import Derived.Test.YthadehkggddgoaaGreatDoorZRec
import Derived.Test.YthadehkggddgoaaGreatDoorZArm
import Derived.Test.YthadehkggddgoaaGreatDoorZMake
section
set_option maxRecDepth 100000
set_option maxHeartbeats 0
section
set_option linter.unusedVariables false
set_option linter.unusedSimpArgs false
namespace Go.Proofs.YthadehkggddgoaaGreatDoor
open Go Go.Num
structure Ky where
 tick:Int
 q:List Q
noncomputable def Ky.c (p:Ky):List AE.AV:=[.v (.int .i64 p.tick),.l 3 (lsAv Q.c p.q)]
noncomputable def trackC (t:List Ky):List AE.AV:=[.l 2 (lsAv Ky.c t)]
structure Fl where
 tick:Int
 kind:Int
 n:Int
def Fl.c (p:Fl):List AE.AV:=[.v (.int .i64 p.tick),.v (.int .i64 p.kind),.v (.int .i64 p.n)]
structure Dy where
 works:Wk
 start:Ss
 tracks:List (List Ky)
 faults:List Fl
 walks:List (List V2)
 ticks:Int
noncomputable def Dy.c (d:Dy):List AE.AV:=d.works.c ++ d.start.c ++ [.l 1 (lsAv trackC d.tracks),.l 3 (lsAv Fl.c d.faults),.l 1 (lsAv wallC d.walks),.v (.int .i64 d.ticks)]
theorem natS1 {A:AE.Ari} (hA:A = AE.std) (n:Int):natS (A.bin .add .i64 n 1) = natS (n + 1):=by
 subst hA
 have:(AE.std.bin .add .i64 n 1) % 2 ^ 64 = (n + 1) % 2 ^ 64:=by
  show IntKind.wrap .i64 (n + 1) % 2 ^ 64 = _
  simp only [IntKind.wrap,IntKind.bits,IntKind.signed]
  simp; omega
 rw [natS,natS,intL,intL,this]
noncomputable def As.S (p:As):ByteArray:=lsS Q.S p.q ++ lsS Q.S p.v ++ boolS p.power ++ natS (p.holds + 1)
theorem refArmState_ok (p:As) (hl:p.q.length < 2 ^ 40 ∧ p.v.length < 2 ^ 40) (r:ByteArray) (hr:r = As.S p) (hs:r.size < 2 ^ 60):AE.ACall Tryz.prog 179 [] [.a p.c] [] (.v (.string r)):=by
 refine AE.ACall.of_walk (fn:=Tryz.f179) (c:=bodyOf Tryz.f179) tabOK Tryz.func179 rfl rfl mixed fun A hA X=>?_
 obtain ⟨r1,hr1⟩:∃ r,r = lsS Q.S p.q:=⟨_,rfl⟩
 obtain ⟨r2,hr2⟩:∃ r,r = lsS Q.S p.v:=⟨_,rfl⟩
 obtain ⟨r3,hr3⟩:∃ r,r = boolS p.power:=⟨_,rfl⟩
 obtain ⟨r4,hr4⟩:∃ r,r = natS (p.holds + 1):=⟨_,rfl⟩
 have hr0:r = r1 ++ r2 ++ r3 ++ r4:=by rw [hr,hr1,hr2,hr3,hr4] <;> rfl
 have hz:=hs
 rw [hr0] at hz
 simp only [ba_size] at hz
 have k1:=lstRat_ok p.q hl.1 _ rfl 181 Q.S r1 hr1 (by omega) (fun y _ r hr hs=>refNumber_ok y r hr hs)
 have k2:=lstRat_ok p.v hl.2 _ rfl 181 Q.S r2 hr2 (by omega) (fun y _ r hr hs=>refNumber_ok y r hr hs)
 have k3:=refTruth_ok p.power r3 hr3
 have k4:=refNat_ok (A.bin .add .i64 p.holds 1) r4 (by rw [natS1 hA]; exact hr4)
 have f2:=fitS hA (s:=r1) (t:=r2) (n:=2 ^ 60 - 1) (by decide) (by simp only [ba_size]; omega)
 have e2:A.cat (r1) r2 = r1 ++ r2:=catS hA _ _
 have f3:=fitS hA (s:=(r1 ++ r2)) (t:=r3) (n:=2 ^ 60 - 1) (by decide) (by simp only [ba_size]; omega)
 have e3:A.cat ((r1 ++ r2)) r3 = (r1 ++ r2) ++ r3:=catS hA _ _
 have f4:=fitS hA (s:=((r1 ++ r2) ++ r3)) (t:=r4) (n:=2 ^ 60 - 1) (by decide) (by simp only [ba_size]; omega)
 have e4:A.cat (((r1 ++ r2) ++ r3)) r4 = ((r1 ++ r2) ++ r3) ++ r4:=catS hA _ _
 have g2:AE.SFit (A.slen r1) (A.slen r2):=by first|exact f2|(simp only [catS hA]; exact f2)
 have g3:AE.SFit (A.slen (A.cat r1 r2)) (A.slen r3):=by first|exact f3|(simp only [catS hA]; exact f3)
 have g4:AE.SFit (A.slen (A.cat (A.cat r1 r2) r3)) (A.slen r4):=by first|exact f4|(simp only [catS hA]; exact f4)
 have efin:(A.cat (A.cat (A.cat r1 r2) r3) r4) = r:=by simp only [catS hA]; exact hr0.symm
 (refine X.g ?_; cbv)
 refine X.drawX _ _ _ (by kernel_rfl) (X.frzB 0 _ _ (Nat.zero_le _) ?_)
 (repeat' (first|(refine X.g ?_; cbv)|refine X.splitT ?_|refine X.splitF ?_|refine X.sp (fun hc=>?_) (fun hc=>?_)|refine X.needT ?_|refine X.callsA [] k1 ?_|refine X.callsA [] k2 ?_|refine X.callsA [] k3 ?_|refine X.callsA [] k4 ?_|refine X.need _ _ _ g2 ?_|refine X.need _ _ _ g3 ?_|refine X.need _ _ _ g4 ?_|fail))
 all_goals (refine X.ret _ (X.done rfl ?_); cbv <;> (and_intros <;> first|exact efin|rfl|trivial))
theorem lstArmState_ok (l:List As) (hl:l.length < 2 ^ 40) (es:List (List AE.AV)) (hes:es = lsAv As.c l) (fn:Nat) (f:As → ByteArray) (r:ByteArray) (hr:r = lsS f l) (hs:r.size < 2 ^ 60) (each:∀ y ∈ l,∀ r,r = f y → r.size < 2 ^ 60 → AE.ACall Tryz.prog (fn % 1000000) [] [.a y.c] [] (.v (.string r))):AE.ACall Tryz.prog 184 [] [.l 4 es,.f fn []] [] (.v (.string r)):=by
 refine AE.ACall.of_walk (fn:=Tryz.f184) (c:=bodyOf Tryz.f184) tabOK Tryz.func184 rfl rfl mixed fun A hA X=>?_
 obtain ⟨r0,hr0⟩:∃ r,r = natS l.length:=⟨_,rfl⟩
 have k0:=refNat_ok (A.llen es) r0 (by rw [llen hA,hes,lsAv_len]; exact hr0)
 obtain ⟨g,hg⟩:∃ g:Nat → ByteArray,∀ i,g i = upS f l i:=⟨_,fun _=>rfl⟩
 have h00:r0 = g 0:=by rw [hr0,hg]; rfl
 rw [hr] at hs
 (repeat' (first|(refine X.g ?_; cbv)|refine X.splitT ?_|refine X.splitF ?_|refine X.sp (fun hc=>?_) (fun hc=>?_)|refine X.needT ?_|refine X.callsA [] k0 ?_|fail))
 refine rangeL0 X hA hes (by omega) (fun _=>True) (fun z i=>[(13,.v (.int .i64 z)),(5,.v (.string (g i)))]) trivial ?_ (fun i z y hz hy he c3 hI B hB=>?_) (fun z c3 hI B=>?_)
 ·(cbv <;> (and_intros <;> first|exact h00|rfl|trivial))
 ·obtain ⟨ry,hry⟩:∃ r,r = f y:=⟨_,rfl⟩
  have hle:=elS_le (f:=f) hy
  have hle2:=upS_le f l (i + 1)
  rw [upS_succ hy,← hg,← hry] at hle2
  rw [← hry] at hle
  have k1:=each y (List.mem_of_getElem? hy) ry hry (by omega)
  have hf:=fitS hA (s:=g i) (t:=ry) (n:=2 ^ 60 - 1) (by decide) (by omega)
  have e1:A.cat (g i) ry = g (i + 1):=by rw [catS hA,hg (i + 1),upS_succ hy,← hg,← hry]
  clear each k0
  (repeat' (first|(refine X.g ?_; cbv)|refine X.splitT ?_|refine X.splitF ?_|refine X.sp (fun hc=>?_) (fun hc=>?_)|refine X.needT ?_|refine X.idx _ _ _ _ _ _ _ _ he hz ?_|refine X.callsA [] k1 ?_|refine X.need _ _ _ hf ?_|fail))
  all_goals (refine hB trivial _ ?_; clear hB; (cbv <;> (and_intros <;> first|exact e1|rfl|trivial)))
 ·have e1:g l.length = r:=by rw [hg,hr]; rfl
  clear each
  (repeat' (first|(refine X.g ?_; cbv)|refine X.splitT ?_|refine X.splitF ?_|refine X.sp (fun hc=>?_) (fun hc=>?_)|refine X.needT ?_|fail))
  all_goals (refine X.ret _ (X.done rfl ?_); cbv <;> (and_intros <;> first|exact e1|rfl|trivial))
noncomputable def Ss.S (p:Ss):ByteArray:=natS p.tick ++ lsS As.S p.arms ++ lsS Fr.S p.parts ++ lsS V2.S p.people ++ lsS boolS p.opens
theorem refBytes_ok (p:Ss) (hl:p.arms.length < 2 ^ 40 ∧ (∀ y ∈ p.arms,y.q.length < 2 ^ 40 ∧ y.v.length < 2 ^ 40) ∧ p.parts.length < 2 ^ 40 ∧ p.people.length < 2 ^ 40 ∧ p.opens.length < 2 ^ 40) (r:ByteArray) (hr:r = Ss.S p) (hs:r.size < 2 ^ 60):AE.ACall Tryz.prog 118 [] [.a p.c] [] (.v (.string r)):=by
 refine AE.ACall.of_walk (fn:=Tryz.f118) (c:=bodyOf Tryz.f118) tabOK Tryz.func118 rfl rfl mixed fun A hA X=>?_
 obtain ⟨r1,hr1⟩:∃ r,r = natS p.tick:=⟨_,rfl⟩
 obtain ⟨r2,hr2⟩:∃ r,r = lsS As.S p.arms:=⟨_,rfl⟩
 obtain ⟨r3,hr3⟩:∃ r,r = lsS Fr.S p.parts:=⟨_,rfl⟩
 obtain ⟨r4,hr4⟩:∃ r,r = lsS V2.S p.people:=⟨_,rfl⟩
 obtain ⟨r5,hr5⟩:∃ r,r = lsS boolS p.opens:=⟨_,rfl⟩
 have hr0:r = r1 ++ r2 ++ r3 ++ r4 ++ r5:=by rw [hr,hr1,hr2,hr3,hr4,hr5] <;> rfl
 have hz:=hs
 rw [hr0] at hz
 simp only [ba_size] at hz
 have k1:=refNat_ok p.tick r1 hr1
 have k2:=lstArmState_ok p.arms hl.1 _ rfl 179 As.S r2 hr2 (by omega) (fun y hy r hr hs=>refArmState_ok y (hl.2.1 y hy) r hr hs)
 have k3:=lstFrame_ok p.parts hl.2.2.1 _ rfl 186 Fr.S r3 hr3 (by omega) (fun y _ r hr hs=>refPlaced_ok y r hr hs)
 have k4:=lstVec_ok p.people hl.2.2.2.1 _ rfl 188 V2.S r4 hr4 (by omega) (fun y _ r hr hs=>refPoint_ok y r hr hs)
 have k5:=lstBool_ok p.opens hl.2.2.2.2 _ rfl 182 boolS r5 hr5 (by omega) (fun y _ r hr hs=>refTruth_ok y r hr)
 have f2:=fitS hA (s:=r1) (t:=r2) (n:=2 ^ 60 - 1) (by decide) (by simp only [ba_size]; omega)
 have e2:A.cat (r1) r2 = r1 ++ r2:=catS hA _ _
 have f3:=fitS hA (s:=(r1 ++ r2)) (t:=r3) (n:=2 ^ 60 - 1) (by decide) (by simp only [ba_size]; omega)
 have e3:A.cat ((r1 ++ r2)) r3 = (r1 ++ r2) ++ r3:=catS hA _ _
 have f4:=fitS hA (s:=((r1 ++ r2) ++ r3)) (t:=r4) (n:=2 ^ 60 - 1) (by decide) (by simp only [ba_size]; omega)
 have e4:A.cat (((r1 ++ r2) ++ r3)) r4 = ((r1 ++ r2) ++ r3) ++ r4:=catS hA _ _
 have f5:=fitS hA (s:=(((r1 ++ r2) ++ r3) ++ r4)) (t:=r5) (n:=2 ^ 60 - 1) (by decide) (by simp only [ba_size]; omega)
 have e5:A.cat ((((r1 ++ r2) ++ r3) ++ r4)) r5 = (((r1 ++ r2) ++ r3) ++ r4) ++ r5:=catS hA _ _
 have g2:AE.SFit (A.slen r1) (A.slen r2):=by first|exact f2|(simp only [catS hA]; exact f2)
 have g3:AE.SFit (A.slen (A.cat r1 r2)) (A.slen r3):=by first|exact f3|(simp only [catS hA]; exact f3)
 have g4:AE.SFit (A.slen (A.cat (A.cat r1 r2) r3)) (A.slen r4):=by first|exact f4|(simp only [catS hA]; exact f4)
 have g5:AE.SFit (A.slen (A.cat (A.cat (A.cat r1 r2) r3) r4)) (A.slen r5):=by first|exact f5|(simp only [catS hA]; exact f5)
 have efin:(A.cat (A.cat (A.cat (A.cat r1 r2) r3) r4) r5) = r:=by simp only [catS hA]; exact hr0.symm
 (refine X.g ?_; cbv)
 refine X.drawX _ _ _ (by kernel_rfl) (X.frzB 0 _ _ (Nat.zero_le _) ?_)
 (repeat' (first|(refine X.g ?_; cbv)|refine X.splitT ?_|refine X.splitF ?_|refine X.sp (fun hc=>?_) (fun hc=>?_)|refine X.needT ?_|refine X.callsA [] k1 ?_|refine X.callsA [] k2 ?_|refine X.callsA [] k3 ?_|refine X.callsA [] k4 ?_|refine X.callsA [] k5 ?_|refine X.need _ _ _ g2 ?_|refine X.need _ _ _ g3 ?_|refine X.need _ _ _ g4 ?_|refine X.need _ _ _ g5 ?_|fail))
 all_goals (refine X.ret _ (X.done rfl ?_); cbv <;> (and_intros <;> first|exact efin|rfl|trivial))
noncomputable def Ky.S (p:Ky):ByteArray:=natS p.tick ++ lsS Q.S p.q
noncomputable def Fl.S (p:Fl):ByteArray:=natS p.tick ++ natS p.kind ++ natS p.n
noncomputable def sumStep (h:Int) (b:UInt8):Int:=AE.std.bin .mul .u64 (AE.std.bin .xor .u64 h (AE.std.conv .u64 b.toNat)) 1099511628211
noncomputable def sumTo (l:List UInt8):Int:=l.foldl sumStep 14695981039346656037
noncomputable def sumI (l:List UInt8):Int:=AE.std.bin .xor .u64 (sumTo l) (AE.std.bin .quo .u64 (sumTo l) 536870912)
def tailL (n i:Nat):List UInt8:=(List.range i).map fun k=>UInt8.ofNat (n / 256 ^ k % 256)
noncomputable def Wk.S (w:Wk):ByteArray:=⟨⟨[71,49]⟩⟩ ++ lsS Ar.S w.arms ++ lsS (fun l=>lsS V2.S l) w.walls ++ lsS Pt.S w.parts ++ lsS Sl.S w.slots ++ lsS Gt.S w.gates
noncomputable def Dy.B (d:Dy):ByteArray:=d.works.S ++ (d.works.walk.S ++ d.start.S) ++ lsS (fun l=>lsS Ky.S l) d.tracks ++ lsS Fl.S d.faults ++ (lsS (fun l=>lsS V2.S l) d.walks ++ natS d.ticks)
noncomputable def Dy.S (d:Dy):ByteArray:=d.B ++ Proofs.YthadehkggddgoaaGreatDoor.S (tailL (sumI d.B.data.toList).toNat 8)
structure Wk.Low (w:Wk):Prop where
 arms:w.arms.length < 2 ^ 40
 links:∀ a ∈ w.arms,a.links.length < 2 ^ 40 ∧ ∀ k ∈ a.links,k.shape.length < 2 ^ 40
 walls:w.walls.length < 2 ^ 40 ∧ ∀ l ∈ w.walls,l.length < 2 ^ 40
 parts:w.parts.length < 2 ^ 40 ∧ ∀ p ∈ w.parts,p.shape.length < 2 ^ 40
 slots:w.slots.length < 2 ^ 40
 gates:w.gates.length < 2 ^ 40
structure Dy.Low (d:Dy):Prop where
 works:d.works.Low
 start:d.start.arms.length < 2 ^ 40 ∧ (∀ y ∈ d.start.arms,y.q.length < 2 ^ 40 ∧ y.v.length < 2 ^ 40) ∧ d.start.parts.length < 2 ^ 40 ∧ d.start.people.length < 2 ^ 40 ∧ d.start.opens.length < 2 ^ 40
 tracks:d.tracks.length < 2 ^ 40 ∧ ∀ l ∈ d.tracks,l.length < 2 ^ 40 ∧ ∀ y ∈ l,y.q.length < 2 ^ 40
 faults:d.faults.length < 2 ^ 40
 walks:d.walks.length < 2 ^ 40 ∧ ∀ l ∈ d.walks,l.length < 2 ^ 40
end Go.Proofs.YthadehkggddgoaaGreatDoor
end
section
set_option linter.unusedVariables false
set_option linter.unusedSimpArgs false
namespace Go.Proofs.YthadehkggddgoaaGreatDoor
open Go Go.Num
end Go.Proofs.YthadehkggddgoaaGreatDoor
end
end
section
section
set_option maxRecDepth 100000
set_option maxHeartbeats 0
set_option linter.unusedVariables false
set_option linter.unusedSimpArgs false
namespace Go.Proofs.YthadehkggddgoaaGreatDoor
open Go Go.Num
def idxB {α : Type} (p:α → Bool) (l:List α):Int:=match l.findIdx? p with|some i=>i|none=>-1
theorem idx_hit {α : Type} {p:α → Bool} {l:List α} {i:Nat} {y:α} (h:∀ x ∈ l.take i,p x = false) (hy:l[i]? = some y) (hp:p y = true):idxB p l = i:=by
 obtain ⟨hi,rfl⟩:=List.getElem?_eq_some_iff.1 hy
 have:l.findIdx? p = some i:=by
  rw [List.findIdx?_eq_some_iff_getElem]
  refine ⟨hi,hp,fun j hj=>?_⟩
  have:=h (l[j]'(by omega)) (List.mem_take_iff_getElem.2 ⟨j,by omega,rfl⟩)
  rw [this]; simp
 rw [idxB,this]
theorem idx_none {α : Type} {p:α → Bool} {l:List α} (h:∀ x ∈ l,p x = false):idxB p l = -1:=by
 have:l.findIdx? p = none:=by rw [List.findIdx?_eq_none_iff]; exact h
 rw [idxB,this]
theorem idx_ge {α : Type} (p:α → Bool) (l:List α):decide (0 ≤ idxB p l) = l.any p:=by
 by_cases h:∀ x ∈ l,p x = false
 ·rw [idx_none h]
  have:l.any p = false:=by rw [List.any_eq_false]; intro x hx; rw [h x hx]; simp
  rw [this]; rfl
 ·have h2:l.any p = true:=by
   rw [List.any_eq_true]
   exact Classical.byContradiction fun hn=>h fun x hx=>by
    cases hp:p x
    ·rfl
    ·exact absurd ⟨x,hx,hp⟩ hn
  rw [h2,idxB]
  cases hq:l.findIdx? p with
  | none=>rw [List.findIdx?_eq_none_iff] at hq; exact absurd hq h
  | some i=>exact decide_eq_true (Int.natCast_nonneg i)
theorem take_all {α : Type} {p:α → Bool} {l:List α} {i:Nat} {y:α} (h:∀ x ∈ l.take i,p x = false) (hy:l[i]? = some y) (hp:p y = false):∀ x ∈ l.take (i + 1),p x = false:=by
 rw [List.take_add_one,hy]
 intro x hx
 rcases List.mem_append.1 hx with hx|hx
 ·exact h x hx
 ·simp at hx; rw [hx]; exact hp
theorem idxVec_ok (l:List V2) (hl:l.length < 2 ^ 40) (es:List (List AE.AV)) (hes:es = lsAv V2.c l) (fn:Nat) (p:V2 → Bool) (each:∀ y ∈ l,∀ b,b = p y → AE.ACallG GG Tryz.prog (fn % 1000000) [] [.a (V2.c y)] [] (.b b)) (r:Int) (hr:r = idxB p l):AE.ACallG GG Tryz.prog 169 [] [.l 6 es,.f fn []] [] (.v (.int .i64 r)):=by
 refine AE.ACallG.of_walk (fn:=Tryz.f169) (c:=bodyOf Tryz.f169) GG_stays tabOK Tryz.func169 rfl rfl mixed fun A hA X=>?_
 (repeat' (first|(refine X.g ?_; cbv)|refine X.splitT ?_|refine X.splitF ?_|refine X.sp (fun hc=>?_) (fun hc=>?_)|refine X.needT ?_))
 refine rangeL0 X hA hes (by omega) (fun i=>∀ x ∈ l.take i,p x = false) (fun z _=>[(8,.v (.int .i64 z))]) (fun x h=>by simp at h) ?_ (fun i z y hz hy he c3 hI B hB=>?_) (fun z c3 hI B=>?_)
 ·(cbv <;> (and_intros <;> first|rfl|trivial))
 ·obtain ⟨b,hb⟩:∃ b,b = p y:=⟨_,rfl⟩
  have k1:=each y (List.mem_of_getElem? hy) b hb
  clear each
  cases hb' : b
  ·have hI' := take_all hI hy (by rw [← hb,hb'])
   (repeat' (first|(refine X.g ?_; cbv)|refine X.splitT ?_|refine X.splitF ?_|refine X.sp (fun hc=>?_) (fun hc=>?_)|refine X.needT ?_|refine X.idx _ _ _ _ _ _ _ _ he hz ?_|refine X.callsGA [] k1 ?_))
   all_goals (refine hB hI' _ ?_; clear hB; (cbv <;> (and_intros <;> first|rfl|trivial)))
  ·have e1:z = r:=by rw [hr,idx_hit hI hy (by rw [← hb,hb']),hz]
   clear hB
   (repeat' (first|(refine X.g ?_; cbv)|refine X.splitT ?_|refine X.splitF ?_|refine X.sp (fun hc=>?_) (fun hc=>?_)|refine X.needT ?_|refine X.idx _ _ _ _ _ _ _ _ he hz ?_|refine X.callsGA [] k1 ?_))
   all_goals (refine X.ret _ (X.done rfl ?_); cbv <;> (and_intros <;> first|exact e1|rfl|trivial))
 ·rw [List.take_length] at hI
  have e1:-1 = r:=by rw [hr,idx_none hI]
  (repeat' (first|(refine X.g ?_; cbv)|refine X.splitT ?_|refine X.splitF ?_|refine X.sp (fun hc=>?_) (fun hc=>?_)|refine X.needT ?_))
  all_goals (refine X.ret _ (X.done rfl ?_); cbv <;> (and_intros <;> first|exact e1|rfl|trivial))
theorem hasVec_ok (l:List V2) (hl:l.length < 2 ^ 40) (es:List (List AE.AV)) (hes:es = lsAv V2.c l) (fn:Nat) (p:V2 → Bool) (each:∀ y ∈ l,∀ b,b = p y → AE.ACallG GG Tryz.prog (fn % 1000000) [] [.a (V2.c y)] [] (.b b)) (r:Bool) (hr:r = l.any p):AE.ACallG GG Tryz.prog 104 [] [.l 6 es,.f fn []] [] (.b r):=by
 refine AE.ACallG.of_walk (fn:=Tryz.f104) (c:=bodyOf Tryz.f104) GG_stays tabOK Tryz.func104 rfl rfl mixed fun A hA X=>?_
 obtain ⟨z,hz⟩:∃ z,z = idxB p l:=⟨_,rfl⟩
 have k1:=idxVec_ok l hl es hes fn p each z hz
 clear each
 have e1:A.cmp .geq z 0 = r:=by rw [AE.c_geq hA,hr,hz,idx_ge]
 (repeat' (first|(refine X.g ?_; cbv)|refine X.splitT ?_|refine X.splitF ?_|refine X.sp (fun hc=>?_) (fun hc=>?_)|refine X.callsGA [] k1 ?_|refine X.needT ?_))
 all_goals (refine X.ret _ (X.done rfl ?_); cbv <;> (and_intros <;> first|exact e1|rfl|trivial))
end Go.Proofs.YthadehkggddgoaaGreatDoor
end
section
set_option linter.unusedVariables false
set_option linter.unusedSectionVars false
set_option linter.unusedSimpArgs false
namespace Go.Proofs.YthadehkggddgoaaGreatDoor
open Go Go.Num
theorem makeAtE {x y X Y:Int} (hx:x = X) (hy:y = Y) (bx:-(2 ^ 50) ≤ X ∧ X ≤ 2 ^ 50) (by_:-(2 ^ 50) ≤ Y ∧ Y ≤ 2 ^ 50) (r:V2) (hr:r = atM X Y):AE.ACall Tryz.prog 139 [] [.v (.int .i64 x),.v (.int .i64 y)] [] (.a r.c):=by
 subst hx; subst hy; exact makeAt_ok _ _ bx by_ r hr
theorem makeOfE {x d X D:Int} (hx:x = X) (hd:d = D) (bx:-(2 ^ 50) ≤ X ∧ X ≤ 2 ^ 50) (bd:1 ≤ D ∧ D ≤ 2 ^ 50) (r:Q) (hr:r = Q.of (mkRat X D.toNat)):AE.ACall Tryz.prog 19 [] [.v (.int .i64 x),.v (.int .i64 d)] [] (.a r.c):=by
 subst hx; subst hd; exact makeOf_ok _ _ bx bd r hr
theorem nextE {n N:Int} (hn:n = N) (l:List Int) (hl:l.length < 2 ^ 40) (bn:N ≤ 2 ^ 40) {a:Int} {l' : List Int} (h:nextM N l = (a,l')) (e e' : List (List AE.AV)) (he:e = lsAv numC l) (he' : e' = lsAv numC l'):AE.ACall Tryz.prog 135 [.box [.l 1 e] 188] [.p 0 0,.v (.int .i64 n)] [.box [.l 1 e'] 188] (.v (.int .i64 a)):=by
 subst hn; exact next_ok l hl n bn e e' he (by rw [he', h]) a (by rw [h])
theorem next_bd {n:Int} {l l' : List Int} {a:Int} (h:nextM n l = (a,l')) (hn:0 < n):0 ≤ a ∧ a < n ∧ l'.length ≤ l.length:=by
 have h1:=nextM_rng n l
 have h2:=nextM_len n l
 rw [h] at h1 h2
 simp only at h1 h2
 exact ⟨h1.1,by omega,h2⟩
section
variable {A:AE.Ari} (hA:A = AE.std)
include hA
theorem zadd {x y X Y:Int} (hx:x = X) (hy:y = Y) (h:-(2 ^ 60) ≤ X + Y ∧ X + Y ≤ 2 ^ 60):A.bin .add .i64 x y = X + Y:=by subst hA; subst hx; subst hy; exact AE.std_add (by omega) (by omega)
theorem zsub {x y X Y:Int} (hx:x = X) (hy:y = Y) (h:-(2 ^ 60) ≤ X - Y ∧ X - Y ≤ 2 ^ 60):A.bin .sub .i64 x y = X - Y:=by subst hA; subst hx; subst hy; exact AE.std_sub (by omega) (by omega)
theorem zmul {x y X Y:Int} (hx:x = X) (hy:y = Y) (h:-(2 ^ 60) ≤ X * Y ∧ X * Y ≤ 2 ^ 60):A.bin .mul .i64 x y = X * Y:=by subst hA; subst hx; subst hy; exact AE.wrap_i64 (by omega) (by omega)
end
end Go.Proofs.YthadehkggddgoaaGreatDoor
end
end
