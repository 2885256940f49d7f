/- Contracts: how the reference writes a day as bytes, second part (written by tools/genrec.py b). Contract: the reference's Record (written by tools/genrec.py c). -/
import Derived.Test.YtjbnffclpebkkaaGreatDoorZRec
section
set_option linter.unusedVariables false
set_option linter.unusedSimpArgs false
namespace Go.Proofs.YtjbnffclpebkkaaGreatDoor
open Go Go.Num
structure Ky where
  tick : Int
  q : List Q
noncomputable def Ky.c (p : Ky) : List AE.AV := [.v (.int .i64 p.tick), .l 3 (lsAv Q.c p.q)]
noncomputable def trackC (t : List Ky) : List AE.AV := [.l 2 (lsAv Ky.c t)]
structure Fl where
  tick : Int
  kind : Int
  n : Int
def Fl.c (p : Fl) : List AE.AV := [.v (.int .i64 p.tick), .v (.int .i64 p.kind), .v (.int .i64 p.n)]
structure Dy where
  works : Wk
  start : Ss
  tracks : List (List Ky)
  faults : List Fl
  walks : List (List V2)
  ticks : Int
noncomputable def Dy.c (d : Dy) : List AE.AV := d.works.c ++ d.start.c ++ [.l 1 (lsAv trackC d.tracks), .l 3 (lsAv Fl.c d.faults), .l 1 (lsAv wallC d.walks), .v (.int .i64 d.ticks)]
theorem natS1 {A : AE.Ari} (hA : A = AE.std) (n : Int) : natS (A.bin .add .i64 n 1) = natS (n + 1) := by
  subst hA
  have : (AE.std.bin .add .i64 n 1) % 2 ^ 64 = (n + 1) % 2 ^ 64 := by
    show IntKind.wrap .i64 (n + 1) % 2 ^ 64 = _
    simp only [IntKind.wrap, IntKind.bits, IntKind.signed]
    simp; omega
  rw [natS, natS, intL, intL, this]
noncomputable def As.S (p : As) : ByteArray := lsS Q.S p.q ++ lsS Q.S p.v ++ boolS p.power ++ natS (p.holds + 1)
set_option maxRecDepth 100000 in
set_option maxHeartbeats 0 in
theorem refArmState_ok (p : As) (hl : p.q.length < 2 ^ 40 ∧ p.v.length < 2 ^ 40) (r : ByteArray) (hr : r = As.S p) (hs : r.size < 2 ^ 60) : AE.ACall Tryz.prog 145 [] [.a p.c] [] (.v (.string r)) := by
  refine AE.ACall.of_walk (fn := Tryz.f145) (c := bodyOf Tryz.f145) tabOK Tryz.func145 rfl rfl mixed fun A hA X => ?_
  obtain ⟨r1, hr1⟩ : ∃ r, r = lsS Q.S p.q := ⟨_, rfl⟩
  obtain ⟨r2, hr2⟩ : ∃ r, r = lsS Q.S p.v := ⟨_, rfl⟩
  obtain ⟨r3, hr3⟩ : ∃ r, r = boolS p.power := ⟨_, rfl⟩
  obtain ⟨r4, hr4⟩ : ∃ r, r = natS (p.holds + 1) := ⟨_, rfl⟩
  have hr0 : r = r1 ++ r2 ++ r3 ++ r4 := by rw [hr, hr1, hr2, hr3, hr4] <;> rfl
  have hz := hs
  rw [hr0] at hz
  simp only [ba_size] at hz
  have k1 := lstRat_ok p.q hl.1 _ rfl 51 Q.S r1 hr1 (by omega) (fun y _ r hr hs => refNumber_ok y r hr hs)
  have k2 := lstRat_ok p.v hl.2 _ rfl 51 Q.S r2 hr2 (by omega) (fun y _ r hr hs => refNumber_ok y r hr hs)
  have k3 := refTruth_ok p.power r3 hr3
  have k4 := refNat_ok (A.bin .add .i64 p.holds 1) r4 (by rw [natS1 hA]; exact hr4)
  have f2 := fitS hA (s := r1) (t := r2) (n := 2 ^ 60 - 1) (by decide) (by simp only [ba_size]; omega)
  have e2 : A.cat (r1) r2 = r1 ++ r2 := catS hA _ _
  have f3 := fitS hA (s := (r1 ++ r2)) (t := r3) (n := 2 ^ 60 - 1) (by decide) (by simp only [ba_size]; omega)
  have e3 : A.cat ((r1 ++ r2)) r3 = (r1 ++ r2) ++ r3 := catS hA _ _
  have f4 := fitS hA (s := ((r1 ++ r2) ++ r3)) (t := r4) (n := 2 ^ 60 - 1) (by decide) (by simp only [ba_size]; omega)
  have e4 : A.cat (((r1 ++ r2) ++ r3)) r4 = ((r1 ++ r2) ++ r3) ++ r4 := catS hA _ _
  have g2 : AE.SFit (A.slen r1) (A.slen r2) := by first | exact f2 | (simp only [catS hA]; exact f2)
  have g3 : AE.SFit (A.slen (A.cat r1 r2)) (A.slen r3) := by first | exact f3 | (simp only [catS hA]; exact f3)
  have g4 : AE.SFit (A.slen (A.cat (A.cat r1 r2) r3)) (A.slen r4) := by first | exact f4 | (simp only [catS hA]; exact f4)
  have efin : (A.cat (A.cat (A.cat r1 r2) r3) r4) = r := by simp only [catS hA]; exact hr0.symm
  (refine X.go 500 _ _ ?_; cbv)
  refine X.drawX _ _ _ (by kernel_rfl) (X.frzB 0 _ _ (Nat.zero_le _) ?_)
  (repeat' (first | (refine X.go 500 _ _ ?_; cbv) | (first | refine X.splitT ?_ | refine X.splitF ?_ | refine X.split _ _ _ _ _ (fun hc => ?_) (fun hc => ?_)) | refine X.need _ _ _ trivial ?_ | refine X.callsA [] k1 ?_ | refine X.callsA [] k2 ?_ | refine X.callsA [] k3 ?_ | refine X.callsA [] k4 ?_ | refine X.need _ _ _ g2 ?_ | refine X.need _ _ _ g3 ?_ | refine X.need _ _ _ g4 ?_ | fail))
  all_goals (refine X.ret _ (X.done rfl ?_); cbv <;> ((repeat' apply And.intro) <;> first | exact efin | rfl | trivial))
set_option maxRecDepth 100000 in
set_option maxHeartbeats 0 in
theorem lstArmState_ok (l : List As) (hl : l.length < 2 ^ 40) (es : List (List AE.AV)) (hes : es = lsAv As.c l) (fn : Nat) (f : As → ByteArray) (r : ByteArray) (hr : r = lsS f l) (hs : r.size < 2 ^ 60) (each : ∀ y ∈ l, ∀ r, r = f y → r.size < 2 ^ 60 → AE.ACall Tryz.prog (fn % 1000000) [] [.a y.c] [] (.v (.string r))) : AE.ACall Tryz.prog 146 [] [.l 4 es, .f fn []] [] (.v (.string r)) := by
  refine AE.ACall.of_walk (fn := Tryz.f146) (c := bodyOf Tryz.f146) tabOK Tryz.func146 rfl rfl mixed fun A hA X => ?_
  obtain ⟨r0, hr0⟩ : ∃ r, r = natS l.length := ⟨_, rfl⟩
  have k0 := refNat_ok (A.llen es) r0 (by rw [llen hA, hes, lsAv_len]; exact hr0)
  obtain ⟨g, hg⟩ : ∃ g : Nat → ByteArray, ∀ i, g i = upS f l i := ⟨_, fun _ => rfl⟩
  have h00 : r0 = g 0 := by rw [hr0, hg]; rfl
  rw [hr] at hs
  (repeat' (first | (refine X.go 500 _ _ ?_; cbv) | (first | refine X.splitT ?_ | refine X.splitF ?_ | refine X.split _ _ _ _ _ (fun hc => ?_) (fun hc => ?_)) | refine X.need _ _ _ trivial ?_ | refine X.callsA [] k0 ?_ | fail))
  refine rangeL0 X hA hes (by omega) (fun _ => True) (fun z i => [(13, .v (.int .i64 z)), (5, .v (.string (g i)))]) trivial ?_ (fun i z y hz hy he c3 hI B hB => ?_) (fun z c3 hI B => ?_)
  · (cbv <;> ((repeat' apply And.intro) <;> first | exact h00 | rfl | trivial))
  · obtain ⟨ry, hry⟩ : ∃ r, r = f y := ⟨_, rfl⟩
    have hle := elS_le (f := f) hy
    have hle2 := upS_le f l (i + 1)
    rw [upS_succ hy, ← hg, ← hry] at hle2
    rw [← hry] at hle
    have k1 := each y (List.mem_of_getElem? hy) ry hry (by omega)
    have hf := fitS hA (s := g i) (t := ry) (n := 2 ^ 60 - 1) (by decide) (by omega)
    have e1 : A.cat (g i) ry = g (i + 1) := by rw [catS hA, hg (i + 1), upS_succ hy, ← hg, ← hry]
    clear each k0
    (repeat' (first | (refine X.go 500 _ _ ?_; cbv) | (first | refine X.splitT ?_ | refine X.splitF ?_ | refine X.split _ _ _ _ _ (fun hc => ?_) (fun hc => ?_)) | refine X.need _ _ _ trivial ?_ | refine X.idx _ _ _ _ _ _ _ _ he hz ?_ | refine X.callsA [] k1 ?_ | refine X.need _ _ _ hf ?_ | fail))
    all_goals (refine hB trivial _ ?_; clear hB; (cbv <;> ((repeat' apply And.intro) <;> first | exact e1 | rfl | trivial)))
  · have e1 : g l.length = r := by rw [hg, hr]; rfl
    clear each
    (repeat' (first | (refine X.go 500 _ _ ?_; cbv) | (first | refine X.splitT ?_ | refine X.splitF ?_ | refine X.split _ _ _ _ _ (fun hc => ?_) (fun hc => ?_)) | refine X.need _ _ _ trivial ?_ | fail))
    all_goals (refine X.ret _ (X.done rfl ?_); cbv <;> ((repeat' apply And.intro) <;> first | exact e1 | rfl | trivial))
noncomputable def Ss.S (p : Ss) : ByteArray := natS p.tick ++ lsS As.S p.arms ++ lsS Fr.S p.parts ++ lsS V2.S p.people ++ lsS boolS p.opens
set_option maxRecDepth 100000 in
set_option maxHeartbeats 0 in
theorem refBytes_ok (p : Ss) (hl : p.arms.length < 2 ^ 40 ∧ (∀ y ∈ p.arms, y.q.length < 2 ^ 40 ∧ y.v.length < 2 ^ 40) ∧ p.parts.length < 2 ^ 40 ∧ p.people.length < 2 ^ 40 ∧ p.opens.length < 2 ^ 40) (r : ByteArray) (hr : r = Ss.S p) (hs : r.size < 2 ^ 60) : AE.ACall Tryz.prog 66 [] [.a p.c] [] (.v (.string r)) := by
  refine AE.ACall.of_walk (fn := Tryz.f66) (c := bodyOf Tryz.f66) tabOK Tryz.func66 rfl rfl mixed fun A hA X => ?_
  obtain ⟨r1, hr1⟩ : ∃ r, r = natS p.tick := ⟨_, rfl⟩
  obtain ⟨r2, hr2⟩ : ∃ r, r = lsS As.S p.arms := ⟨_, rfl⟩
  obtain ⟨r3, hr3⟩ : ∃ r, r = lsS Fr.S p.parts := ⟨_, rfl⟩
  obtain ⟨r4, hr4⟩ : ∃ r, r = lsS V2.S p.people := ⟨_, rfl⟩
  obtain ⟨r5, hr5⟩ : ∃ r, r = lsS boolS p.opens := ⟨_, rfl⟩
  have hr0 : r = r1 ++ r2 ++ r3 ++ r4 ++ r5 := by rw [hr, hr1, hr2, hr3, hr4, hr5] <;> rfl
  have hz := hs
  rw [hr0] at hz
  simp only [ba_size] at hz
  have k1 := refNat_ok p.tick r1 hr1
  have k2 := lstArmState_ok p.arms hl.1 _ rfl 145 As.S r2 hr2 (by omega) (fun y hy r hr hs => refArmState_ok y (hl.2.1 y hy) r hr hs)
  have k3 := lstFrame_ok p.parts hl.2.2.1 _ rfl 56 Fr.S r3 hr3 (by omega) (fun y _ r hr hs => refPlaced_ok y r hr hs)
  have k4 := lstVec_ok p.people hl.2.2.2.1 _ rfl 65 V2.S r4 hr4 (by omega) (fun y _ r hr hs => refPoint_ok y r hr hs)
  have k5 := lstBool_ok p.opens hl.2.2.2.2 _ rfl 143 boolS r5 hr5 (by omega) (fun y _ r hr hs => refTruth_ok y r hr)
  have f2 := fitS hA (s := r1) (t := r2) (n := 2 ^ 60 - 1) (by decide) (by simp only [ba_size]; omega)
  have e2 : A.cat (r1) r2 = r1 ++ r2 := catS hA _ _
  have f3 := fitS hA (s := (r1 ++ r2)) (t := r3) (n := 2 ^ 60 - 1) (by decide) (by simp only [ba_size]; omega)
  have e3 : A.cat ((r1 ++ r2)) r3 = (r1 ++ r2) ++ r3 := catS hA _ _
  have f4 := fitS hA (s := ((r1 ++ r2) ++ r3)) (t := r4) (n := 2 ^ 60 - 1) (by decide) (by simp only [ba_size]; omega)
  have e4 : A.cat (((r1 ++ r2) ++ r3)) r4 = ((r1 ++ r2) ++ r3) ++ r4 := catS hA _ _
  have f5 := fitS hA (s := (((r1 ++ r2) ++ r3) ++ r4)) (t := r5) (n := 2 ^ 60 - 1) (by decide) (by simp only [ba_size]; omega)
  have e5 : A.cat ((((r1 ++ r2) ++ r3) ++ r4)) r5 = (((r1 ++ r2) ++ r3) ++ r4) ++ r5 := catS hA _ _
  have g2 : AE.SFit (A.slen r1) (A.slen r2) := by first | exact f2 | (simp only [catS hA]; exact f2)
  have g3 : AE.SFit (A.slen (A.cat r1 r2)) (A.slen r3) := by first | exact f3 | (simp only [catS hA]; exact f3)
  have g4 : AE.SFit (A.slen (A.cat (A.cat r1 r2) r3)) (A.slen r4) := by first | exact f4 | (simp only [catS hA]; exact f4)
  have g5 : AE.SFit (A.slen (A.cat (A.cat (A.cat r1 r2) r3) r4)) (A.slen r5) := by first | exact f5 | (simp only [catS hA]; exact f5)
  have efin : (A.cat (A.cat (A.cat (A.cat r1 r2) r3) r4) r5) = r := by simp only [catS hA]; exact hr0.symm
  (refine X.go 500 _ _ ?_; cbv)
  refine X.drawX _ _ _ (by kernel_rfl) (X.frzB 0 _ _ (Nat.zero_le _) ?_)
  (repeat' (first | (refine X.go 500 _ _ ?_; cbv) | (first | refine X.splitT ?_ | refine X.splitF ?_ | refine X.split _ _ _ _ _ (fun hc => ?_) (fun hc => ?_)) | refine X.need _ _ _ trivial ?_ | refine X.callsA [] k1 ?_ | refine X.callsA [] k2 ?_ | refine X.callsA [] k3 ?_ | refine X.callsA [] k4 ?_ | refine X.callsA [] k5 ?_ | refine X.need _ _ _ g2 ?_ | refine X.need _ _ _ g3 ?_ | refine X.need _ _ _ g4 ?_ | refine X.need _ _ _ g5 ?_ | fail))
  all_goals (refine X.ret _ (X.done rfl ?_); cbv <;> ((repeat' apply And.intro) <;> first | exact efin | rfl | trivial))
noncomputable def Ky.S (p : Ky) : ByteArray := natS p.tick ++ lsS Q.S p.q
set_option maxRecDepth 100000 in
set_option maxHeartbeats 0 in
theorem refKey_ok (p : Ky) (hl : p.q.length < 2 ^ 40) (r : ByteArray) (hr : r = Ky.S p) (hs : r.size < 2 ^ 60) : AE.ACall Tryz.prog 70 [] [.a p.c] [] (.v (.string r)) := by
  refine AE.ACall.of_walk (fn := Tryz.f70) (c := bodyOf Tryz.f70) tabOK Tryz.func70 rfl rfl mixed fun A hA X => ?_
  obtain ⟨r1, hr1⟩ : ∃ r, r = natS p.tick := ⟨_, rfl⟩
  obtain ⟨r2, hr2⟩ : ∃ r, r = lsS Q.S p.q := ⟨_, rfl⟩
  have hr0 : r = r1 ++ r2 := by rw [hr, hr1, hr2] <;> rfl
  have hz := hs
  rw [hr0] at hz
  simp only [ba_size] at hz
  have k1 := refNat_ok p.tick r1 hr1
  have k2 := lstRat_ok p.q hl _ rfl 51 Q.S r2 hr2 (by omega) (fun y _ r hr hs => refNumber_ok y r hr hs)
  have f2 := fitS hA (s := r1) (t := r2) (n := 2 ^ 60 - 1) (by decide) (by simp only [ba_size]; omega)
  have e2 : A.cat (r1) r2 = r1 ++ r2 := catS hA _ _
  have g2 : AE.SFit (A.slen r1) (A.slen r2) := by first | exact f2 | (simp only [catS hA]; exact f2)
  have efin : (A.cat r1 r2) = r := by simp only [catS hA]; exact hr0.symm
  (refine X.go 500 _ _ ?_; cbv)
  refine X.drawX _ _ _ (by kernel_rfl) (X.frzB 0 _ _ (Nat.zero_le _) ?_)
  (repeat' (first | (refine X.go 500 _ _ ?_; cbv) | (first | refine X.splitT ?_ | refine X.splitF ?_ | refine X.split _ _ _ _ _ (fun hc => ?_) (fun hc => ?_)) | refine X.need _ _ _ trivial ?_ | refine X.callsA [] k1 ?_ | refine X.callsA [] k2 ?_ | refine X.need _ _ _ g2 ?_ | fail))
  all_goals (refine X.ret _ (X.done rfl ?_); cbv <;> ((repeat' apply And.intro) <;> first | exact efin | rfl | trivial))
set_option maxRecDepth 100000 in
set_option maxHeartbeats 0 in
theorem lstKey_ok (l : List Ky) (hl : l.length < 2 ^ 40) (es : List (List AE.AV)) (hes : es = lsAv Ky.c l) (fn : Nat) (f : Ky → ByteArray) (r : ByteArray) (hr : r = lsS f l) (hs : r.size < 2 ^ 60) (each : ∀ y ∈ l, ∀ r, r = f y → r.size < 2 ^ 60 → AE.ACall Tryz.prog (fn % 1000000) [] [.a y.c] [] (.v (.string r))) : AE.ACall Tryz.prog 69 [] [.l 2 es, .f fn []] [] (.v (.string r)) := by
  refine AE.ACall.of_walk (fn := Tryz.f69) (c := bodyOf Tryz.f69) tabOK Tryz.func69 rfl rfl mixed fun A hA X => ?_
  obtain ⟨r0, hr0⟩ : ∃ r, r = natS l.length := ⟨_, rfl⟩
  have k0 := refNat_ok (A.llen es) r0 (by rw [llen hA, hes, lsAv_len]; exact hr0)
  obtain ⟨g, hg⟩ : ∃ g : Nat → ByteArray, ∀ i, g i = upS f l i := ⟨_, fun _ => rfl⟩
  have h00 : r0 = g 0 := by rw [hr0, hg]; rfl
  rw [hr] at hs
  (repeat' (first | (refine X.go 500 _ _ ?_; cbv) | (first | refine X.splitT ?_ | refine X.splitF ?_ | refine X.split _ _ _ _ _ (fun hc => ?_) (fun hc => ?_)) | refine X.need _ _ _ trivial ?_ | refine X.callsA [] k0 ?_ | fail))
  refine rangeL0 X hA hes (by omega) (fun _ => True) (fun z i => [(13, .v (.int .i64 z)), (5, .v (.string (g i)))]) trivial ?_ (fun i z y hz hy he c3 hI B hB => ?_) (fun z c3 hI B => ?_)
  · (cbv <;> ((repeat' apply And.intro) <;> first | exact h00 | rfl | trivial))
  · obtain ⟨ry, hry⟩ : ∃ r, r = f y := ⟨_, rfl⟩
    have hle := elS_le (f := f) hy
    have hle2 := upS_le f l (i + 1)
    rw [upS_succ hy, ← hg, ← hry] at hle2
    rw [← hry] at hle
    have k1 := each y (List.mem_of_getElem? hy) ry hry (by omega)
    have hf := fitS hA (s := g i) (t := ry) (n := 2 ^ 60 - 1) (by decide) (by omega)
    have e1 : A.cat (g i) ry = g (i + 1) := by rw [catS hA, hg (i + 1), upS_succ hy, ← hg, ← hry]
    clear each k0
    (repeat' (first | (refine X.go 500 _ _ ?_; cbv) | (first | refine X.splitT ?_ | refine X.splitF ?_ | refine X.split _ _ _ _ _ (fun hc => ?_) (fun hc => ?_)) | refine X.need _ _ _ trivial ?_ | refine X.idx _ _ _ _ _ _ _ _ he hz ?_ | refine X.callsA [] k1 ?_ | refine X.need _ _ _ hf ?_ | fail))
    all_goals (refine hB trivial _ ?_; clear hB; (cbv <;> ((repeat' apply And.intro) <;> first | exact e1 | rfl | trivial)))
  · have e1 : g l.length = r := by rw [hg, hr]; rfl
    clear each
    (repeat' (first | (refine X.go 500 _ _ ?_; cbv) | (first | refine X.splitT ?_ | refine X.splitF ?_ | refine X.split _ _ _ _ _ (fun hc => ?_) (fun hc => ?_)) | refine X.need _ _ _ trivial ?_ | fail))
    all_goals (refine X.ret _ (X.done rfl ?_); cbv <;> ((repeat' apply And.intro) <;> first | exact e1 | rfl | trivial))
theorem refTrack_ok (l : List Ky) (hl : l.length < 2 ^ 40 ∧ ∀ y ∈ l, y.q.length < 2 ^ 40) (r : ByteArray) (hr : r = lsS Ky.S l) (hs : r.size < 2 ^ 60) : AE.ACall Tryz.prog 68 [] [.l 2 (lsAv Ky.c l)] [] (.v (.string r)) := by
  refine AE.ACall.of_walk (fn := Tryz.f68) (c := bodyOf Tryz.f68) tabOK Tryz.func68 rfl rfl mixed fun A hA X => ?_
  have k1 := lstKey_ok l hl.1 _ rfl 70 Ky.S r hr hs (fun y hy r hr hs => refKey_ok y (hl.2 y hy) r hr hs)
  (repeat' (first | (refine X.go 500 _ _ ?_; cbv) | (first | refine X.splitT ?_ | refine X.splitF ?_ | refine X.split _ _ _ _ _ (fun hc => ?_) (fun hc => ?_)) | refine X.callsA [] k1 ?_ | refine X.need _ _ _ trivial ?_ | fail))
  all_goals (refine X.ret _ (X.done rfl ?_); cbv <;> ((repeat' apply And.intro) <;> first | rfl | trivial))
set_option maxRecDepth 100000 in
set_option maxHeartbeats 0 in
theorem lstTrack_ok (l : List (List Ky)) (hl : l.length < 2 ^ 40) (es : List (List AE.AV)) (hes : es = lsAv trackC l) (fn : Nat) (f : (List Ky) → ByteArray) (r : ByteArray) (hr : r = lsS f l) (hs : r.size < 2 ^ 60) (each : ∀ y ∈ l, ∀ r, r = f y → r.size < 2 ^ 60 → AE.ACall Tryz.prog (fn % 1000000) [] [.l 2 (lsAv Ky.c y)] [] (.v (.string r))) : AE.ACall Tryz.prog 67 [] [.l 1 es, .f fn []] [] (.v (.string r)) := by
  refine AE.ACall.of_walk (fn := Tryz.f67) (c := bodyOf Tryz.f67) tabOK Tryz.func67 rfl rfl mixed fun A hA X => ?_
  obtain ⟨r0, hr0⟩ : ∃ r, r = natS l.length := ⟨_, rfl⟩
  have k0 := refNat_ok (A.llen es) r0 (by rw [llen hA, hes, lsAv_len]; exact hr0)
  obtain ⟨g, hg⟩ : ∃ g : Nat → ByteArray, ∀ i, g i = upS f l i := ⟨_, fun _ => rfl⟩
  have h00 : r0 = g 0 := by rw [hr0, hg]; rfl
  rw [hr] at hs
  (repeat' (first | (refine X.go 500 _ _ ?_; cbv) | (first | refine X.splitT ?_ | refine X.splitF ?_ | refine X.split _ _ _ _ _ (fun hc => ?_) (fun hc => ?_)) | refine X.need _ _ _ trivial ?_ | refine X.callsA [] k0 ?_ | fail))
  refine rangeL0 X hA hes (by omega) (fun _ => True) (fun z i => [(13, .v (.int .i64 z)), (5, .v (.string (g i)))]) trivial ?_ (fun i z y hz hy he c3 hI B hB => ?_) (fun z c3 hI B => ?_)
  · (cbv <;> ((repeat' apply And.intro) <;> first | exact h00 | rfl | trivial))
  · obtain ⟨ry, hry⟩ : ∃ r, r = f y := ⟨_, rfl⟩
    have hle := elS_le (f := f) hy
    have hle2 := upS_le f l (i + 1)
    rw [upS_succ hy, ← hg, ← hry] at hle2
    rw [← hry] at hle
    have k1 := each y (List.mem_of_getElem? hy) ry hry (by omega)
    have hf := fitS hA (s := g i) (t := ry) (n := 2 ^ 60 - 1) (by decide) (by omega)
    have e1 : A.cat (g i) ry = g (i + 1) := by rw [catS hA, hg (i + 1), upS_succ hy, ← hg, ← hry]
    clear each k0
    (repeat' (first | (refine X.go 500 _ _ ?_; cbv) | (first | refine X.splitT ?_ | refine X.splitF ?_ | refine X.split _ _ _ _ _ (fun hc => ?_) (fun hc => ?_)) | refine X.need _ _ _ trivial ?_ | refine X.idx _ _ _ _ _ _ _ _ he hz ?_ | refine X.callsA [] k1 ?_ | refine X.need _ _ _ hf ?_ | fail))
    all_goals (refine hB trivial _ ?_; clear hB; (cbv <;> ((repeat' apply And.intro) <;> first | exact e1 | rfl | trivial)))
  · have e1 : g l.length = r := by rw [hg, hr]; rfl
    clear each
    (repeat' (first | (refine X.go 500 _ _ ?_; cbv) | (first | refine X.splitT ?_ | refine X.splitF ?_ | refine X.split _ _ _ _ _ (fun hc => ?_) (fun hc => ?_)) | refine X.need _ _ _ trivial ?_ | fail))
    all_goals (refine X.ret _ (X.done rfl ?_); cbv <;> ((repeat' apply And.intro) <;> first | exact e1 | rfl | trivial))
noncomputable def Fl.S (p : Fl) : ByteArray := natS p.tick ++ natS p.kind ++ natS p.n
set_option maxRecDepth 100000 in
set_option maxHeartbeats 0 in
theorem refFault_ok (p : Fl) (r : ByteArray) (hr : r = Fl.S p) (hs : r.size < 2 ^ 60) : AE.ACall Tryz.prog 74 [] [.a p.c] [] (.v (.string r)) := by
  refine AE.ACall.of_walk (fn := Tryz.f74) (c := bodyOf Tryz.f74) tabOK Tryz.func74 rfl rfl mixed fun A hA X => ?_
  obtain ⟨r1, hr1⟩ : ∃ r, r = natS p.tick := ⟨_, rfl⟩
  obtain ⟨r2, hr2⟩ : ∃ r, r = natS p.kind := ⟨_, rfl⟩
  obtain ⟨r3, hr3⟩ : ∃ r, r = natS p.n := ⟨_, rfl⟩
  have hr0 : r = r1 ++ r2 ++ r3 := by rw [hr, hr1, hr2, hr3] <;> rfl
  have hz := hs
  rw [hr0] at hz
  simp only [ba_size] at hz
  have k1 := refNat_ok p.tick r1 hr1
  have k2 := refNat_ok p.kind r2 hr2
  have k3 := refNat_ok p.n r3 hr3
  have f2 := fitS hA (s := r1) (t := r2) (n := 2 ^ 60 - 1) (by decide) (by simp only [ba_size]; omega)
  have e2 : A.cat (r1) r2 = r1 ++ r2 := catS hA _ _
  have f3 := fitS hA (s := (r1 ++ r2)) (t := r3) (n := 2 ^ 60 - 1) (by decide) (by simp only [ba_size]; omega)
  have e3 : A.cat ((r1 ++ r2)) r3 = (r1 ++ r2) ++ r3 := catS hA _ _
  have g2 : AE.SFit (A.slen r1) (A.slen r2) := by first | exact f2 | (simp only [catS hA]; exact f2)
  have g3 : AE.SFit (A.slen (A.cat r1 r2)) (A.slen r3) := by first | exact f3 | (simp only [catS hA]; exact f3)
  have efin : (A.cat (A.cat r1 r2) r3) = r := by simp only [catS hA]; exact hr0.symm
  (refine X.go 500 _ _ ?_; cbv)
  refine X.drawX _ _ _ (by kernel_rfl) (X.frzB 0 _ _ (Nat.zero_le _) ?_)
  (repeat' (first | (refine X.go 500 _ _ ?_; cbv) | (first | refine X.splitT ?_ | refine X.splitF ?_ | refine X.split _ _ _ _ _ (fun hc => ?_) (fun hc => ?_)) | refine X.need _ _ _ trivial ?_ | refine X.callsA [] k1 ?_ | refine X.callsA [] k2 ?_ | refine X.callsA [] k3 ?_ | refine X.need _ _ _ g2 ?_ | refine X.need _ _ _ g3 ?_ | fail))
  all_goals (refine X.ret _ (X.done rfl ?_); cbv <;> ((repeat' apply And.intro) <;> first | exact efin | rfl | trivial))
set_option maxRecDepth 100000 in
set_option maxHeartbeats 0 in
theorem lstFault_ok (l : List Fl) (hl : l.length < 2 ^ 40) (es : List (List AE.AV)) (hes : es = lsAv Fl.c l) (fn : Nat) (f : Fl → ByteArray) (r : ByteArray) (hr : r = lsS f l) (hs : r.size < 2 ^ 60) (each : ∀ y ∈ l, ∀ r, r = f y → r.size < 2 ^ 60 → AE.ACall Tryz.prog (fn % 1000000) [] [.a y.c] [] (.v (.string r))) : AE.ACall Tryz.prog 73 [] [.l 3 es, .f fn []] [] (.v (.string r)) := by
  refine AE.ACall.of_walk (fn := Tryz.f73) (c := bodyOf Tryz.f73) tabOK Tryz.func73 rfl rfl mixed fun A hA X => ?_
  obtain ⟨r0, hr0⟩ : ∃ r, r = natS l.length := ⟨_, rfl⟩
  have k0 := refNat_ok (A.llen es) r0 (by rw [llen hA, hes, lsAv_len]; exact hr0)
  obtain ⟨g, hg⟩ : ∃ g : Nat → ByteArray, ∀ i, g i = upS f l i := ⟨_, fun _ => rfl⟩
  have h00 : r0 = g 0 := by rw [hr0, hg]; rfl
  rw [hr] at hs
  (repeat' (first | (refine X.go 500 _ _ ?_; cbv) | (first | refine X.splitT ?_ | refine X.splitF ?_ | refine X.split _ _ _ _ _ (fun hc => ?_) (fun hc => ?_)) | refine X.need _ _ _ trivial ?_ | refine X.callsA [] k0 ?_ | fail))
  refine rangeL0 X hA hes (by omega) (fun _ => True) (fun z i => [(13, .v (.int .i64 z)), (5, .v (.string (g i)))]) trivial ?_ (fun i z y hz hy he c3 hI B hB => ?_) (fun z c3 hI B => ?_)
  · (cbv <;> ((repeat' apply And.intro) <;> first | exact h00 | rfl | trivial))
  · obtain ⟨ry, hry⟩ : ∃ r, r = f y := ⟨_, rfl⟩
    have hle := elS_le (f := f) hy
    have hle2 := upS_le f l (i + 1)
    rw [upS_succ hy, ← hg, ← hry] at hle2
    rw [← hry] at hle
    have k1 := each y (List.mem_of_getElem? hy) ry hry (by omega)
    have hf := fitS hA (s := g i) (t := ry) (n := 2 ^ 60 - 1) (by decide) (by omega)
    have e1 : A.cat (g i) ry = g (i + 1) := by rw [catS hA, hg (i + 1), upS_succ hy, ← hg, ← hry]
    clear each k0
    (repeat' (first | (refine X.go 500 _ _ ?_; cbv) | (first | refine X.splitT ?_ | refine X.splitF ?_ | refine X.split _ _ _ _ _ (fun hc => ?_) (fun hc => ?_)) | refine X.need _ _ _ trivial ?_ | refine X.idx _ _ _ _ _ _ _ _ he hz ?_ | refine X.callsA [] k1 ?_ | refine X.need _ _ _ hf ?_ | fail))
    all_goals (refine hB trivial _ ?_; clear hB; (cbv <;> ((repeat' apply And.intro) <;> first | exact e1 | rfl | trivial)))
  · have e1 : g l.length = r := by rw [hg, hr]; rfl
    clear each
    (repeat' (first | (refine X.go 500 _ _ ?_; cbv) | (first | refine X.splitT ?_ | refine X.splitF ?_ | refine X.split _ _ _ _ _ (fun hc => ?_) (fun hc => ?_)) | refine X.need _ _ _ trivial ?_ | fail))
    all_goals (refine X.ret _ (X.done rfl ?_); cbv <;> ((repeat' apply And.intro) <;> first | exact e1 | rfl | trivial))
noncomputable def sumStep (h : Int) (b : UInt8) : Int := AE.std.bin .mul .u64 (AE.std.bin .xor .u64 h (AE.std.conv .u64 b.toNat)) 1099511628211
noncomputable def sumTo (l : List UInt8) : Int := l.foldl sumStep 14695981039346656037
theorem sumTo_range (l : List UInt8) : 0 ≤ sumTo l ∧ sumTo l < 18446744073709551616 := by
  rcases List.eq_nil_or_concat l with h | ⟨m, x, h⟩
  · rw [h]; exact ⟨by decide, by decide⟩
  · rw [h, sumTo, List.concat_eq_append, List.foldl_append]
    simp only [List.foldl_cons, List.foldl_nil, sumStep]
    show 0 ≤ IntKind.wrap .u64 _ ∧ IntKind.wrap .u64 _ < _
    rw [AE.wrap_u64]
    omega
noncomputable def sumI (l : List UInt8) : Int := AE.std.bin .xor .u64 (sumTo l) (AE.std.bin .quo .u64 (sumTo l) 536870912)
theorem sumI_range (l : List UInt8) : 0 ≤ sumI l ∧ sumI l < 18446744073709551616 := by
  show 0 ≤ IntKind.wrap .u64 _ ∧ IntKind.wrap .u64 _ < _
  rw [AE.wrap_u64]
  omega
set_option maxRecDepth 100000 in
set_option maxHeartbeats 0 in
theorem refSum_ok (s : ByteArray) (hs : s.size < 2 ^ 60) (r : Int) (hr : r = sumI s.data.toList) : AE.ACall Tryz.prog 75 [] [.v (.string s)] [] (.v (.int .u64 r)) := by
  refine AE.ACall.of_walk (fn := Tryz.f75) (c := bodyOf Tryz.f75) tabOK Tryz.func75 rfl rfl mixed fun A hA X => ?_
  obtain ⟨g, hg⟩ : ∃ g : Nat → Int, ∀ i, g i = sumTo (s.data.toList.take i) := ⟨_, fun _ => rfl⟩
  have h00 : 14695981039346656037 = g 0 := by rw [hg]; rfl
  (repeat' (first | (refine X.go 500 _ _ ?_; cbv) | (first | refine X.splitT ?_ | refine X.splitF ?_ | refine X.split _ _ _ _ _ (fun hc => ?_) (fun hc => ?_)) | refine X.need _ _ _ trivial ?_ | fail))
  refine ranges0 X 0 s.size (fun _ => True) (fun z i => [(7, .v (.int .i64 z)), (3, .v (.int .u64 (g i)))]) trivial ?_ (fun i z hz hi hI B hB => ?_) (fun z hz hI B => ?_)
  · (cbv <;> ((repeat' apply And.intro) <;> first | exact h00 | rfl | trivial))
  · rw [Nat.zero_add] at hz
    have c1 : A.cmp .lss z (A.slen s) = true := ltT hA hz (slen hA s) hi
    have hi' : i < s.data.toList.length := by rw [size_data]; exact hi
    have hgt : s.data.toList[i]? = some s.data.toList[i] := List.getElem?_eq_getElem hi'
    obtain ⟨b, hb⟩ : ∃ b, b = s.data.toList[i] := ⟨_, rfl⟩
    rw [← hb] at hgt
    have hbt : A.sidx s z = b.toNat := by subst hA; rw [hz]; exact bAt_get hgt
    have hin : AE.InR z (A.slen s) := ⟨by rw [hz]; exact Int.natCast_nonneg _, by rw [slen hA, hz]; exact Int.ofNat_lt.2 hi⟩
    have e1 : A.bin .mul .u64 (A.bin .xor .u64 (g i) (A.conv .u64 (A.sidx s z))) 1099511628211 = g (i + 1) := by
      rw [hbt, hg (i + 1), take_snoc hgt, sumTo, List.foldl_append, hg]; subst hA; rfl
    have hB' := hB (A.bin .add .i64 z 1) (by rw [Nat.zero_add]; exact addI hA hz (y := 1) (b := 1) rfl (by omega)) trivial
    clear hB
    (repeat' (first | (refine X.go 500 _ _ ?_; cbv) | (first | refine X.splitT ?_ | refine X.splitF ?_ | refine X.split _ _ _ _ _ (fun hc => ?_) (fun hc => ?_)) | refine X.need _ _ _ trivial ?_ | refine X.need _ _ _ hin ?_ | fail))
    all_goals (refine hB' _ ?_; clear hB'; (cbv <;> ((repeat' apply And.intro) <;> first | exact e1 | rfl | trivial)))
  · rw [Nat.zero_add] at hz
    have c1 : A.cmp .lss z (A.slen s) = false := ltF hA hz (slen hA s) (by omega)
    have e1 : A.bin .xor .u64 (g s.size) (A.bin .quo .u64 (g s.size) 536870912) = r := by
      rw [hr, hg, List.take_of_length_le (by rw [size_data]; omega)]; subst hA; rfl
    (repeat' (first | (refine X.go 500 _ _ ?_; cbv) | (first | refine X.splitT ?_ | refine X.splitF ?_ | refine X.split _ _ _ _ _ (fun hc => ?_) (fun hc => ?_)) | refine X.need _ _ _ trivial ?_ | fail))
    all_goals (refine X.ret _ (X.done rfl ?_); cbv <;> ((repeat' apply And.intro) <;> first | exact e1 | rfl | trivial))
def tailL (n i : Nat) : List UInt8 := (List.range i).map fun k => UInt8.ofNat (n / 256 ^ k % 256)
noncomputable def Wk.S (w : Wk) : ByteArray := ⟨⟨[71, 49]⟩⟩ ++ lsS Ar.S w.arms ++ lsS (fun l => lsS V2.S l) w.walls ++ lsS Pt.S w.parts ++ lsS Sl.S w.slots ++ lsS Gt.S w.gates
noncomputable def Dy.B (d : Dy) : ByteArray := d.works.S ++ (d.works.walk.S ++ d.start.S) ++ lsS (fun l => lsS Ky.S l) d.tracks ++ lsS Fl.S d.faults ++ (lsS (fun l => lsS V2.S l) d.walks ++ natS d.ticks)
noncomputable def Dy.S (d : Dy) : ByteArray := d.B ++ Proofs.YtjbnffclpebkkaaGreatDoor.S (tailL (sumI d.B.data.toList).toNat 8)
structure Wk.Low (w : Wk) : Prop where
  arms : w.arms.length < 2 ^ 40
  links : ∀ a ∈ w.arms, a.links.length < 2 ^ 40 ∧ ∀ k ∈ a.links, k.shape.length < 2 ^ 40
  walls : w.walls.length < 2 ^ 40 ∧ ∀ l ∈ w.walls, l.length < 2 ^ 40
  parts : w.parts.length < 2 ^ 40 ∧ ∀ p ∈ w.parts, p.shape.length < 2 ^ 40
  slots : w.slots.length < 2 ^ 40
  gates : w.gates.length < 2 ^ 40
structure Dy.Low (d : Dy) : Prop where
  works : d.works.Low
  start : d.start.arms.length < 2 ^ 40 ∧ (∀ y ∈ d.start.arms, y.q.length < 2 ^ 40 ∧ y.v.length < 2 ^ 40) ∧ d.start.parts.length < 2 ^ 40 ∧ d.start.people.length < 2 ^ 40 ∧ d.start.opens.length < 2 ^ 40
  tracks : d.tracks.length < 2 ^ 40 ∧ ∀ l ∈ d.tracks, l.length < 2 ^ 40 ∧ ∀ y ∈ l, y.q.length < 2 ^ 40
  faults : d.faults.length < 2 ^ 40
  walks : d.walks.length < 2 ^ 40 ∧ ∀ l ∈ d.walks, l.length < 2 ^ 40
end Go.Proofs.YtjbnffclpebkkaaGreatDoor
end
section
set_option linter.unusedVariables false
set_option linter.unusedSimpArgs false
namespace Go.Proofs.YtjbnffclpebkkaaGreatDoor
open Go Go.Num
set_option maxRecDepth 100000 in
set_option maxHeartbeats 0 in
theorem refRecord_ok (d : Dy) (hd : d.Low) (r : ByteArray) (hr : r = d.S) (hs : r.size < 2 ^ 60) : AE.ACall Tryz.prog 11 [] [.a d.c] [] (.v (.string r)) := by
  obtain ⟨⟨w1, w2, ⟨w3, w4⟩, ⟨w5, w6⟩, w7, w8⟩, s1, ⟨t1, t2⟩, f1, ⟨u1, u2⟩⟩ := hd
  refine AE.ACall.of_walk (fn := Tryz.f11) (c := bodyOf Tryz.f11) tabOK Tryz.func11 rfl rfl mixed fun A hA X => ?_
  obtain ⟨ra, hra⟩ : ∃ r, r = lsS Ar.S d.works.arms := ⟨_, rfl⟩
  obtain ⟨rw_, hrw⟩ : ∃ r, r = lsS (fun l => lsS V2.S l) d.works.walls := ⟨_, rfl⟩
  obtain ⟨rp, hrp⟩ : ∃ r, r = lsS Pt.S d.works.parts := ⟨_, rfl⟩
  obtain ⟨rs_, hrs⟩ : ∃ r, r = lsS Sl.S d.works.slots := ⟨_, rfl⟩
  obtain ⟨rg, hrg⟩ : ∃ r, r = lsS Gt.S d.works.gates := ⟨_, rfl⟩
  obtain ⟨rk, hrk⟩ : ∃ r, r = d.works.walk.S := ⟨_, rfl⟩
  obtain ⟨rb, hrb⟩ : ∃ r, r = d.start.S := ⟨_, rfl⟩
  obtain ⟨rt, hrt⟩ : ∃ r, r = lsS (fun l => lsS Ky.S l) d.tracks := ⟨_, rfl⟩
  obtain ⟨rf, hrf⟩ : ∃ r, r = lsS Fl.S d.faults := ⟨_, rfl⟩
  obtain ⟨ru, hru⟩ : ∃ r, r = lsS (fun l => lsS V2.S l) d.walks := ⟨_, rfl⟩
  obtain ⟨rn, hrn⟩ : ∃ r, r = natS d.ticks := ⟨_, rfl⟩
  have hB : d.B = (⟨⟨[71, 49]⟩⟩ : ByteArray) ++ ra ++ rw_ ++ rp ++ rs_ ++ rg ++ (rk ++ rb) ++ rt ++ rf ++ (ru ++ rn) := by rw [Dy.B, Wk.S, hra, hrw, hrp, hrs, hrg, hrk, hrb, hrt, hrf, hru, hrn]
  obtain ⟨body, hbody⟩ : ∃ b, b = d.B := ⟨_, rfl⟩
  rw [Dy.S, ← hbody] at hr
  rw [← hbody] at hB
  have hz : body.size + 8 = r.size := by rw [hr, ba_size, S_size]; simp [tailL]
  have hz2 := congrArg ByteArray.size hB
  simp only [ba_size] at hz2
  have hz3 : (⟨⟨[71, 49]⟩⟩ : ByteArray).size = 2 := rfl
  have k1 := lstArm_ok d.works.arms w1 _ rfl Ar.S ra hra (by omega) (fun y hy r hr hs => refArm_ok y (w2 y hy) r hr hs)
  have k2 := lstWall_ok d.works.walls w3 _ rfl 52 (fun l => lsS V2.S l) rw_ hrw (by omega) (fun y hy r hr hs => refPoly_ok y (w4 y hy) _ rfl r hr hs)
  have k3 := lstPart_ok d.works.parts w5 _ rfl 60 Pt.S rp hrp (by omega) (fun y hy r hr hs => refPart_ok y (w6 y hy) r hr hs)
  have k4 := lstSlot_ok d.works.slots w7 _ rfl 62 Sl.S rs_ hrs (by omega) (fun y hy r hr hs => refSlot_ok y r hr hs)
  have k5 := lstGate_ok d.works.gates w8 _ rfl 64 Gt.S rg hrg (by omega) (fun y hy r hr hs => refGate_ok y r hr hs)
  have k6 := refNumber_ok d.works.walk rk hrk (by omega)
  have k7 := refBytes_ok d.start s1 rb hrb (by omega)
  have k8 := lstTrack_ok d.tracks t1 _ rfl 68 (fun l => lsS Ky.S l) rt hrt (by omega) (fun y hy r hr hs => refTrack_ok y (t2 y hy) r hr hs)
  have k9 := lstFault_ok d.faults f1 _ rfl 74 Fl.S rf hrf (by omega) (fun y hy r hr hs => refFault_ok y r hr hs)
  have k10 := lstWall_ok d.walks u1 _ rfl 52 (fun l => lsS V2.S l) ru hru (by omega) (fun y hy r hr hs => refPoly_ok y (u2 y hy) _ rfl r hr hs)
  have k11 := refNat_ok d.ticks rn hrn
  obtain ⟨sm, hsm⟩ : ∃ s, s = sumI body.data.toList := ⟨_, rfl⟩
  have k12 := refSum_ok body (by omega) sm hsm
  have hsr := sumI_range body.data.toList
  rw [← hsm] at hsr
  have fit : ∀ {s t : ByteArray}, s.size + t.size < 2 ^ 60 → AE.SFit (A.slen s) (A.slen t) := fun h => fitS hA (n := 2 ^ 60 - 1) (by decide) (by rw [ba_size]; omega)
  have g1 : AE.SFit (A.slen ⟨⟨[71, 49]⟩⟩) (A.slen ra) := fit (by omega)
  have g2 : AE.SFit (A.slen (A.cat ⟨⟨[71, 49]⟩⟩ ra)) (A.slen rw_) := by simp only [catS hA]; exact fit (by simp only [ba_size]; omega)
  have g3 : AE.SFit (A.slen (A.cat (A.cat ⟨⟨[71, 49]⟩⟩ ra) rw_)) (A.slen rp) := by simp only [catS hA]; exact fit (by simp only [ba_size]; omega)
  have g4 : AE.SFit (A.slen (A.cat (A.cat (A.cat ⟨⟨[71, 49]⟩⟩ ra) rw_) rp)) (A.slen rs_) := by simp only [catS hA]; exact fit (by simp only [ba_size]; omega)
  have g5 : AE.SFit (A.slen (A.cat (A.cat (A.cat (A.cat ⟨⟨[71, 49]⟩⟩ ra) rw_) rp) rs_)) (A.slen rg) := by simp only [catS hA]; exact fit (by simp only [ba_size]; omega)
  have g6 : AE.SFit (A.slen rk) (A.slen rb) := fit (by omega)
  have g7 : AE.SFit (A.slen (A.cat (A.cat (A.cat (A.cat (A.cat ⟨⟨[71, 49]⟩⟩ ra) rw_) rp) rs_) rg)) (A.slen (A.cat rk rb)) := by simp only [catS hA]; exact fit (by simp only [ba_size]; omega)
  have g8 : AE.SFit (A.slen (A.cat (A.cat (A.cat (A.cat (A.cat (A.cat ⟨⟨[71, 49]⟩⟩ ra) rw_) rp) rs_) rg) (A.cat rk rb))) (A.slen rt) := by simp only [catS hA]; exact fit (by simp only [ba_size]; omega)
  have g9 : AE.SFit (A.slen (A.cat (A.cat (A.cat (A.cat (A.cat (A.cat (A.cat ⟨⟨[71, 49]⟩⟩ ra) rw_) rp) rs_) rg) (A.cat rk rb)) rt)) (A.slen rf) := by simp only [catS hA]; exact fit (by simp only [ba_size]; omega)
  have g10 : AE.SFit (A.slen ru) (A.slen rn) := fit (by omega)
  obtain ⟨b9, hb9⟩ : ∃ b, b = A.cat (A.cat (A.cat (A.cat (A.cat (A.cat (A.cat (A.cat ⟨⟨[71, 49]⟩⟩ ra) rw_) rp) rs_) rg) (A.cat rk rb)) rt) rf := ⟨_, rfl⟩
  have g11 : AE.SFit (A.slen (A.cat (A.cat (A.cat (A.cat (A.cat (A.cat (A.cat (A.cat ⟨⟨[71, 49]⟩⟩ ra) rw_) rp) rs_) rg) (A.cat rk rb)) rt) rf)) (A.slen (A.cat ru rn)) := by simp only [catS hA]; exact fit (by simp only [ba_size]; omega)
  have hbd : A.cat (A.cat (A.cat (A.cat (A.cat (A.cat (A.cat (A.cat (A.cat ⟨⟨[71, 49]⟩⟩ ra) rw_) rp) rs_) rg) (A.cat rk rb)) rt) rf) (A.cat ru rn) = body := by simp only [catS hA]; exact hB.symm
  have k13 : AE.ACall Tryz.prog 75 [] [.v (.string (A.cat (A.cat (A.cat (A.cat (A.cat (A.cat (A.cat (A.cat (A.cat ⟨⟨[71, 49]⟩⟩ ra) rw_) rp) rs_) rg) (A.cat rk rb)) rt) rf) (A.cat ru rn)))] [] (.v (.int .u64 sm)) := by rw [hbd]; exact k12
  clear b9 hb9 hra hrw hrp hrs hrg hrk hrb hrt hrf hru hrn hB w2 w4 w6 s1 t2 u2 k12
  refine X.go 9 _ _ ?_
  cbv
  refine X.need _ _ _ trivial ?_
  refine X.go 3 _ _ ?_
  cbv
  refine X.need _ _ _ trivial (X.frzB 1 _ _ (Nat.zero_le _) ?_)
  (repeat' (first | (refine X.go 500 _ _ ?_; cbv) | (first | refine X.splitT ?_ | refine X.splitF ?_ | refine X.split _ _ _ _ _ (fun hc => ?_) (fun hc => ?_)) | refine X.need _ _ _ trivial ?_ | refine X.callsA [] k1 ?_ | refine X.callsA [] k2 ?_ | refine X.callsA [] k3 ?_ | refine X.callsA [] k4 ?_ | refine X.callsA [] k5 ?_ | refine X.need _ _ _ g1 ?_ | refine X.need _ _ _ g2 ?_ | refine X.need _ _ _ g3 ?_ | refine X.need _ _ _ g4 ?_ | refine X.need _ _ _ g5 ?_ | refine X.drawX _ _ _ (by kernel_rfl) (X.frzB 0 _ _ (Nat.zero_le _) ?_) | refine X.callsA [] k6 ?_ | refine X.callsA [] k7 ?_ | refine X.need _ _ _ g6 ?_ | refine X.need _ _ _ g7 ?_ | refine X.callsA [] k8 ?_ | refine X.callsA [] k9 ?_ | refine X.need _ _ _ g8 ?_ | refine X.need _ _ _ g9 ?_ | refine X.callsA [] k10 ?_ | refine X.callsA [] k11 ?_ | refine X.need _ _ _ g10 ?_ | refine X.need _ _ _ g11 ?_ | refine X.callsA [] k13 ?_ | fail))
  obtain ⟨n, hn⟩ : ∃ n : Nat, n = sm.toNat := ⟨_, rfl⟩
  have hn2 : sm = (n : Int) := by omega
  have hnl : n < 2 ^ 64 := by omega
  obtain ⟨g, hg⟩ : ∃ g : Nat → ByteArray, ∀ i, g i = body ++ Proofs.YtjbnffclpebkkaaGreatDoor.S (tailL n i) := ⟨_, fun _ => rfl⟩
  have g0 : body = g 0 := by rw [hg]; apply ByteArray.ext; simp [S_eq, tailL]
  have g00 := hbd.trans g0
  have gr : g 8 = r := by rw [hg, hr, ← hsm, ← hn]
  obtain ⟨q, hq⟩ : ∃ q : Nat → Int, ∀ i, q i = ((n / 256 ^ i : Nat) : Int) := ⟨_, fun _ => rfl⟩
  have q0 : sm = q 0 := by rw [hq, hn2]; simp
  clear k1 k2 k3 k4 k5 k6 k7 k8 k9 k10 k11 k13 g1 g2 g3 g4 g5 g6 g7 g8 g9 g10 g11
  refine ranges0 X 0 8 (fun _ => True) (fun z i => [(67, .v (.int .i64 z)), (4, .v (.string (g i))), (5, .v (.int .u64 (q i)))]) trivial ?_ (fun i z hz hi hI B hB => ?_) (fun z hz hI B => ?_)
  · (cbv <;> ((repeat' apply And.intro) <;> first | exact g00 | exact q0 | rfl | trivial))
  · rw [Nat.zero_add] at hz
    have c1 : A.cmp .lss z 8 = true := ltT hA hz (b := 8) rfl hi
    obtain ⟨b, hb⟩ : ∃ b, b = UInt8.ofNat (n / 256 ^ i % 256) := ⟨_, rfl⟩
    obtain ⟨sb, hsb⟩ : ∃ sb, sb = Proofs.YtjbnffclpebkkaaGreatDoor.S [b] := ⟨_, rfl⟩
    have e0 : [[AE.AV.v (.int .u8 (A.conv .u8 (q i)))]] = AE.sbytes sb := by
      rw [hsb, S_bytes, cv8 hA (hq i), bl_eq]
      simp only [List.map_cons, List.map_nil]
      congr 5
      rw [hb, UInt8.toNat_ofNat']
      exact (Nat.mod_mod _ 256).symm
    have hts : tailL n (i + 1) = tailL n i ++ [b] := by rw [tailL, tailL, List.range_succ, List.map_append, hb]; rfl
    have hfit : AE.SFit (A.slen (g i)) (A.slen sb) := by
      refine fit ?_
      rw [hg, ba_size, S_size, hsb, S_size, tailL, List.length_map, List.length_range]
      simp only [List.length_singleton]; omega
    have e1 : A.cat (g i) sb = g (i + 1) := by
      rw [catS hA, hg, hg, hts, ← S_app, hsb]
      apply ByteArray.ext; simp
    have e2 : A.bin .shr .u64 (q i) 8 = q (i + 1) := by
      refine (shrU hA (hq i) (y := 8) (b := 8) rfl (by decide)).trans ?_
      rw [hq (i + 1)]
      have : n / 256 ^ i / 2 ^ 8 = n / 256 ^ (i + 1) := by rw [show 256 ^ (i + 1) = 256 ^ i * 256 from Nat.pow_succ ..]; exact Nat.div_div_eq_div_mul ..
      rw [this]
    have hB' := hB (A.bin .add .i64 z 1) (by rw [Nat.zero_add]; exact addI hA hz (y := 1) (b := 1) rfl (by omega)) trivial
    clear hB
    (repeat' (first | (refine X.go 500 _ _ ?_; cbv) | (first | refine X.splitT ?_ | refine X.splitF ?_ | refine X.split _ _ _ _ _ (fun hc => ?_) (fun hc => ?_)) | refine X.need _ _ _ trivial ?_ | refine X.str _ _ _ _ sb e0 ?_ | refine X.need _ _ _ hfit ?_ | fail))
    all_goals (refine hB' _ ?_; clear hB'; (cbv <;> ((repeat' apply And.intro) <;> first | exact e1 | exact e2 | rfl | trivial)))
  · rw [Nat.zero_add] at hz
    have c1 : A.cmp .lss z 8 = false := ltF hA hz (b := 8) rfl (by omega)
    (repeat' (first | (refine X.go 500 _ _ ?_; cbv) | (first | refine X.splitT ?_ | refine X.splitF ?_ | refine X.split _ _ _ _ _ (fun hc => ?_) (fun hc => ?_)) | refine X.need _ _ _ trivial ?_ | fail))
    all_goals (refine X.ret _ (X.done rfl ?_); cbv <;> ((repeat' apply And.intro) <;> first | exact gr | rfl | trivial))
end Go.Proofs.YtjbnffclpebkkaaGreatDoor
end
