/- Contracts: how the reference writes a day as bytes, second part (written by tools/genrec.py b). Contract: the reference's Record (written by tools/genrec.py c). Plain law: different states have different bytes. -/
import Derived.Test.YthadehkggddgoaaGreatDoorZRec
import Derived.Test.YthadehkggddgoaaGreatDoorZRState
section
set_option maxRecDepth 100000
set_option maxHeartbeats 0
section
set_option linter.unusedVariables false
set_option linter.unusedSimpArgs false
namespace Go.Proofs.YthadehkggddgoaaGreatDoor
open Go Go.Num
structure Ky where
  tick : Int
  q : List Q
noncomputable def Ky.c (p : Ky) : List AE.AV := [.v (.int .i64 p.tick), .l 3 (lsAv Q.c p.q)]
noncomputable def trackC (t : List Ky) : List AE.AV := [.l 2 (lsAv Ky.c t)]
structure Fl where
  tick : Int
  kind : Int
  n : Int
def Fl.c (p : Fl) : List AE.AV := [.v (.int .i64 p.tick), .v (.int .i64 p.kind), .v (.int .i64 p.n)]
structure Dy where
  works : Wk
  start : Ss
  tracks : List (List Ky)
  faults : List Fl
  walks : List (List V2)
  ticks : Int
noncomputable def Dy.c (d : Dy) : List AE.AV := d.works.c ++ d.start.c ++ [.l 1 (lsAv trackC d.tracks), .l 3 (lsAv Fl.c d.faults), .l 1 (lsAv wallC d.walks), .v (.int .i64 d.ticks)]
theorem natS1 {A : AE.Ari} (hA : A = AE.std) (n : Int) : natS (A.bin .add .i64 n 1) = natS (n + 1) := by
  subst hA
  have : (AE.std.bin .add .i64 n 1) % 2 ^ 64 = (n + 1) % 2 ^ 64 := by
    show IntKind.wrap .i64 (n + 1) % 2 ^ 64 = _
    simp only [IntKind.wrap, IntKind.bits, IntKind.signed]
    simp; omega
  rw [natS, natS, intL, intL, this]
noncomputable def As.S (p : As) : ByteArray := lsS Q.S p.q ++ lsS Q.S p.v ++ boolS p.power ++ natS (p.holds + 1)
theorem refArmState_ok (p : As) (hl : p.q.length < 2 ^ 40 ∧ p.v.length < 2 ^ 40) (r : ByteArray) (hr : r = As.S p) (hs : r.size < 2 ^ 60) : AE.ACall Tryz.prog 179 [] [.a p.c] [] (.v (.string r)) := by
  refine AE.ACall.of_walk (fn := Tryz.f179) (c := bodyOf Tryz.f179) tabOK Tryz.func179 rfl rfl mixed fun A hA X => ?_
  obtain ⟨r1, hr1⟩ : ∃ r, r = lsS Q.S p.q := ⟨_, rfl⟩
  obtain ⟨r2, hr2⟩ : ∃ r, r = lsS Q.S p.v := ⟨_, rfl⟩
  obtain ⟨r3, hr3⟩ : ∃ r, r = boolS p.power := ⟨_, rfl⟩
  obtain ⟨r4, hr4⟩ : ∃ r, r = natS (p.holds + 1) := ⟨_, rfl⟩
  have hr0 : r = r1 ++ r2 ++ r3 ++ r4 := by rw [hr, hr1, hr2, hr3, hr4] <;> rfl
  have hz := hs
  rw [hr0] at hz
  simp only [ba_size] at hz
  have k1 := lstRat_ok p.q hl.1 _ rfl 181 Q.S r1 hr1 (by omega) (fun y _ r hr hs => refNumber_ok y r hr hs)
  have k2 := lstRat_ok p.v hl.2 _ rfl 181 Q.S r2 hr2 (by omega) (fun y _ r hr hs => refNumber_ok y r hr hs)
  have k3 := refTruth_ok p.power r3 hr3
  have k4 := refNat_ok (A.bin .add .i64 p.holds 1) r4 (by rw [natS1 hA]; exact hr4)
  have f2 := fitS hA (s := r1) (t := r2) (n := 2 ^ 60 - 1) (by decide) (by simp only [ba_size]; omega)
  have e2 : A.cat (r1) r2 = r1 ++ r2 := catS hA _ _
  have f3 := fitS hA (s := (r1 ++ r2)) (t := r3) (n := 2 ^ 60 - 1) (by decide) (by simp only [ba_size]; omega)
  have e3 : A.cat ((r1 ++ r2)) r3 = (r1 ++ r2) ++ r3 := catS hA _ _
  have f4 := fitS hA (s := ((r1 ++ r2) ++ r3)) (t := r4) (n := 2 ^ 60 - 1) (by decide) (by simp only [ba_size]; omega)
  have e4 : A.cat (((r1 ++ r2) ++ r3)) r4 = ((r1 ++ r2) ++ r3) ++ r4 := catS hA _ _
  have g2 : AE.SFit (A.slen r1) (A.slen r2) := by first | exact f2 | (simp only [catS hA]; exact f2)
  have g3 : AE.SFit (A.slen (A.cat r1 r2)) (A.slen r3) := by first | exact f3 | (simp only [catS hA]; exact f3)
  have g4 : AE.SFit (A.slen (A.cat (A.cat r1 r2) r3)) (A.slen r4) := by first | exact f4 | (simp only [catS hA]; exact f4)
  have efin : (A.cat (A.cat (A.cat r1 r2) r3) r4) = r := by simp only [catS hA]; exact hr0.symm
  (refine X.g ?_; cbv)
  refine X.drawX _ _ _ (by kernel_rfl) (X.frzB 0 _ _ (Nat.zero_le _) ?_)
  (repeat' (first | (refine X.g ?_; cbv) | refine X.splitT ?_ | refine X.splitF ?_ | refine X.sp (fun hc => ?_) (fun hc => ?_) | refine X.needT ?_ | refine X.callsA [] k1 ?_ | refine X.callsA [] k2 ?_ | refine X.callsA [] k3 ?_ | refine X.callsA [] k4 ?_ | refine X.need _ _ _ g2 ?_ | refine X.need _ _ _ g3 ?_ | refine X.need _ _ _ g4 ?_ | fail))
  all_goals (refine X.ret _ (X.done rfl ?_); cbv <;> (and_intros <;> first | exact efin | rfl | trivial))
theorem lstArmState_ok (l : List As) (hl : l.length < 2 ^ 40) (es : List (List AE.AV)) (hes : es = lsAv As.c l) (fn : Nat) (f : As → ByteArray) (r : ByteArray) (hr : r = lsS f l) (hs : r.size < 2 ^ 60) (each : ∀ y ∈ l, ∀ r, r = f y → r.size < 2 ^ 60 → AE.ACall Tryz.prog (fn % 1000000) [] [.a y.c] [] (.v (.string r))) : AE.ACall Tryz.prog 184 [] [.l 4 es, .f fn []] [] (.v (.string r)) := by
  refine AE.ACall.of_walk (fn := Tryz.f184) (c := bodyOf Tryz.f184) tabOK Tryz.func184 rfl rfl mixed fun A hA X => ?_
  obtain ⟨r0, hr0⟩ : ∃ r, r = natS l.length := ⟨_, rfl⟩
  have k0 := refNat_ok (A.llen es) r0 (by rw [llen hA, hes, lsAv_len]; exact hr0)
  obtain ⟨g, hg⟩ : ∃ g : Nat → ByteArray, ∀ i, g i = upS f l i := ⟨_, fun _ => rfl⟩
  have h00 : r0 = g 0 := by rw [hr0, hg]; rfl
  rw [hr] at hs
  (repeat' (first | (refine X.g ?_; cbv) | refine X.splitT ?_ | refine X.splitF ?_ | refine X.sp (fun hc => ?_) (fun hc => ?_) | refine X.needT ?_ | refine X.callsA [] k0 ?_ | fail))
  refine rangeL0 X hA hes (by omega) (fun _ => True) (fun z i => [(13, .v (.int .i64 z)), (5, .v (.string (g i)))]) trivial ?_ (fun i z y hz hy he c3 hI B hB => ?_) (fun z c3 hI B => ?_)
  · (cbv <;> (and_intros <;> first | exact h00 | rfl | trivial))
  · obtain ⟨ry, hry⟩ : ∃ r, r = f y := ⟨_, rfl⟩
    have hle := elS_le (f := f) hy
    have hle2 := upS_le f l (i + 1)
    rw [upS_succ hy, ← hg, ← hry] at hle2
    rw [← hry] at hle
    have k1 := each y (List.mem_of_getElem? hy) ry hry (by omega)
    have hf := fitS hA (s := g i) (t := ry) (n := 2 ^ 60 - 1) (by decide) (by omega)
    have e1 : A.cat (g i) ry = g (i + 1) := by rw [catS hA, hg (i + 1), upS_succ hy, ← hg, ← hry]
    clear each k0
    (repeat' (first | (refine X.g ?_; cbv) | refine X.splitT ?_ | refine X.splitF ?_ | refine X.sp (fun hc => ?_) (fun hc => ?_) | refine X.needT ?_ | refine X.idx _ _ _ _ _ _ _ _ he hz ?_ | refine X.callsA [] k1 ?_ | refine X.need _ _ _ hf ?_ | fail))
    all_goals (refine hB trivial _ ?_; clear hB; (cbv <;> (and_intros <;> first | exact e1 | rfl | trivial)))
  · have e1 : g l.length = r := by rw [hg, hr]; rfl
    clear each
    (repeat' (first | (refine X.g ?_; cbv) | refine X.splitT ?_ | refine X.splitF ?_ | refine X.sp (fun hc => ?_) (fun hc => ?_) | refine X.needT ?_ | fail))
    all_goals (refine X.ret _ (X.done rfl ?_); cbv <;> (and_intros <;> first | exact e1 | rfl | trivial))
noncomputable def Ss.S (p : Ss) : ByteArray := natS p.tick ++ lsS As.S p.arms ++ lsS Fr.S p.parts ++ lsS V2.S p.people ++ lsS boolS p.opens
theorem refBytes_ok (p : Ss) (hl : p.arms.length < 2 ^ 40 ∧ (∀ y ∈ p.arms, y.q.length < 2 ^ 40 ∧ y.v.length < 2 ^ 40) ∧ p.parts.length < 2 ^ 40 ∧ p.people.length < 2 ^ 40 ∧ p.opens.length < 2 ^ 40) (r : ByteArray) (hr : r = Ss.S p) (hs : r.size < 2 ^ 60) : AE.ACall Tryz.prog 118 [] [.a p.c] [] (.v (.string r)) := by
  refine AE.ACall.of_walk (fn := Tryz.f118) (c := bodyOf Tryz.f118) tabOK Tryz.func118 rfl rfl mixed fun A hA X => ?_
  obtain ⟨r1, hr1⟩ : ∃ r, r = natS p.tick := ⟨_, rfl⟩
  obtain ⟨r2, hr2⟩ : ∃ r, r = lsS As.S p.arms := ⟨_, rfl⟩
  obtain ⟨r3, hr3⟩ : ∃ r, r = lsS Fr.S p.parts := ⟨_, rfl⟩
  obtain ⟨r4, hr4⟩ : ∃ r, r = lsS V2.S p.people := ⟨_, rfl⟩
  obtain ⟨r5, hr5⟩ : ∃ r, r = lsS boolS p.opens := ⟨_, rfl⟩
  have hr0 : r = r1 ++ r2 ++ r3 ++ r4 ++ r5 := by rw [hr, hr1, hr2, hr3, hr4, hr5] <;> rfl
  have hz := hs
  rw [hr0] at hz
  simp only [ba_size] at hz
  have k1 := refNat_ok p.tick r1 hr1
  have k2 := lstArmState_ok p.arms hl.1 _ rfl 179 As.S r2 hr2 (by omega) (fun y hy r hr hs => refArmState_ok y (hl.2.1 y hy) r hr hs)
  have k3 := lstFrame_ok p.parts hl.2.2.1 _ rfl 186 Fr.S r3 hr3 (by omega) (fun y _ r hr hs => refPlaced_ok y r hr hs)
  have k4 := lstVec_ok p.people hl.2.2.2.1 _ rfl 188 V2.S r4 hr4 (by omega) (fun y _ r hr hs => refPoint_ok y r hr hs)
  have k5 := lstBool_ok p.opens hl.2.2.2.2 _ rfl 182 boolS r5 hr5 (by omega) (fun y _ r hr hs => refTruth_ok y r hr)
  have f2 := fitS hA (s := r1) (t := r2) (n := 2 ^ 60 - 1) (by decide) (by simp only [ba_size]; omega)
  have e2 : A.cat (r1) r2 = r1 ++ r2 := catS hA _ _
  have f3 := fitS hA (s := (r1 ++ r2)) (t := r3) (n := 2 ^ 60 - 1) (by decide) (by simp only [ba_size]; omega)
  have e3 : A.cat ((r1 ++ r2)) r3 = (r1 ++ r2) ++ r3 := catS hA _ _
  have f4 := fitS hA (s := ((r1 ++ r2) ++ r3)) (t := r4) (n := 2 ^ 60 - 1) (by decide) (by simp only [ba_size]; omega)
  have e4 : A.cat (((r1 ++ r2) ++ r3)) r4 = ((r1 ++ r2) ++ r3) ++ r4 := catS hA _ _
  have f5 := fitS hA (s := (((r1 ++ r2) ++ r3) ++ r4)) (t := r5) (n := 2 ^ 60 - 1) (by decide) (by simp only [ba_size]; omega)
  have e5 : A.cat ((((r1 ++ r2) ++ r3) ++ r4)) r5 = (((r1 ++ r2) ++ r3) ++ r4) ++ r5 := catS hA _ _
  have g2 : AE.SFit (A.slen r1) (A.slen r2) := by first | exact f2 | (simp only [catS hA]; exact f2)
  have g3 : AE.SFit (A.slen (A.cat r1 r2)) (A.slen r3) := by first | exact f3 | (simp only [catS hA]; exact f3)
  have g4 : AE.SFit (A.slen (A.cat (A.cat r1 r2) r3)) (A.slen r4) := by first | exact f4 | (simp only [catS hA]; exact f4)
  have g5 : AE.SFit (A.slen (A.cat (A.cat (A.cat r1 r2) r3) r4)) (A.slen r5) := by first | exact f5 | (simp only [catS hA]; exact f5)
  have efin : (A.cat (A.cat (A.cat (A.cat r1 r2) r3) r4) r5) = r := by simp only [catS hA]; exact hr0.symm
  (refine X.g ?_; cbv)
  refine X.drawX _ _ _ (by kernel_rfl) (X.frzB 0 _ _ (Nat.zero_le _) ?_)
  (repeat' (first | (refine X.g ?_; cbv) | refine X.splitT ?_ | refine X.splitF ?_ | refine X.sp (fun hc => ?_) (fun hc => ?_) | refine X.needT ?_ | refine X.callsA [] k1 ?_ | refine X.callsA [] k2 ?_ | refine X.callsA [] k3 ?_ | refine X.callsA [] k4 ?_ | refine X.callsA [] k5 ?_ | refine X.need _ _ _ g2 ?_ | refine X.need _ _ _ g3 ?_ | refine X.need _ _ _ g4 ?_ | refine X.need _ _ _ g5 ?_ | fail))
  all_goals (refine X.ret _ (X.done rfl ?_); cbv <;> (and_intros <;> first | exact efin | rfl | trivial))
noncomputable def Ky.S (p : Ky) : ByteArray := natS p.tick ++ lsS Q.S p.q
noncomputable def Fl.S (p : Fl) : ByteArray := natS p.tick ++ natS p.kind ++ natS p.n
noncomputable def sumStep (h : Int) (b : UInt8) : Int := AE.std.bin .mul .u64 (AE.std.bin .xor .u64 h (AE.std.conv .u64 b.toNat)) 1099511628211
noncomputable def sumTo (l : List UInt8) : Int := l.foldl sumStep 14695981039346656037
noncomputable def sumI (l : List UInt8) : Int := AE.std.bin .xor .u64 (sumTo l) (AE.std.bin .quo .u64 (sumTo l) 536870912)
def tailL (n i : Nat) : List UInt8 := (List.range i).map fun k => UInt8.ofNat (n / 256 ^ k % 256)
noncomputable def Wk.S (w : Wk) : ByteArray := ⟨⟨[71, 49]⟩⟩ ++ lsS Ar.S w.arms ++ lsS (fun l => lsS V2.S l) w.walls ++ lsS Pt.S w.parts ++ lsS Sl.S w.slots ++ lsS Gt.S w.gates
noncomputable def Dy.B (d : Dy) : ByteArray := d.works.S ++ (d.works.walk.S ++ d.start.S) ++ lsS (fun l => lsS Ky.S l) d.tracks ++ lsS Fl.S d.faults ++ (lsS (fun l => lsS V2.S l) d.walks ++ natS d.ticks)
noncomputable def Dy.S (d : Dy) : ByteArray := d.B ++ Proofs.YthadehkggddgoaaGreatDoor.S (tailL (sumI d.B.data.toList).toNat 8)
structure Wk.Low (w : Wk) : Prop where
  arms : w.arms.length < 2 ^ 40
  links : ∀ a ∈ w.arms, a.links.length < 2 ^ 40 ∧ ∀ k ∈ a.links, k.shape.length < 2 ^ 40
  walls : w.walls.length < 2 ^ 40 ∧ ∀ l ∈ w.walls, l.length < 2 ^ 40
  parts : w.parts.length < 2 ^ 40 ∧ ∀ p ∈ w.parts, p.shape.length < 2 ^ 40
  slots : w.slots.length < 2 ^ 40
  gates : w.gates.length < 2 ^ 40
structure Dy.Low (d : Dy) : Prop where
  works : d.works.Low
  start : d.start.arms.length < 2 ^ 40 ∧ (∀ y ∈ d.start.arms, y.q.length < 2 ^ 40 ∧ y.v.length < 2 ^ 40) ∧ d.start.parts.length < 2 ^ 40 ∧ d.start.people.length < 2 ^ 40 ∧ d.start.opens.length < 2 ^ 40
  tracks : d.tracks.length < 2 ^ 40 ∧ ∀ l ∈ d.tracks, l.length < 2 ^ 40 ∧ ∀ y ∈ l, y.q.length < 2 ^ 40
  faults : d.faults.length < 2 ^ 40
  walks : d.walks.length < 2 ^ 40 ∧ ∀ l ∈ d.walks, l.length < 2 ^ 40
end Go.Proofs.YthadehkggddgoaaGreatDoor
end
section
set_option linter.unusedVariables false
set_option linter.unusedSimpArgs false
namespace Go.Proofs.YthadehkggddgoaaGreatDoor
open Go Go.Num
end Go.Proofs.YthadehkggddgoaaGreatDoor
end
end
section
set_option linter.unusedVariables false
set_option linter.unusedSimpArgs false
namespace Go.Proofs.YthadehkggddgoaaGreatDoor
open Go Go.Num
def PI {α : Type} (P : α → Prop) (f : α → ByteArray) : Prop := ∀ a b, P a → P b → ∀ x y, f a ++ x = f b ++ y → a = b ∧ x = y
theorem ba_list (a b : ByteArray) : (a ++ b).data.toList = a.data.toList ++ b.data.toList := by simp
theorem baL_ext {a b : ByteArray} (h : a.data.toList = b.data.toList) : a = b := by
  apply ByteArray.ext
  exact Array.toList_inj.1 h
theorem ba_assoc (a b c : ByteArray) : a ++ b ++ c = a ++ (b ++ c) := by
  apply baL_ext
  simp only [ba_list, List.append_assoc]
theorem ba_nil (a : ByteArray) : a ++ ⟨⟨[]⟩⟩ = a := by
  apply baL_ext
  rw [ba_list]; simp
theorem u8_inj {a b : Nat} (ha : a < 256) (hb : b < 256) (h : UInt8.ofNat a = UInt8.ofNat b) : a = b := by
  have := congrArg UInt8.toNat h
  simp only [UInt8.toNat_ofNat'] at this
  omega
theorem natL_eq (u : Nat) : natL u = if u < 128 then [UInt8.ofNat u] else UInt8.ofNat (u % 128 + 128) :: natL (u / 128) := by
  rw [natL]; split <;> rename_i h <;> simp [h]
theorem natL_pi : ∀ (u v : Nat) (x y : List UInt8), natL u ++ x = natL v ++ y → u = v ∧ x = y := by
  intro u
  induction u using Nat.strongRecOn with
  | _ u ih =>
    intro v x y h
    rw [natL_eq u, natL_eq v] at h
    by_cases h1 : u < 128
    · rw [if_pos h1] at h
      by_cases h2 : v < 128
      · rw [if_pos h2] at h
        simp only [List.cons_append, List.nil_append, List.cons.injEq] at h
        exact ⟨u8_inj (by omega) (by omega) h.1, h.2⟩
      · rw [if_neg h2] at h
        simp only [List.cons_append, List.nil_append, List.cons.injEq] at h
        have := u8_inj (by omega) (by omega) h.1
        omega
    · rw [if_neg h1] at h
      by_cases h2 : v < 128
      · rw [if_pos h2] at h
        simp only [List.cons_append, List.nil_append, List.cons.injEq] at h
        have := u8_inj (by omega) (by omega) h.1
        omega
      · rw [if_neg h2] at h
        simp only [List.cons_append, List.cons.injEq] at h
        have e1 := u8_inj (by omega) (by omega) h.1
        obtain ⟨e2, e3⟩ := ih (u / 128) (by omega) (v / 128) x y h.2
        exact ⟨by omega, e3⟩
theorem natS_pi0 {a b : Int} {x y : ByteArray} (h : natS a ++ x = natS b ++ y) : a % 2 ^ 64 = b % 2 ^ 64 ∧ x = y := by
  have h2 := congrArg (fun s : ByteArray => s.data.toList) h
  simp only [ba_list, natS, S_eq] at h2
  obtain ⟨e1, e2⟩ := natL_pi _ _ _ _ h2
  refine ⟨?_, baL_ext e2⟩
  omega
theorem natS_pi : PI I64 natS := by
  intro a b ha hb x y h
  obtain ⟨e1, e2⟩ := natS_pi0 h
  exact ⟨by unfold I64 at ha hb; omega, e2⟩
theorem natS_pi1 : PI I64 (fun n => natS (n + 1)) := by
  intro a b ha hb x y h
  obtain ⟨e1, e2⟩ := natS_pi0 h
  exact ⟨by unfold I64 at ha hb; omega, e2⟩
theorem boolS_pi : PI (fun _ => True) boolS := by
  intro a b _ _ x y h
  have h2 := congrArg (fun s : ByteArray => s.data.toList) h
  simp only [ba_list] at h2
  cases a <;> cases b <;> simp [boolS] at h2 <;> exact ⟨rfl, by apply ByteArray.ext; exact h2⟩
theorem textS_pi : PI (fun s => s.size < 2 ^ 60) textS := by
  intro a b ha hb x y h
  rw [textS, textS, ba_assoc, ba_assoc] at h
  obtain ⟨e1, e2⟩ := natS_pi _ _ (by unfold I64; omega) (by unfold I64; omega) _ _ h
  have h2 := congrArg (fun s : ByteArray => s.data.toList) e2
  simp only [ba_list] at h2
  have hl : a.data.toList.length = b.data.toList.length := by
    have : a.size = b.size := by omega
    rw [Array.length_toList, Array.length_toList]; exact this
  obtain ⟨e3, e4⟩ := List.append_inj h2 hl
  exact ⟨baL_ext e3, baL_ext e4⟩
def Q.few (q : Q) : Prop := q.num.size < 2 ^ 60 ∧ q.den.size < 2 ^ 60
theorem Q.S_pi : PI Q.few Q.S := by
  intro a b ha hb x y h
  obtain ⟨n1, u1, d1⟩ := a
  obtain ⟨n2, u2, d2⟩ := b
  simp only [Q.S, ba_assoc] at h
  obtain ⟨e1, h⟩ := boolS_pi _ _ trivial trivial _ _ h
  obtain ⟨e2, h⟩ := textS_pi _ _ ha.1 hb.1 _ _ h
  obtain ⟨e3, h⟩ := textS_pi _ _ ha.2 hb.2 _ _ h
  exact ⟨by simp only at e1 e2 e3; rw [e1, e2, e3], h⟩
def V2.few (p : V2) : Prop := p.x.few ∧ p.y.few
theorem V2.S_pi : PI V2.few V2.S := by
  intro a b ha hb x y h
  obtain ⟨x1, y1⟩ := a
  obtain ⟨x2, y2⟩ := b
  simp only [V2.S, ba_assoc] at h
  obtain ⟨e1, h⟩ := Q.S_pi _ _ ha.1 hb.1 _ _ h
  obtain ⟨e2, h⟩ := Q.S_pi _ _ ha.2 hb.2 _ _ h
  exact ⟨by simp only at e1 e2; rw [e1, e2], h⟩
def Fr.few (p : Fr) : Prop := p.at_.few ∧ p.turn.t.few
theorem Fr.S_pi : PI Fr.few Fr.S := by
  intro a b ha hb x y h
  obtain ⟨p1, h1, t1⟩ := a
  obtain ⟨p2, h2, t2⟩ := b
  simp only [Fr.S, ba_assoc] at h
  obtain ⟨e1, h⟩ := V2.S_pi _ _ ha.1 hb.1 _ _ h
  obtain ⟨e2, h⟩ := boolS_pi _ _ trivial trivial _ _ h
  obtain ⟨e3, h⟩ := Q.S_pi _ _ ha.2 hb.2 _ _ h
  exact ⟨by simp only at e1 e2 e3; rw [e1, e2, e3], h⟩
theorem foldS_eq {α : Type} (f : α → ByteArray) : ∀ (l : List α) (a : ByteArray), l.foldl (fun acc x => acc ++ f x) a = a ++ l.foldr (fun x acc => f x ++ acc) ⟨⟨[]⟩⟩
  | [], a => (ba_nil a).symm
  | x :: l, a => by rw [List.foldl_cons, foldS_eq f l, List.foldr_cons, ba_assoc]
theorem lsS_eq {α : Type} (f : α → ByteArray) (l : List α) : lsS f l = natS l.length ++ l.foldr (fun x acc => f x ++ acc) ⟨⟨[]⟩⟩ := by
  rw [lsS, upS, List.take_length, foldS_eq]
theorem foldS_pi {α : Type} {P : α → Prop} {f : α → ByteArray} (hf : PI P f) : ∀ (l m : List α), l.length = m.length → (∀ a ∈ l, P a) → (∀ a ∈ m, P a) → ∀ x y, l.foldr (fun x acc => f x ++ acc) ⟨⟨[]⟩⟩ ++ x = m.foldr (fun x acc => f x ++ acc) ⟨⟨[]⟩⟩ ++ y → l = m ∧ x = y
  | [], [], _, _, _, x, y, h => by
    refine ⟨rfl, baL_ext ?_⟩
    have h2 := congrArg (fun s : ByteArray => s.data.toList) h
    simpa only [ba_list, List.foldr_nil, List.nil_append] using h2
  | a :: l, b :: m, hl, h1, h2, x, y, h => by
    rw [List.foldr_cons, List.foldr_cons, ba_assoc, ba_assoc] at h
    obtain ⟨e1, h⟩ := hf _ _ (h1 a (by simp)) (h2 b (by simp)) _ _ h
    obtain ⟨e2, h⟩ := foldS_pi hf l m (by simpa using hl) (fun c hc => h1 c (by simp [hc])) (fun c hc => h2 c (by simp [hc])) _ _ h
    exact ⟨by rw [e1, e2], h⟩
def lsP {α : Type} (P : α → Prop) (l : List α) : Prop := l.length < 2 ^ 60 ∧ ∀ a ∈ l, P a
theorem lsS_pi {α : Type} {P : α → Prop} {f : α → ByteArray} (hf : PI P f) : PI (lsP P) (lsS f) := by
  intro a b ha hb x y h
  rw [lsS_eq, lsS_eq, ba_assoc, ba_assoc] at h
  have := ha.1
  have := hb.1
  obtain ⟨e1, h⟩ := natS_pi _ _ (by unfold I64; omega) (by unfold I64; omega) _ _ h
  exact foldS_pi hf a b (by omega) ha.2 hb.2 _ _ h
def As.few (p : As) : Prop := lsP Q.few p.q ∧ lsP Q.few p.v ∧ I64 p.holds
theorem As.S_pi : PI As.few As.S := by
  intro a b ha hb x y h
  obtain ⟨q1, v1, p1, h1⟩ := a
  obtain ⟨q2, v2, p2, h2⟩ := b
  simp only [As.S, ba_assoc] at h
  obtain ⟨e1, h⟩ := lsS_pi Q.S_pi _ _ ha.1 hb.1 _ _ h
  obtain ⟨e2, h⟩ := lsS_pi Q.S_pi _ _ ha.2.1 hb.2.1 _ _ h
  obtain ⟨e3, h⟩ := boolS_pi _ _ trivial trivial _ _ h
  obtain ⟨e4, h⟩ := natS_pi1 _ _ ha.2.2 hb.2.2 _ _ h
  exact ⟨by simp only at e1 e2 e3 e4; rw [e1, e2, e3, e4], h⟩
structure Ss.few (p : Ss) : Prop where
  tick : I64 p.tick
  arms : lsP As.few p.arms
  parts : lsP Fr.few p.parts
  people : lsP V2.few p.people
  opens : lsP (fun _ => True) p.opens
theorem Ss.S_inj {a b : Ss} (ha : a.few) (hb : b.few) (h : a.S = b.S) : a = b := by
  obtain ⟨t1, a1, p1, w1, o1⟩ := a
  obtain ⟨t2, a2, p2, w2, o2⟩ := b
  have h := congrArg (fun s : ByteArray => s ++ (⟨⟨[]⟩⟩ : ByteArray)) h
  simp only [Ss.S, ba_assoc] at h
  obtain ⟨e1, h⟩ := natS_pi _ _ ha.tick hb.tick _ _ h
  obtain ⟨e2, h⟩ := lsS_pi As.S_pi _ _ ha.arms hb.arms _ _ h
  obtain ⟨e3, h⟩ := lsS_pi Fr.S_pi _ _ ha.parts hb.parts _ _ h
  obtain ⟨e4, h⟩ := lsS_pi V2.S_pi _ _ ha.people hb.people _ _ h
  obtain ⟨e5, h⟩ := lsS_pi boolS_pi _ _ ha.opens hb.opens _ _ h
  simp only at e1 e2 e3 e4 e5
  rw [e1, e2, e3, e4, e5]
end Go.Proofs.YthadehkggddgoaaGreatDoor
end
