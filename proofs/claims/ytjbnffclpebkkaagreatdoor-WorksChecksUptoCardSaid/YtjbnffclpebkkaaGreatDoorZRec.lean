/- Contracts: how the reference writes a day as bytes (written by tools/genrec.py). -/
import Derived.Test.YtjbnffclpebkkaaGreatDoorZLoop
import Derived.Test.YtjbnffclpebkkaaGreatDoorZText
set_option linter.unusedVariables false
set_option linter.unusedSimpArgs false
namespace Go.Proofs.YtjbnffclpebkkaaGreatDoor
open Go Go.Num
theorem S_ex : ∃ g : List UInt8 → ByteArray, ∀ l, g l = ⟨l.toArray⟩ := ⟨_, fun _ => rfl⟩
noncomputable def S : List UInt8 → ByteArray := S_ex.choose
theorem S_eq (l : List UInt8) : S l = ⟨l.toArray⟩ := S_ex.choose_spec l
theorem S_app (l m : List UInt8) : S l ++ S m = S (l ++ m) := by
  apply ByteArray.ext
  simp [S_eq]
theorem S_size (l : List UInt8) : (S l).size = l.length := by simp [S_eq, ByteArray.size]
theorem S_bytes (l : List UInt8) : AE.sbytes (S l) = bl l := by simp [AE.sbytes_eq, S_eq, bl_eq]
theorem ba_size (a b : ByteArray) : (a ++ b).size = a.size + b.size := by simp
def natL (u : Nat) : List UInt8 := if h : u < 128 then [UInt8.ofNat u] else UInt8.ofNat (u % 128 + 128) :: natL (u / 128)
termination_by u
theorem natL_len : ∀ (u : Nat), u < 2 ^ 64 → (natL u).length ≤ 10 := by
  have key : ∀ (k u : Nat), u < 128 ^ (k + 1) → (natL u).length ≤ k + 1 := by
    intro k
    induction k with
    | zero => intro u h; unfold natL; rw [dif_pos (by simpa using h)]; simp
    | succ k ih =>
      intro u h
      unfold natL
      split
      · simp
      · have : u / 128 < 128 ^ (k + 1) := by rw [Nat.div_lt_iff_lt_mul (by omega)]; rw [Nat.pow_succ] at h; exact h
        have := ih _ this
        simp; omega
  intro u h
  exact key 9 u (by omega)
def intL (n : Int) : List UInt8 := natL (n % 2 ^ 64).toNat
theorem intL_len (n : Int) : (intL n).length ≤ 10 := natL_len _ (by omega)
theorem std_and127 (u : Nat) (h : u < 2 ^ 64) : AE.std.bin .and .u64 u 127 = ((u % 128 : Nat) : Int) := by
  show IntKind.wrap .u64 ((((BitVec.ofInt 64 (u : Int)) &&& (BitVec.ofInt 64 (127 : Int))).toNat : Nat) : Int) = _
  rw [AE.wrap_u64]
  have h1 : (BitVec.ofInt 64 (u : Int)).toNat = u := by rw [BitVec.toNat_ofInt]; omega
  have h2 : (BitVec.ofInt 64 (127 : Int)).toNat = 127 := by decide
  rw [BitVec.toNat_and, h1, h2]
  have : u &&& 127 = u % 128 := Nat.and_two_pow_sub_one_eq_mod u 7
  rw [this]
  omega
theorem std_or128 (m : Nat) (h : m < 128) : AE.std.bin .or .u64 m 128 = ((m + 128 : Nat) : Int) := by
  show IntKind.wrap .u64 ((((BitVec.ofInt 64 (m : Int)) ||| (BitVec.ofInt 64 (128 : Int))).toNat : Nat) : Int) = _
  rw [AE.wrap_u64]
  have h1 : (BitVec.ofInt 64 (m : Int)).toNat = m := by rw [BitVec.toNat_ofInt]; omega
  have h2 : (BitVec.ofInt 64 (128 : Int)).toNat = 128 := by decide
  rw [BitVec.toNat_or, h1, h2]
  have : m ||| 128 = m + 128 := by
    have := Nat.two_pow_add_eq_or_of_lt (i := 7) (b := m) (by simpa using h) 1
    have e : (2 : Nat) ^ 7 * 1 = 128 := by decide
    rw [e] at this
    rw [Nat.or_comm]; omega
  rw [this]
  omega
noncomputable def natS (n : Int) : ByteArray := S (intL n)
theorem natS_size (n : Int) : (natS n).size ≤ 10 := by rw [natS, S_size]; exact intL_len n
set_option maxRecDepth 100000 in
set_option maxHeartbeats 0 in
theorem refNat_ok (n : Int) (r : ByteArray) (hr : r = natS n) : AE.ACall Tryz.prog 71 [] [.v (.int .i64 n)] [] (.v (.string r)) := by
  refine AE.ACall.of_walk (fn := Tryz.f71) (c := bodyOf Tryz.f71) tabOK Tryz.func71 rfl rfl mixed fun A hA X => ?_
  obtain ⟨u0, hu0⟩ : ∃ u0 : Nat, u0 = (n % 2 ^ 64).toNat := ⟨_, rfl⟩
  obtain ⟨fin, hfin⟩ : ∃ fin, fin = natL u0 := ⟨_, rfl⟩
  have hfin' : r = S fin := by rw [hr, natS, intL, ← hu0, ← hfin]
  have hu0' : A.conv .u64 n = u0 := by
    subst hA; simp only [AE.std, AE.wrap_u64]; omega
  have hu0l : u0 < 2 ^ 64 := by omega
  have hfl := natL_len u0 hu0l
  rw [← hfin] at hfl
  (refine X.go 500 _ _ ?_; cbv)
  refine X.carries (ι := { p : Nat × List UInt8 // p.1 < 2 ^ 64 ∧ p.2 ++ natL p.1 = fin }) (fun p => [(4, .v (.int .u64 p.1.1)), (3, .v (.string (S p.1.2)))]) (fun p => []) (fun p => p.1.1) ⟨(u0, []), hu0l, by rw [hfin]; rfl⟩ ?_ fun i B hB => ?_
  · cbv <;> ((repeat' apply And.intro) <;> try first | rfl | trivial | exact hu0' | exact (show (⟨#[]⟩ : ByteArray) = S [] by rw [S_eq]))
  · obtain ⟨⟨u, pre⟩, hi1, hi⟩ := i
    simp only at hi1 hi
    obtain ⟨sp, hsp⟩ : ∃ sp, sp = S pre := ⟨_, rfl⟩
    obtain ⟨zu, hzu⟩ : ∃ z : Int, z = (u : Int) := ⟨_, rfl⟩
    simp only [← hsp, ← hzu]
    have hfl2 : fin.length = pre.length + (natL u).length := by rw [← hi]; simp
    have hfit : ∀ b : UInt8, AE.SFit (A.slen sp) (A.slen (S [b])) := by
      intro b; subst hA; constructor; simp only [AE.std, hsp, S_size, List.length_singleton]; omega
    by_cases hlt : u < 128
    · have c1 : A.cmp .lss zu 128 = true := ltT hA hzu (b := 128) rfl hlt
      obtain ⟨sb, hsb⟩ : ∃ sb, sb = S [UInt8.ofNat u] := ⟨_, rfl⟩
      have hf2 := hfit (UInt8.ofNat u)
      rw [← hsb] at hf2
      have e0 : [[AE.AV.v (.int .u8 (A.conv .u8 zu))]] = AE.sbytes sb := by
        rw [hsb, S_bytes, hzu]; subst hA
        simp only [AE.std, AE.wrap_u8, bl_eq, List.map_cons, List.map_nil]
        congr 5
      have e1 : A.cat sp sb = r := by
        subst hA; rw [hfin', hsb, hsp, ← hi]
        show S pre ++ S [UInt8.ofNat u] = _
        rw [S_app]
        conv => rhs; unfold natL
        rw [dif_pos hlt]
      clear hB
      (repeat' (first | (refine X.go 500 _ _ ?_; cbv) | (first | refine X.splitT ?_ | refine X.splitF ?_ | refine X.split _ _ _ _ _ (fun hc => ?_) (fun hc => ?_)) | refine X.need _ _ _ trivial ?_ | refine X.str _ _ _ _ sb e0 ?_ | refine X.need _ _ _ hf2 ?_ | fail))
      all_goals (refine X.ret _ (X.done rfl ?_); cbv <;> ((repeat' apply And.intro) <;> first | exact e1 | rfl | trivial))
    · have c1 : A.cmp .lss zu 128 = false := ltF hA hzu (b := 128) rfl hlt
      obtain ⟨sb, hsb⟩ : ∃ sb, sb = S [UInt8.ofNat (u % 128 + 128)] := ⟨_, rfl⟩
      have hf2 := hfit (UInt8.ofNat (u % 128 + 128))
      rw [← hsb] at hf2
      have e0 : [[AE.AV.v (.int .u8 (A.conv .u8 (A.bin .or .u64 (A.bin .and .u64 zu 127) 128)))]] = AE.sbytes sb := by
        rw [hsb, S_bytes, hzu]
        have e1 : A.bin .and .u64 (u : Int) 127 = ((u % 128 : Nat) : Int) := by subst hA; exact std_and127 u hi1
        have e2 : A.bin .or .u64 ((u % 128 : Nat) : Int) 128 = ((u % 128 + 128 : Nat) : Int) := by subst hA; exact std_or128 _ (by omega)
        rw [e1, e2]
        subst hA
        simp only [AE.std, AE.wrap_u8, bl_eq, List.map_cons, List.map_nil]
        congr 5
      have e1 : A.cat sp sb = S (pre ++ [UInt8.ofNat (u % 128 + 128)]) := by subst hA; rw [hsb, hsp, ← S_app]; rfl
      have e2 : A.bin .shr .u64 zu 7 = ((u / 128 : Nat) : Int) := shrU hA hzu (y := 7) (b := 7) rfl (by decide)
      (repeat' (first | (refine X.go 500 _ _ ?_; cbv) | (first | refine X.splitT ?_ | refine X.splitF ?_ | refine X.split _ _ _ _ _ (fun hc => ?_) (fun hc => ?_)) | refine X.need _ _ _ trivial ?_ | refine X.str _ _ _ _ sb e0 ?_ | refine X.need _ _ _ hf2 ?_ | fail))
      all_goals (refine hB ⟨(u / 128, pre ++ [UInt8.ofNat (u % 128 + 128)]), by show u / 128 < 2 ^ 64; omega, ?_⟩ _ (by show u / 128 < u; omega) ?_)
      · rw [← hi]; conv => rhs; unfold natL
        rw [dif_neg (by omega)]; simp
      · obtain ⟨r1, hr1⟩ : ∃ r1, r1 = S (pre ++ [UInt8.ofNat (u % 128 + 128)]) := ⟨_, rfl⟩
        obtain ⟨u1, hu1⟩ : ∃ u1 : Int, u1 = ((u / 128 : Nat) : Int) := ⟨_, rfl⟩
        have e3 : A.bin .shr .u64 zu 7 = u1 := e2.trans hu1.symm
        simp only [← hr1, ← hu1]
        rw [← hr1] at e1
        clear hB
        (cbv <;> ((repeat' apply And.intro) <;> first | exact e1 | exact e3 | rfl | trivial))
def boolS (b : Bool) : ByteArray := if b then ⟨⟨[1]⟩⟩ else ⟨⟨[0]⟩⟩
theorem boolS_size (b : Bool) : (boolS b).size = 1 := by cases b <;> rfl
theorem refTruth_ok (b : Bool) (r : ByteArray) (hr : r = boolS b) : AE.ACall Tryz.prog 143 [] [.b b] [] (.v (.string r)) := by
  refine AE.ACall.of_walk (fn := Tryz.f143) (c := bodyOf Tryz.f143) tabOK Tryz.func143 rfl rfl mixed fun A hA X => ?_
  cases b
  · have e1 : (⟨⟨[0]⟩⟩ : ByteArray) = r := by rw [hr]; rfl
    (repeat' (first | (refine X.go 500 _ _ ?_; cbv) | (first | refine X.splitT ?_ | refine X.splitF ?_ | refine X.split _ _ _ _ _ (fun hc => ?_) (fun hc => ?_)) | refine X.need _ _ _ trivial ?_ | fail))
    all_goals (refine X.ret _ (X.done rfl ?_); cbv <;> ((repeat' apply And.intro) <;> first | exact e1 | rfl | trivial))
  · have e1 : (⟨⟨[1]⟩⟩ : ByteArray) = r := by rw [hr]; rfl
    (repeat' (first | (refine X.go 500 _ _ ?_; cbv) | (first | refine X.splitT ?_ | refine X.splitF ?_ | refine X.split _ _ _ _ _ (fun hc => ?_) (fun hc => ?_)) | refine X.need _ _ _ trivial ?_ | fail))
    all_goals (refine X.ret _ (X.done rfl ?_); cbv <;> ((repeat' apply And.intro) <;> first | exact e1 | rfl | trivial))
theorem catS {A : AE.Ari} (hA : A = AE.std) (s t : ByteArray) : A.cat s t = s ++ t := by subst hA; rfl
theorem fitS {A : AE.Ari} (hA : A = AE.std) {s t : ByteArray} {n : Nat} (hn : n < 2 ^ 60) (h : (s ++ t).size ≤ n) : AE.SFit (A.slen s) (A.slen t) := by
  rw [slen hA, slen hA]; rw [ba_size] at h; constructor; omega
noncomputable def textS (s : ByteArray) : ByteArray := natS s.size ++ s
set_option maxRecDepth 100000 in
set_option maxHeartbeats 0 in
theorem refText_ok (s r : ByteArray) (hr : r = textS s) (hs : r.size < 2 ^ 60) : AE.ACall Tryz.prog 55 [] [.v (.string s)] [] (.v (.string r)) := by
  refine AE.ACall.of_walk (fn := Tryz.f55) (c := bodyOf Tryz.f55) tabOK Tryz.func55 rfl rfl mixed fun A hA X => ?_
  obtain ⟨r1, hr1⟩ : ∃ r, r = natS s.size := ⟨_, rfl⟩
  rw [textS, ← hr1] at hr
  have k1 := refNat_ok (A.slen s) r1 (by rw [slen hA]; exact hr1)
  have hf := fitS hA (s := r1) (t := s) (n := 2 ^ 60 - 1) (by decide) (by rw [← hr]; omega)
  have e1 : A.cat r1 s = r := by rw [catS hA, hr]
  (repeat' (first | (refine X.go 500 _ _ ?_; cbv) | (first | refine X.splitT ?_ | refine X.splitF ?_ | refine X.split _ _ _ _ _ (fun hc => ?_) (fun hc => ?_)) | refine X.need _ _ _ trivial ?_ | refine X.callsA [] k1 ?_ | refine X.need _ _ _ hf ?_ | fail))
  all_goals (refine X.ret _ (X.done rfl ?_); cbv <;> ((repeat' apply And.intro) <;> first | exact e1 | rfl | trivial))
noncomputable def Q.S (q : Q) : ByteArray := boolS q.neg ++ textS q.num ++ textS q.den
set_option maxRecDepth 100000 in
set_option maxHeartbeats 0 in
theorem refNumber_ok (q : Q) (r : ByteArray) (hr : r = Q.S q) (hs : r.size < 2 ^ 60) : AE.ACall Tryz.prog 51 [] [.a q.c] [] (.v (.string r)) := by
  refine AE.ACall.of_walk (fn := Tryz.f51) (c := bodyOf Tryz.f51) tabOK Tryz.func51 rfl rfl mixed fun A hA X => ?_
  obtain ⟨r1, hr1⟩ : ∃ r, r = boolS q.neg := ⟨_, rfl⟩
  obtain ⟨r2, hr2⟩ : ∃ r, r = textS q.num := ⟨_, rfl⟩
  obtain ⟨r3, hr3⟩ : ∃ r, r = textS q.den := ⟨_, rfl⟩
  have hr0 : r = r1 ++ r2 ++ r3 := by rw [hr, hr1, hr2, hr3] <;> rfl
  have hz := hs
  rw [hr0] at hz
  simp only [ba_size] at hz
  have k1 := refTruth_ok q.neg r1 hr1
  have k2 := refText_ok q.num r2 hr2 (by omega)
  have k3 := refText_ok q.den r3 hr3 (by omega)
  have f2 := fitS hA (s := r1) (t := r2) (n := 2 ^ 60 - 1) (by decide) (by simp only [ba_size]; omega)
  have e2 : A.cat (r1) r2 = r1 ++ r2 := catS hA _ _
  have f3 := fitS hA (s := (r1 ++ r2)) (t := r3) (n := 2 ^ 60 - 1) (by decide) (by simp only [ba_size]; omega)
  have e3 : A.cat ((r1 ++ r2)) r3 = (r1 ++ r2) ++ r3 := catS hA _ _
  have g2 : AE.SFit (A.slen r1) (A.slen r2) := by first | exact f2 | (simp only [catS hA]; exact f2)
  have g3 : AE.SFit (A.slen (A.cat r1 r2)) (A.slen r3) := by first | exact f3 | (simp only [catS hA]; exact f3)
  have efin : (A.cat (A.cat r1 r2) r3) = r := by simp only [catS hA]; exact hr0.symm
  (refine X.go 500 _ _ ?_; cbv)
  refine X.drawX _ _ _ (by kernel_rfl) (X.frzB 0 _ _ (Nat.zero_le _) ?_)
  (repeat' (first | (refine X.go 500 _ _ ?_; cbv) | (first | refine X.splitT ?_ | refine X.splitF ?_ | refine X.split _ _ _ _ _ (fun hc => ?_) (fun hc => ?_)) | refine X.need _ _ _ trivial ?_ | refine X.callsA [] k1 ?_ | refine X.callsA [] k2 ?_ | refine X.callsA [] k3 ?_ | refine X.need _ _ _ g2 ?_ | refine X.need _ _ _ g3 ?_ | fail))
  all_goals (refine X.ret _ (X.done rfl ?_); cbv <;> ((repeat' apply And.intro) <;> first | exact efin | rfl | trivial))
noncomputable def V2.S (p : V2) : ByteArray := p.x.S ++ p.y.S
set_option maxRecDepth 100000 in
set_option maxHeartbeats 0 in
theorem refPoint_ok (p : V2) (r : ByteArray) (hr : r = V2.S p) (hs : r.size < 2 ^ 60) : AE.ACall Tryz.prog 65 [] [.a p.c] [] (.v (.string r)) := by
  refine AE.ACall.of_walk (fn := Tryz.f65) (c := bodyOf Tryz.f65) tabOK Tryz.func65 rfl rfl mixed fun A hA X => ?_
  obtain ⟨r1, hr1⟩ : ∃ r, r = p.x.S := ⟨_, rfl⟩
  obtain ⟨r2, hr2⟩ : ∃ r, r = p.y.S := ⟨_, rfl⟩
  have hr0 : r = r1 ++ r2 := by rw [hr, hr1, hr2] <;> rfl
  have hz := hs
  rw [hr0] at hz
  simp only [ba_size] at hz
  have k1 := refNumber_ok p.x r1 hr1 (by omega)
  have k2 := refNumber_ok p.y r2 hr2 (by omega)
  have f2 := fitS hA (s := r1) (t := r2) (n := 2 ^ 60 - 1) (by decide) (by simp only [ba_size]; omega)
  have e2 : A.cat (r1) r2 = r1 ++ r2 := catS hA _ _
  have g2 : AE.SFit (A.slen r1) (A.slen r2) := by first | exact f2 | (simp only [catS hA]; exact f2)
  have efin : (A.cat r1 r2) = r := by simp only [catS hA]; exact hr0.symm
  (refine X.go 500 _ _ ?_; cbv)
  refine X.drawX _ _ _ (by kernel_rfl) (X.frzB 0 _ _ (Nat.zero_le _) ?_)
  (repeat' (first | (refine X.go 500 _ _ ?_; cbv) | (first | refine X.splitT ?_ | refine X.splitF ?_ | refine X.split _ _ _ _ _ (fun hc => ?_) (fun hc => ?_)) | refine X.need _ _ _ trivial ?_ | refine X.callsA [] k1 ?_ | refine X.callsA [] k2 ?_ | refine X.need _ _ _ g2 ?_ | fail))
  all_goals (refine X.ret _ (X.done rfl ?_); cbv <;> ((repeat' apply And.intro) <;> first | exact efin | rfl | trivial))
noncomputable def Fr.S (p : Fr) : ByteArray := p.at_.S ++ boolS p.turn.half ++ p.turn.t.S
set_option maxRecDepth 100000 in
set_option maxHeartbeats 0 in
theorem refPlaced_ok (p : Fr) (r : ByteArray) (hr : r = Fr.S p) (hs : r.size < 2 ^ 60) : AE.ACall Tryz.prog 56 [] [.a p.c] [] (.v (.string r)) := by
  refine AE.ACall.of_walk (fn := Tryz.f56) (c := bodyOf Tryz.f56) tabOK Tryz.func56 rfl rfl mixed fun A hA X => ?_
  obtain ⟨r1, hr1⟩ : ∃ r, r = p.at_.S := ⟨_, rfl⟩
  obtain ⟨r2, hr2⟩ : ∃ r, r = boolS p.turn.half := ⟨_, rfl⟩
  obtain ⟨r3, hr3⟩ : ∃ r, r = p.turn.t.S := ⟨_, rfl⟩
  have hr0 : r = r1 ++ r2 ++ r3 := by rw [hr, hr1, hr2, hr3] <;> rfl
  have hz := hs
  rw [hr0] at hz
  simp only [ba_size] at hz
  have k1 := refPoint_ok p.at_ r1 hr1 (by omega)
  have k2 := refTruth_ok p.turn.half r2 hr2
  have k3 := refNumber_ok p.turn.t r3 hr3 (by omega)
  have f2 := fitS hA (s := r1) (t := r2) (n := 2 ^ 60 - 1) (by decide) (by simp only [ba_size]; omega)
  have e2 : A.cat (r1) r2 = r1 ++ r2 := catS hA _ _
  have f3 := fitS hA (s := (r1 ++ r2)) (t := r3) (n := 2 ^ 60 - 1) (by decide) (by simp only [ba_size]; omega)
  have e3 : A.cat ((r1 ++ r2)) r3 = (r1 ++ r2) ++ r3 := catS hA _ _
  have g2 : AE.SFit (A.slen r1) (A.slen r2) := by first | exact f2 | (simp only [catS hA]; exact f2)
  have g3 : AE.SFit (A.slen (A.cat r1 r2)) (A.slen r3) := by first | exact f3 | (simp only [catS hA]; exact f3)
  have efin : (A.cat (A.cat r1 r2) r3) = r := by simp only [catS hA]; exact hr0.symm
  (refine X.go 500 _ _ ?_; cbv)
  refine X.drawX _ _ _ (by kernel_rfl) (X.frzB 0 _ _ (Nat.zero_le _) ?_)
  (repeat' (first | (refine X.go 500 _ _ ?_; cbv) | (first | refine X.splitT ?_ | refine X.splitF ?_ | refine X.split _ _ _ _ _ (fun hc => ?_) (fun hc => ?_)) | refine X.need _ _ _ trivial ?_ | refine X.callsA [] k1 ?_ | refine X.callsA [] k2 ?_ | refine X.callsA [] k3 ?_ | refine X.need _ _ _ g2 ?_ | refine X.need _ _ _ g3 ?_ | fail))
  all_goals (refine X.ret _ (X.done rfl ?_); cbv <;> ((repeat' apply And.intro) <;> first | exact efin | rfl | trivial))
noncomputable def upS {α : Type} (f : α → ByteArray) (l : List α) (i : Nat) : ByteArray := (l.take i).foldl (fun acc x => acc ++ f x) (natS l.length)
noncomputable def lsS {α : Type} (f : α → ByteArray) (l : List α) : ByteArray := upS f l l.length
theorem upS_succ {α : Type} {f : α → ByteArray} {l : List α} {i : Nat} {y : α} (h : l[i]? = some y) : upS f l (i + 1) = upS f l i ++ f y := by
  rw [upS, take_snoc h, List.foldl_append]; rfl
theorem foldS_le {α : Type} (f : α → ByteArray) : ∀ (l : List α) (a : ByteArray), a.size ≤ (l.foldl (fun acc x => acc ++ f x) a).size
  | [], a => Nat.le_refl _
  | x :: l, a => Nat.le_trans (by rw [ba_size]; omega) (foldS_le f l (a ++ f x))
theorem upS_le {α : Type} (f : α → ByteArray) (l : List α) (i : Nat) : (upS f l i).size ≤ (lsS f l).size := by
  have : lsS f l = (l.drop i).foldl (fun acc x => acc ++ f x) (upS f l i) := by
    rw [lsS, upS, upS, ← List.foldl_append, List.take_append_drop, List.take_length]
  rw [this]; exact foldS_le f _ _
theorem elS_le {α : Type} {f : α → ByteArray} {l : List α} {i : Nat} {y : α} (h : l[i]? = some y) : (f y).size ≤ (lsS f l).size := by
  have := upS_le f l (i + 1)
  rw [upS_succ h, ba_size] at this; omega
set_option maxRecDepth 100000 in
set_option maxHeartbeats 0 in
theorem lstRat_ok (l : List Q) (hl : l.length < 2 ^ 40) (es : List (List AE.AV)) (hes : es = lsAv Q.c l) (fn : Nat) (f : Q → ByteArray) (r : ByteArray) (hr : r = lsS f l) (hs : r.size < 2 ^ 60) (each : ∀ y ∈ l, ∀ r, r = f y → r.size < 2 ^ 60 → AE.ACall Tryz.prog (fn % 1000000) [] [.a y.c] [] (.v (.string r))) : AE.ACall Tryz.prog 72 [] [.l 3 es, .f fn []] [] (.v (.string r)) := by
  refine AE.ACall.of_walk (fn := Tryz.f72) (c := bodyOf Tryz.f72) tabOK Tryz.func72 rfl rfl mixed fun A hA X => ?_
  obtain ⟨r0, hr0⟩ : ∃ r, r = natS l.length := ⟨_, rfl⟩
  have k0 := refNat_ok (A.llen es) r0 (by rw [llen hA, hes, lsAv_len]; exact hr0)
  obtain ⟨g, hg⟩ : ∃ g : Nat → ByteArray, ∀ i, g i = upS f l i := ⟨_, fun _ => rfl⟩
  have h00 : r0 = g 0 := by rw [hr0, hg]; rfl
  rw [hr] at hs
  (repeat' (first | (refine X.go 500 _ _ ?_; cbv) | (first | refine X.splitT ?_ | refine X.splitF ?_ | refine X.split _ _ _ _ _ (fun hc => ?_) (fun hc => ?_)) | refine X.need _ _ _ trivial ?_ | refine X.callsA [] k0 ?_ | fail))
  refine rangeL0 X hA hes (by omega) (fun _ => True) (fun z i => [(13, .v (.int .i64 z)), (5, .v (.string (g i)))]) trivial ?_ (fun i z y hz hy he c3 hI B hB => ?_) (fun z c3 hI B => ?_)
  · (cbv <;> ((repeat' apply And.intro) <;> first | exact h00 | rfl | trivial))
  · obtain ⟨ry, hry⟩ : ∃ r, r = f y := ⟨_, rfl⟩
    have hle := elS_le (f := f) hy
    have hle2 := upS_le f l (i + 1)
    rw [upS_succ hy, ← hg, ← hry] at hle2
    rw [← hry] at hle
    have k1 := each y (List.mem_of_getElem? hy) ry hry (by omega)
    have hf := fitS hA (s := g i) (t := ry) (n := 2 ^ 60 - 1) (by decide) (by omega)
    have e1 : A.cat (g i) ry = g (i + 1) := by rw [catS hA, hg (i + 1), upS_succ hy, ← hg, ← hry]
    clear each k0
    (repeat' (first | (refine X.go 500 _ _ ?_; cbv) | (first | refine X.splitT ?_ | refine X.splitF ?_ | refine X.split _ _ _ _ _ (fun hc => ?_) (fun hc => ?_)) | refine X.need _ _ _ trivial ?_ | refine X.idx _ _ _ _ _ _ _ _ he hz ?_ | refine X.callsA [] k1 ?_ | refine X.need _ _ _ hf ?_ | fail))
    all_goals (refine hB trivial _ ?_; clear hB; (cbv <;> ((repeat' apply And.intro) <;> first | exact e1 | rfl | trivial)))
  · have e1 : g l.length = r := by rw [hg, hr]; rfl
    clear each
    (repeat' (first | (refine X.go 500 _ _ ?_; cbv) | (first | refine X.splitT ?_ | refine X.splitF ?_ | refine X.split _ _ _ _ _ (fun hc => ?_) (fun hc => ?_)) | refine X.need _ _ _ trivial ?_ | fail))
    all_goals (refine X.ret _ (X.done rfl ?_); cbv <;> ((repeat' apply And.intro) <;> first | exact e1 | rfl | trivial))
set_option maxRecDepth 100000 in
set_option maxHeartbeats 0 in
theorem lstVec_ok (l : List V2) (hl : l.length < 2 ^ 40) (es : List (List AE.AV)) (hes : es = lsAv V2.c l) (fn : Nat) (f : V2 → ByteArray) (r : ByteArray) (hr : r = lsS f l) (hs : r.size < 2 ^ 60) (each : ∀ y ∈ l, ∀ r, r = f y → r.size < 2 ^ 60 → AE.ACall Tryz.prog (fn % 1000000) [] [.a y.c] [] (.v (.string r))) : AE.ACall Tryz.prog 144 [] [.l 6 es, .f fn []] [] (.v (.string r)) := by
  refine AE.ACall.of_walk (fn := Tryz.f144) (c := bodyOf Tryz.f144) tabOK Tryz.func144 rfl rfl mixed fun A hA X => ?_
  obtain ⟨r0, hr0⟩ : ∃ r, r = natS l.length := ⟨_, rfl⟩
  have k0 := refNat_ok (A.llen es) r0 (by rw [llen hA, hes, lsAv_len]; exact hr0)
  obtain ⟨g, hg⟩ : ∃ g : Nat → ByteArray, ∀ i, g i = upS f l i := ⟨_, fun _ => rfl⟩
  have h00 : r0 = g 0 := by rw [hr0, hg]; rfl
  rw [hr] at hs
  (repeat' (first | (refine X.go 500 _ _ ?_; cbv) | (first | refine X.splitT ?_ | refine X.splitF ?_ | refine X.split _ _ _ _ _ (fun hc => ?_) (fun hc => ?_)) | refine X.need _ _ _ trivial ?_ | refine X.callsA [] k0 ?_ | fail))
  refine rangeL0 X hA hes (by omega) (fun _ => True) (fun z i => [(13, .v (.int .i64 z)), (5, .v (.string (g i)))]) trivial ?_ (fun i z y hz hy he c3 hI B hB => ?_) (fun z c3 hI B => ?_)
  · (cbv <;> ((repeat' apply And.intro) <;> first | exact h00 | rfl | trivial))
  · obtain ⟨ry, hry⟩ : ∃ r, r = f y := ⟨_, rfl⟩
    have hle := elS_le (f := f) hy
    have hle2 := upS_le f l (i + 1)
    rw [upS_succ hy, ← hg, ← hry] at hle2
    rw [← hry] at hle
    have k1 := each y (List.mem_of_getElem? hy) ry hry (by omega)
    have hf := fitS hA (s := g i) (t := ry) (n := 2 ^ 60 - 1) (by decide) (by omega)
    have e1 : A.cat (g i) ry = g (i + 1) := by rw [catS hA, hg (i + 1), upS_succ hy, ← hg, ← hry]
    clear each k0
    (repeat' (first | (refine X.go 500 _ _ ?_; cbv) | (first | refine X.splitT ?_ | refine X.splitF ?_ | refine X.split _ _ _ _ _ (fun hc => ?_) (fun hc => ?_)) | refine X.need _ _ _ trivial ?_ | refine X.idx _ _ _ _ _ _ _ _ he hz ?_ | refine X.callsA [] k1 ?_ | refine X.need _ _ _ hf ?_ | fail))
    all_goals (refine hB trivial _ ?_; clear hB; (cbv <;> ((repeat' apply And.intro) <;> first | exact e1 | rfl | trivial)))
  · have e1 : g l.length = r := by rw [hg, hr]; rfl
    clear each
    (repeat' (first | (refine X.go 500 _ _ ?_; cbv) | (first | refine X.splitT ?_ | refine X.splitF ?_ | refine X.split _ _ _ _ _ (fun hc => ?_) (fun hc => ?_)) | refine X.need _ _ _ trivial ?_ | fail))
    all_goals (refine X.ret _ (X.done rfl ?_); cbv <;> ((repeat' apply And.intro) <;> first | exact e1 | rfl | trivial))
set_option maxRecDepth 100000 in
set_option maxHeartbeats 0 in
theorem lstFrame_ok (l : List Fr) (hl : l.length < 2 ^ 40) (es : List (List AE.AV)) (hes : es = lsAv Fr.c l) (fn : Nat) (f : Fr → ByteArray) (r : ByteArray) (hr : r = lsS f l) (hs : r.size < 2 ^ 60) (each : ∀ y ∈ l, ∀ r, r = f y → r.size < 2 ^ 60 → AE.ACall Tryz.prog (fn % 1000000) [] [.a y.c] [] (.v (.string r))) : AE.ACall Tryz.prog 147 [] [.l 10 es, .f fn []] [] (.v (.string r)) := by
  refine AE.ACall.of_walk (fn := Tryz.f147) (c := bodyOf Tryz.f147) tabOK Tryz.func147 rfl rfl mixed fun A hA X => ?_
  obtain ⟨r0, hr0⟩ : ∃ r, r = natS l.length := ⟨_, rfl⟩
  have k0 := refNat_ok (A.llen es) r0 (by rw [llen hA, hes, lsAv_len]; exact hr0)
  obtain ⟨g, hg⟩ : ∃ g : Nat → ByteArray, ∀ i, g i = upS f l i := ⟨_, fun _ => rfl⟩
  have h00 : r0 = g 0 := by rw [hr0, hg]; rfl
  rw [hr] at hs
  (repeat' (first | (refine X.go 500 _ _ ?_; cbv) | (first | refine X.splitT ?_ | refine X.splitF ?_ | refine X.split _ _ _ _ _ (fun hc => ?_) (fun hc => ?_)) | refine X.need _ _ _ trivial ?_ | refine X.callsA [] k0 ?_ | fail))
  refine rangeL0 X hA hes (by omega) (fun _ => True) (fun z i => [(13, .v (.int .i64 z)), (5, .v (.string (g i)))]) trivial ?_ (fun i z y hz hy he c3 hI B hB => ?_) (fun z c3 hI B => ?_)
  · (cbv <;> ((repeat' apply And.intro) <;> first | exact h00 | rfl | trivial))
  · obtain ⟨ry, hry⟩ : ∃ r, r = f y := ⟨_, rfl⟩
    have hle := elS_le (f := f) hy
    have hle2 := upS_le f l (i + 1)
    rw [upS_succ hy, ← hg, ← hry] at hle2
    rw [← hry] at hle
    have k1 := each y (List.mem_of_getElem? hy) ry hry (by omega)
    have hf := fitS hA (s := g i) (t := ry) (n := 2 ^ 60 - 1) (by decide) (by omega)
    have e1 : A.cat (g i) ry = g (i + 1) := by rw [catS hA, hg (i + 1), upS_succ hy, ← hg, ← hry]
    clear each k0
    (repeat' (first | (refine X.go 500 _ _ ?_; cbv) | (first | refine X.splitT ?_ | refine X.splitF ?_ | refine X.split _ _ _ _ _ (fun hc => ?_) (fun hc => ?_)) | refine X.need _ _ _ trivial ?_ | refine X.idx _ _ _ _ _ _ _ _ he hz ?_ | refine X.callsA [] k1 ?_ | refine X.need _ _ _ hf ?_ | fail))
    all_goals (refine hB trivial _ ?_; clear hB; (cbv <;> ((repeat' apply And.intro) <;> first | exact e1 | rfl | trivial)))
  · have e1 : g l.length = r := by rw [hg, hr]; rfl
    clear each
    (repeat' (first | (refine X.go 500 _ _ ?_; cbv) | (first | refine X.splitT ?_ | refine X.splitF ?_ | refine X.split _ _ _ _ _ (fun hc => ?_) (fun hc => ?_)) | refine X.need _ _ _ trivial ?_ | fail))
    all_goals (refine X.ret _ (X.done rfl ?_); cbv <;> ((repeat' apply And.intro) <;> first | exact e1 | rfl | trivial))
set_option maxRecDepth 100000 in
set_option maxHeartbeats 0 in
theorem lstBool_ok (l : List Bool) (hl : l.length < 2 ^ 40) (es : List (List AE.AV)) (hes : es = lsAv boolC l) (fn : Nat) (f : Bool → ByteArray) (r : ByteArray) (hr : r = lsS f l) (hs : r.size < 2 ^ 60) (each : ∀ y ∈ l, ∀ r, r = f y → r.size < 2 ^ 60 → AE.ACall Tryz.prog (fn % 1000000) [] [.b y] [] (.v (.string r))) : AE.ACall Tryz.prog 148 [] [.l 1 es, .f fn []] [] (.v (.string r)) := by
  refine AE.ACall.of_walk (fn := Tryz.f148) (c := bodyOf Tryz.f148) tabOK Tryz.func148 rfl rfl mixed fun A hA X => ?_
  obtain ⟨r0, hr0⟩ : ∃ r, r = natS l.length := ⟨_, rfl⟩
  have k0 := refNat_ok (A.llen es) r0 (by rw [llen hA, hes, lsAv_len]; exact hr0)
  obtain ⟨g, hg⟩ : ∃ g : Nat → ByteArray, ∀ i, g i = upS f l i := ⟨_, fun _ => rfl⟩
  have h00 : r0 = g 0 := by rw [hr0, hg]; rfl
  rw [hr] at hs
  (repeat' (first | (refine X.go 500 _ _ ?_; cbv) | (first | refine X.splitT ?_ | refine X.splitF ?_ | refine X.split _ _ _ _ _ (fun hc => ?_) (fun hc => ?_)) | refine X.need _ _ _ trivial ?_ | refine X.callsA [] k0 ?_ | fail))
  refine rangeL0 X hA hes (by omega) (fun _ => True) (fun z i => [(13, .v (.int .i64 z)), (5, .v (.string (g i)))]) trivial ?_ (fun i z y hz hy he c3 hI B hB => ?_) (fun z c3 hI B => ?_)
  · (cbv <;> ((repeat' apply And.intro) <;> first | exact h00 | rfl | trivial))
  · obtain ⟨ry, hry⟩ : ∃ r, r = f y := ⟨_, rfl⟩
    have hle := elS_le (f := f) hy
    have hle2 := upS_le f l (i + 1)
    rw [upS_succ hy, ← hg, ← hry] at hle2
    rw [← hry] at hle
    have k1 := each y (List.mem_of_getElem? hy) ry hry (by omega)
    have hf := fitS hA (s := g i) (t := ry) (n := 2 ^ 60 - 1) (by decide) (by omega)
    have e1 : A.cat (g i) ry = g (i + 1) := by rw [catS hA, hg (i + 1), upS_succ hy, ← hg, ← hry]
    clear each k0
    (repeat' (first | (refine X.go 500 _ _ ?_; cbv) | (first | refine X.splitT ?_ | refine X.splitF ?_ | refine X.split _ _ _ _ _ (fun hc => ?_) (fun hc => ?_)) | refine X.need _ _ _ trivial ?_ | refine X.idx _ _ _ _ _ _ _ _ he hz ?_ | refine X.callsA [] k1 ?_ | refine X.need _ _ _ hf ?_ | fail))
    all_goals (refine hB trivial _ ?_; clear hB; (cbv <;> ((repeat' apply And.intro) <;> first | exact e1 | rfl | trivial)))
  · have e1 : g l.length = r := by rw [hg, hr]; rfl
    clear each
    (repeat' (first | (refine X.go 500 _ _ ?_; cbv) | (first | refine X.splitT ?_ | refine X.splitF ?_ | refine X.split _ _ _ _ _ (fun hc => ?_) (fun hc => ?_)) | refine X.need _ _ _ trivial ?_ | fail))
    all_goals (refine X.ret _ (X.done rfl ?_); cbv <;> ((repeat' apply And.intro) <;> first | exact e1 | rfl | trivial))
set_option maxRecDepth 100000 in
set_option maxHeartbeats 0 in
theorem lstWall_ok (l : List (List V2)) (hl : l.length < 2 ^ 40) (es : List (List AE.AV)) (hes : es = lsAv wallC l) (fn : Nat) (f : (List V2) → ByteArray) (r : ByteArray) (hr : r = lsS f l) (hs : r.size < 2 ^ 60) (each : ∀ y ∈ l, ∀ r, r = f y → r.size < 2 ^ 60 → AE.ACall Tryz.prog (fn % 1000000) [] [.l 6 (lsAv V2.c y)] [] (.v (.string r))) : AE.ACall Tryz.prog 58 [] [.l 1 es, .f fn []] [] (.v (.string r)) := by
  refine AE.ACall.of_walk (fn := Tryz.f58) (c := bodyOf Tryz.f58) tabOK Tryz.func58 rfl rfl mixed fun A hA X => ?_
  obtain ⟨r0, hr0⟩ : ∃ r, r = natS l.length := ⟨_, rfl⟩
  have k0 := refNat_ok (A.llen es) r0 (by rw [llen hA, hes, lsAv_len]; exact hr0)
  obtain ⟨g, hg⟩ : ∃ g : Nat → ByteArray, ∀ i, g i = upS f l i := ⟨_, fun _ => rfl⟩
  have h00 : r0 = g 0 := by rw [hr0, hg]; rfl
  rw [hr] at hs
  (repeat' (first | (refine X.go 500 _ _ ?_; cbv) | (first | refine X.splitT ?_ | refine X.splitF ?_ | refine X.split _ _ _ _ _ (fun hc => ?_) (fun hc => ?_)) | refine X.need _ _ _ trivial ?_ | refine X.callsA [] k0 ?_ | fail))
  refine rangeL0 X hA hes (by omega) (fun _ => True) (fun z i => [(13, .v (.int .i64 z)), (5, .v (.string (g i)))]) trivial ?_ (fun i z y hz hy he c3 hI B hB => ?_) (fun z c3 hI B => ?_)
  · (cbv <;> ((repeat' apply And.intro) <;> first | exact h00 | rfl | trivial))
  · obtain ⟨ry, hry⟩ : ∃ r, r = f y := ⟨_, rfl⟩
    have hle := elS_le (f := f) hy
    have hle2 := upS_le f l (i + 1)
    rw [upS_succ hy, ← hg, ← hry] at hle2
    rw [← hry] at hle
    have k1 := each y (List.mem_of_getElem? hy) ry hry (by omega)
    have hf := fitS hA (s := g i) (t := ry) (n := 2 ^ 60 - 1) (by decide) (by omega)
    have e1 : A.cat (g i) ry = g (i + 1) := by rw [catS hA, hg (i + 1), upS_succ hy, ← hg, ← hry]
    clear each k0
    (repeat' (first | (refine X.go 500 _ _ ?_; cbv) | (first | refine X.splitT ?_ | refine X.splitF ?_ | refine X.split _ _ _ _ _ (fun hc => ?_) (fun hc => ?_)) | refine X.need _ _ _ trivial ?_ | refine X.idx _ _ _ _ _ _ _ _ he hz ?_ | refine X.callsA [] k1 ?_ | refine X.need _ _ _ hf ?_ | fail))
    all_goals (refine hB trivial _ ?_; clear hB; (cbv <;> ((repeat' apply And.intro) <;> first | exact e1 | rfl | trivial)))
  · have e1 : g l.length = r := by rw [hg, hr]; rfl
    clear each
    (repeat' (first | (refine X.go 500 _ _ ?_; cbv) | (first | refine X.splitT ?_ | refine X.splitF ?_ | refine X.split _ _ _ _ _ (fun hc => ?_) (fun hc => ?_)) | refine X.need _ _ _ trivial ?_ | fail))
    all_goals (refine X.ret _ (X.done rfl ?_); cbv <;> ((repeat' apply And.intro) <;> first | exact e1 | rfl | trivial))
theorem refPoly_ok (l : List V2) (hl : l.length < 2 ^ 40) (es : List (List AE.AV)) (hes : es = lsAv V2.c l) (r : ByteArray) (hr : r = lsS V2.S l) (hs : r.size < 2 ^ 60) : AE.ACall Tryz.prog 52 [] [.l 6 es] [] (.v (.string r)) := by
  refine AE.ACall.of_walk (fn := Tryz.f52) (c := bodyOf Tryz.f52) tabOK Tryz.func52 rfl rfl mixed fun A hA X => ?_
  have k1 := lstVec_ok l hl es hes 65 V2.S r hr hs (fun y _ r hr hs => refPoint_ok y r hr hs)
  (repeat' (first | (refine X.go 500 _ _ ?_; cbv) | (first | refine X.splitT ?_ | refine X.splitF ?_ | refine X.split _ _ _ _ _ (fun hc => ?_) (fun hc => ?_)) | refine X.callsA [] k1 ?_ | refine X.need _ _ _ trivial ?_ | fail))
  all_goals (refine X.ret _ (X.done rfl ?_); cbv <;> ((repeat' apply And.intro) <;> first | rfl | trivial))
noncomputable def Lk.S (p : Lk) : ByteArray := p.length.S ++ p.low.S ++ p.high.S ++ p.speed.S ++ p.brake.S ++ lsS V2.S p.shape
set_option maxRecDepth 100000 in
set_option maxHeartbeats 0 in
theorem refLink_ok (p : Lk) (hl : p.shape.length < 2 ^ 40) (r : ByteArray) (hr : r = Lk.S p) (hs : r.size < 2 ^ 60) : AE.ACall Tryz.prog 50 [] [.a p.c] [] (.v (.string r)) := by
  refine AE.ACall.of_walk (fn := Tryz.f50) (c := bodyOf Tryz.f50) tabOK Tryz.func50 rfl rfl mixed fun A hA X => ?_
  obtain ⟨r1, hr1⟩ : ∃ r, r = p.length.S := ⟨_, rfl⟩
  obtain ⟨r2, hr2⟩ : ∃ r, r = p.low.S := ⟨_, rfl⟩
  obtain ⟨r3, hr3⟩ : ∃ r, r = p.high.S := ⟨_, rfl⟩
  obtain ⟨r4, hr4⟩ : ∃ r, r = p.speed.S := ⟨_, rfl⟩
  obtain ⟨r5, hr5⟩ : ∃ r, r = p.brake.S := ⟨_, rfl⟩
  obtain ⟨r6, hr6⟩ : ∃ r, r = lsS V2.S p.shape := ⟨_, rfl⟩
  have hr0 : r = r1 ++ r2 ++ r3 ++ r4 ++ r5 ++ r6 := by rw [hr, hr1, hr2, hr3, hr4, hr5, hr6] <;> rfl
  have hz := hs
  rw [hr0] at hz
  simp only [ba_size] at hz
  have k1 := refNumber_ok p.length r1 hr1 (by omega)
  have k2 := refNumber_ok p.low r2 hr2 (by omega)
  have k3 := refNumber_ok p.high r3 hr3 (by omega)
  have k4 := refNumber_ok p.speed r4 hr4 (by omega)
  have k5 := refNumber_ok p.brake r5 hr5 (by omega)
  have k6 := refPoly_ok p.shape hl _ rfl r6 hr6 (by omega)
  have f2 := fitS hA (s := r1) (t := r2) (n := 2 ^ 60 - 1) (by decide) (by simp only [ba_size]; omega)
  have e2 : A.cat (r1) r2 = r1 ++ r2 := catS hA _ _
  have f3 := fitS hA (s := (r1 ++ r2)) (t := r3) (n := 2 ^ 60 - 1) (by decide) (by simp only [ba_size]; omega)
  have e3 : A.cat ((r1 ++ r2)) r3 = (r1 ++ r2) ++ r3 := catS hA _ _
  have f4 := fitS hA (s := ((r1 ++ r2) ++ r3)) (t := r4) (n := 2 ^ 60 - 1) (by decide) (by simp only [ba_size]; omega)
  have e4 : A.cat (((r1 ++ r2) ++ r3)) r4 = ((r1 ++ r2) ++ r3) ++ r4 := catS hA _ _
  have f5 := fitS hA (s := (((r1 ++ r2) ++ r3) ++ r4)) (t := r5) (n := 2 ^ 60 - 1) (by decide) (by simp only [ba_size]; omega)
  have e5 : A.cat ((((r1 ++ r2) ++ r3) ++ r4)) r5 = (((r1 ++ r2) ++ r3) ++ r4) ++ r5 := catS hA _ _
  have f6 := fitS hA (s := ((((r1 ++ r2) ++ r3) ++ r4) ++ r5)) (t := r6) (n := 2 ^ 60 - 1) (by decide) (by simp only [ba_size]; omega)
  have e6 : A.cat (((((r1 ++ r2) ++ r3) ++ r4) ++ r5)) r6 = ((((r1 ++ r2) ++ r3) ++ r4) ++ r5) ++ r6 := catS hA _ _
  have g2 : AE.SFit (A.slen r1) (A.slen r2) := by first | exact f2 | (simp only [catS hA]; exact f2)
  have g3 : AE.SFit (A.slen (A.cat r1 r2)) (A.slen r3) := by first | exact f3 | (simp only [catS hA]; exact f3)
  have g4 : AE.SFit (A.slen (A.cat (A.cat r1 r2) r3)) (A.slen r4) := by first | exact f4 | (simp only [catS hA]; exact f4)
  have g5 : AE.SFit (A.slen (A.cat (A.cat (A.cat r1 r2) r3) r4)) (A.slen r5) := by first | exact f5 | (simp only [catS hA]; exact f5)
  have g6 : AE.SFit (A.slen (A.cat (A.cat (A.cat (A.cat r1 r2) r3) r4) r5)) (A.slen r6) := by first | exact f6 | (simp only [catS hA]; exact f6)
  have efin : (A.cat (A.cat (A.cat (A.cat (A.cat r1 r2) r3) r4) r5) r6) = r := by simp only [catS hA]; exact hr0.symm
  (refine X.go 500 _ _ ?_; cbv)
  refine X.drawX _ _ _ (by kernel_rfl) (X.frzB 0 _ _ (Nat.zero_le _) ?_)
  (repeat' (first | (refine X.go 500 _ _ ?_; cbv) | (first | refine X.splitT ?_ | refine X.splitF ?_ | refine X.split _ _ _ _ _ (fun hc => ?_) (fun hc => ?_)) | refine X.need _ _ _ trivial ?_ | refine X.callsA [] k1 ?_ | refine X.callsA [] k2 ?_ | refine X.callsA [] k3 ?_ | refine X.callsA [] k4 ?_ | refine X.callsA [] k5 ?_ | refine X.callsA [] k6 ?_ | refine X.need _ _ _ g2 ?_ | refine X.need _ _ _ g3 ?_ | refine X.need _ _ _ g4 ?_ | refine X.need _ _ _ g5 ?_ | refine X.need _ _ _ g6 ?_ | fail))
  all_goals (refine X.ret _ (X.done rfl ?_); cbv <;> ((repeat' apply And.intro) <;> first | exact efin | rfl | trivial))
set_option maxRecDepth 100000 in
set_option maxHeartbeats 0 in
theorem lstLink_ok (l : List Lk) (hl : l.length < 2 ^ 40) (es : List (List AE.AV)) (hes : es = lsAv Lk.c l) (fn : Nat) (f : Lk → ByteArray) (r : ByteArray) (hr : r = lsS f l) (hs : r.size < 2 ^ 60) (each : ∀ y ∈ l, ∀ r, r = f y → r.size < 2 ^ 60 → AE.ACall Tryz.prog (fn % 1000000) [] [.a y.c] [] (.v (.string r))) : AE.ACall Tryz.prog 57 [] [.l 16 es, .f fn []] [] (.v (.string r)) := by
  refine AE.ACall.of_walk (fn := Tryz.f57) (c := bodyOf Tryz.f57) tabOK Tryz.func57 rfl rfl mixed fun A hA X => ?_
  obtain ⟨r0, hr0⟩ : ∃ r, r = natS l.length := ⟨_, rfl⟩
  have k0 := refNat_ok (A.llen es) r0 (by rw [llen hA, hes, lsAv_len]; exact hr0)
  obtain ⟨g, hg⟩ : ∃ g : Nat → ByteArray, ∀ i, g i = upS f l i := ⟨_, fun _ => rfl⟩
  have h00 : r0 = g 0 := by rw [hr0, hg]; rfl
  rw [hr] at hs
  (repeat' (first | (refine X.go 500 _ _ ?_; cbv) | (first | refine X.splitT ?_ | refine X.splitF ?_ | refine X.split _ _ _ _ _ (fun hc => ?_) (fun hc => ?_)) | refine X.need _ _ _ trivial ?_ | refine X.callsA [] k0 ?_ | fail))
  refine rangeL0 X hA hes (by omega) (fun _ => True) (fun z i => [(13, .v (.int .i64 z)), (5, .v (.string (g i)))]) trivial ?_ (fun i z y hz hy he c3 hI B hB => ?_) (fun z c3 hI B => ?_)
  · (cbv <;> ((repeat' apply And.intro) <;> first | exact h00 | rfl | trivial))
  · obtain ⟨ry, hry⟩ : ∃ r, r = f y := ⟨_, rfl⟩
    have hle := elS_le (f := f) hy
    have hle2 := upS_le f l (i + 1)
    rw [upS_succ hy, ← hg, ← hry] at hle2
    rw [← hry] at hle
    have k1 := each y (List.mem_of_getElem? hy) ry hry (by omega)
    have hf := fitS hA (s := g i) (t := ry) (n := 2 ^ 60 - 1) (by decide) (by omega)
    have e1 : A.cat (g i) ry = g (i + 1) := by rw [catS hA, hg (i + 1), upS_succ hy, ← hg, ← hry]
    clear each k0
    (repeat' (first | (refine X.go 500 _ _ ?_; cbv) | (first | refine X.splitT ?_ | refine X.splitF ?_ | refine X.split _ _ _ _ _ (fun hc => ?_) (fun hc => ?_)) | refine X.need _ _ _ trivial ?_ | refine X.idx _ _ _ _ _ _ _ _ he hz ?_ | refine X.callsA [] k1 ?_ | refine X.need _ _ _ hf ?_ | fail))
    all_goals (refine hB trivial _ ?_; clear hB; (cbv <;> ((repeat' apply And.intro) <;> first | exact e1 | rfl | trivial)))
  · have e1 : g l.length = r := by rw [hg, hr]; rfl
    clear each
    (repeat' (first | (refine X.go 500 _ _ ?_; cbv) | (first | refine X.splitT ?_ | refine X.splitF ?_ | refine X.split _ _ _ _ _ (fun hc => ?_) (fun hc => ?_)) | refine X.need _ _ _ trivial ?_ | fail))
    all_goals (refine X.ret _ (X.done rfl ?_); cbv <;> ((repeat' apply And.intro) <;> first | exact e1 | rfl | trivial))
noncomputable def Ar.S (p : Ar) : ByteArray := textS p.name ++ p.base.S ++ lsS Lk.S p.links
set_option maxRecDepth 100000 in
set_option maxHeartbeats 0 in
theorem refArm_ok (p : Ar) (hl : p.links.length < 2 ^ 40 ∧ ∀ k ∈ p.links, k.shape.length < 2 ^ 40) (r : ByteArray) (hr : r = Ar.S p) (hs : r.size < 2 ^ 60) : AE.ACall Tryz.prog 54 [] [.a p.c, .ip [.f 50 []]] [] (.v (.string r)) := by
  refine AE.ACall.of_walk (fn := Tryz.f54) (c := bodyOf Tryz.f54) tabOK Tryz.func54 rfl rfl mixed fun A hA X => ?_
  obtain ⟨r1, hr1⟩ : ∃ r, r = textS p.name := ⟨_, rfl⟩
  obtain ⟨r2, hr2⟩ : ∃ r, r = p.base.S := ⟨_, rfl⟩
  obtain ⟨r3, hr3⟩ : ∃ r, r = lsS Lk.S p.links := ⟨_, rfl⟩
  have hr0 : r = r1 ++ r2 ++ r3 := by rw [hr, hr1, hr2, hr3] <;> rfl
  have hz := hs
  rw [hr0] at hz
  simp only [ba_size] at hz
  have k1 := refText_ok p.name r1 hr1 (by omega)
  have k2 := refPlaced_ok p.base r2 hr2 (by omega)
  have k3 := lstLink_ok p.links hl.1 _ rfl 50 Lk.S r3 hr3 (by omega) (fun y hy r hr hs => refLink_ok y (hl.2 y hy) r hr hs)
  have f2 := fitS hA (s := r1) (t := r2) (n := 2 ^ 60 - 1) (by decide) (by simp only [ba_size]; omega)
  have e2 : A.cat (r1) r2 = r1 ++ r2 := catS hA _ _
  have f3 := fitS hA (s := (r1 ++ r2)) (t := r3) (n := 2 ^ 60 - 1) (by decide) (by simp only [ba_size]; omega)
  have e3 : A.cat ((r1 ++ r2)) r3 = (r1 ++ r2) ++ r3 := catS hA _ _
  have g2 : AE.SFit (A.slen r1) (A.slen r2) := by first | exact f2 | (simp only [catS hA]; exact f2)
  have g3 : AE.SFit (A.slen (A.cat r1 r2)) (A.slen r3) := by first | exact f3 | (simp only [catS hA]; exact f3)
  have efin : (A.cat (A.cat r1 r2) r3) = r := by simp only [catS hA]; exact hr0.symm
  (refine X.go 500 _ _ ?_; cbv)
  refine X.drawX _ _ _ (by kernel_rfl) (X.frzB 0 _ _ (Nat.zero_le _) ?_)
  (repeat' (first | (refine X.go 500 _ _ ?_; cbv) | (first | refine X.splitT ?_ | refine X.splitF ?_ | refine X.split _ _ _ _ _ (fun hc => ?_) (fun hc => ?_)) | refine X.need _ _ _ trivial ?_ | refine X.callsA [] k1 ?_ | refine X.callsA [] k2 ?_ | refine X.callsA [] k3 ?_ | refine X.need _ _ _ g2 ?_ | refine X.need _ _ _ g3 ?_ | fail))
  all_goals (refine X.ret _ (X.done rfl ?_); cbv <;> ((repeat' apply And.intro) <;> first | exact efin | rfl | trivial))
set_option maxRecDepth 100000 in
set_option maxHeartbeats 0 in
theorem lstArm_ok (l : List Ar) (hl : l.length < 2 ^ 40) (es : List (List AE.AV)) (hes : es = lsAv Ar.c l) (f : Ar → ByteArray) (r : ByteArray) (hr : r = lsS f l) (hs : r.size < 2 ^ 60) (each : ∀ y ∈ l, ∀ r, r = f y → r.size < 2 ^ 60 → AE.ACall Tryz.prog 54 [] [.a y.c, .ip [.f 50 []]] [] (.v (.string r))) : AE.ACall Tryz.prog 53 [] [.l 12 es, .f 54 [.ip [.f 50 []]]] [] (.v (.string r)) := by
  refine AE.ACall.of_walk (fn := Tryz.f53) (c := bodyOf Tryz.f53) tabOK Tryz.func53 rfl rfl mixed fun A hA X => ?_
  obtain ⟨r0, hr0⟩ : ∃ r, r = natS l.length := ⟨_, rfl⟩
  have k0 := refNat_ok (A.llen es) r0 (by rw [llen hA, hes, lsAv_len]; exact hr0)
  obtain ⟨g, hg⟩ : ∃ g : Nat → ByteArray, ∀ i, g i = upS f l i := ⟨_, fun _ => rfl⟩
  have h00 : r0 = g 0 := by rw [hr0, hg]; rfl
  rw [hr] at hs
  (repeat' (first | (refine X.go 500 _ _ ?_; cbv) | (first | refine X.splitT ?_ | refine X.splitF ?_ | refine X.split _ _ _ _ _ (fun hc => ?_) (fun hc => ?_)) | refine X.need _ _ _ trivial ?_ | refine X.callsA [] k0 ?_ | fail))
  refine rangeL0 X hA hes (by omega) (fun _ => True) (fun z i => [(13, .v (.int .i64 z)), (5, .v (.string (g i)))]) trivial ?_ (fun i z y hz hy he c3 hI B hB => ?_) (fun z c3 hI B => ?_)
  · (cbv <;> ((repeat' apply And.intro) <;> first | exact h00 | rfl | trivial))
  · obtain ⟨ry, hry⟩ : ∃ r, r = f y := ⟨_, rfl⟩
    have hle := elS_le (f := f) hy
    have hle2 := upS_le f l (i + 1)
    rw [upS_succ hy, ← hg, ← hry] at hle2
    rw [← hry] at hle
    have k1 := each y (List.mem_of_getElem? hy) ry hry (by omega)
    have hf := fitS hA (s := g i) (t := ry) (n := 2 ^ 60 - 1) (by decide) (by omega)
    have e1 : A.cat (g i) ry = g (i + 1) := by rw [catS hA, hg (i + 1), upS_succ hy, ← hg, ← hry]
    clear each k0
    (repeat' (first | (refine X.go 500 _ _ ?_; cbv) | (first | refine X.splitT ?_ | refine X.splitF ?_ | refine X.split _ _ _ _ _ (fun hc => ?_) (fun hc => ?_)) | refine X.need _ _ _ trivial ?_ | refine X.idx _ _ _ _ _ _ _ _ he hz ?_ | refine X.callsA [] k1 ?_ | refine X.need _ _ _ hf ?_ | fail))
    all_goals (refine hB trivial _ ?_; clear hB; (cbv <;> ((repeat' apply And.intro) <;> first | exact e1 | rfl | trivial)))
  · have e1 : g l.length = r := by rw [hg, hr]; rfl
    clear each
    (repeat' (first | (refine X.go 500 _ _ ?_; cbv) | (first | refine X.splitT ?_ | refine X.splitF ?_ | refine X.split _ _ _ _ _ (fun hc => ?_) (fun hc => ?_)) | refine X.need _ _ _ trivial ?_ | fail))
    all_goals (refine X.ret _ (X.done rfl ?_); cbv <;> ((repeat' apply And.intro) <;> first | exact e1 | rfl | trivial))
noncomputable def Pt.S (p : Pt) : ByteArray := textS p.name ++ lsS V2.S p.shape ++ p.grasp.S
set_option maxRecDepth 100000 in
set_option maxHeartbeats 0 in
theorem refPart_ok (p : Pt) (hl : p.shape.length < 2 ^ 40) (r : ByteArray) (hr : r = Pt.S p) (hs : r.size < 2 ^ 60) : AE.ACall Tryz.prog 60 [] [.a p.c] [] (.v (.string r)) := by
  refine AE.ACall.of_walk (fn := Tryz.f60) (c := bodyOf Tryz.f60) tabOK Tryz.func60 rfl rfl mixed fun A hA X => ?_
  obtain ⟨r1, hr1⟩ : ∃ r, r = textS p.name := ⟨_, rfl⟩
  obtain ⟨r2, hr2⟩ : ∃ r, r = lsS V2.S p.shape := ⟨_, rfl⟩
  obtain ⟨r3, hr3⟩ : ∃ r, r = p.grasp.S := ⟨_, rfl⟩
  have hr0 : r = r1 ++ r2 ++ r3 := by rw [hr, hr1, hr2, hr3] <;> rfl
  have hz := hs
  rw [hr0] at hz
  simp only [ba_size] at hz
  have k1 := refText_ok p.name r1 hr1 (by omega)
  have k2 := refPoly_ok p.shape hl _ rfl r2 hr2 (by omega)
  have k3 := refPlaced_ok p.grasp r3 hr3 (by omega)
  have f2 := fitS hA (s := r1) (t := r2) (n := 2 ^ 60 - 1) (by decide) (by simp only [ba_size]; omega)
  have e2 : A.cat (r1) r2 = r1 ++ r2 := catS hA _ _
  have f3 := fitS hA (s := (r1 ++ r2)) (t := r3) (n := 2 ^ 60 - 1) (by decide) (by simp only [ba_size]; omega)
  have e3 : A.cat ((r1 ++ r2)) r3 = (r1 ++ r2) ++ r3 := catS hA _ _
  have g2 : AE.SFit (A.slen r1) (A.slen r2) := by first | exact f2 | (simp only [catS hA]; exact f2)
  have g3 : AE.SFit (A.slen (A.cat r1 r2)) (A.slen r3) := by first | exact f3 | (simp only [catS hA]; exact f3)
  have efin : (A.cat (A.cat r1 r2) r3) = r := by simp only [catS hA]; exact hr0.symm
  (refine X.go 500 _ _ ?_; cbv)
  refine X.drawX _ _ _ (by kernel_rfl) (X.frzB 0 _ _ (Nat.zero_le _) ?_)
  (repeat' (first | (refine X.go 500 _ _ ?_; cbv) | (first | refine X.splitT ?_ | refine X.splitF ?_ | refine X.split _ _ _ _ _ (fun hc => ?_) (fun hc => ?_)) | refine X.need _ _ _ trivial ?_ | refine X.callsA [] k1 ?_ | refine X.callsA [] k2 ?_ | refine X.callsA [] k3 ?_ | refine X.need _ _ _ g2 ?_ | refine X.need _ _ _ g3 ?_ | fail))
  all_goals (refine X.ret _ (X.done rfl ?_); cbv <;> ((repeat' apply And.intro) <;> first | exact efin | rfl | trivial))
set_option maxRecDepth 100000 in
set_option maxHeartbeats 0 in
theorem lstPart_ok (l : List Pt) (hl : l.length < 2 ^ 40) (es : List (List AE.AV)) (hes : es = lsAv Pt.c l) (fn : Nat) (f : Pt → ByteArray) (r : ByteArray) (hr : r = lsS f l) (hs : r.size < 2 ^ 60) (each : ∀ y ∈ l, ∀ r, r = f y → r.size < 2 ^ 60 → AE.ACall Tryz.prog (fn % 1000000) [] [.a y.c] [] (.v (.string r))) : AE.ACall Tryz.prog 59 [] [.l 12 es, .f fn []] [] (.v (.string r)) := by
  refine AE.ACall.of_walk (fn := Tryz.f59) (c := bodyOf Tryz.f59) tabOK Tryz.func59 rfl rfl mixed fun A hA X => ?_
  obtain ⟨r0, hr0⟩ : ∃ r, r = natS l.length := ⟨_, rfl⟩
  have k0 := refNat_ok (A.llen es) r0 (by rw [llen hA, hes, lsAv_len]; exact hr0)
  obtain ⟨g, hg⟩ : ∃ g : Nat → ByteArray, ∀ i, g i = upS f l i := ⟨_, fun _ => rfl⟩
  have h00 : r0 = g 0 := by rw [hr0, hg]; rfl
  rw [hr] at hs
  (repeat' (first | (refine X.go 500 _ _ ?_; cbv) | (first | refine X.splitT ?_ | refine X.splitF ?_ | refine X.split _ _ _ _ _ (fun hc => ?_) (fun hc => ?_)) | refine X.need _ _ _ trivial ?_ | refine X.callsA [] k0 ?_ | fail))
  refine rangeL0 X hA hes (by omega) (fun _ => True) (fun z i => [(13, .v (.int .i64 z)), (5, .v (.string (g i)))]) trivial ?_ (fun i z y hz hy he c3 hI B hB => ?_) (fun z c3 hI B => ?_)
  · (cbv <;> ((repeat' apply And.intro) <;> first | exact h00 | rfl | trivial))
  · obtain ⟨ry, hry⟩ : ∃ r, r = f y := ⟨_, rfl⟩
    have hle := elS_le (f := f) hy
    have hle2 := upS_le f l (i + 1)
    rw [upS_succ hy, ← hg, ← hry] at hle2
    rw [← hry] at hle
    have k1 := each y (List.mem_of_getElem? hy) ry hry (by omega)
    have hf := fitS hA (s := g i) (t := ry) (n := 2 ^ 60 - 1) (by decide) (by omega)
    have e1 : A.cat (g i) ry = g (i + 1) := by rw [catS hA, hg (i + 1), upS_succ hy, ← hg, ← hry]
    clear each k0
    (repeat' (first | (refine X.go 500 _ _ ?_; cbv) | (first | refine X.splitT ?_ | refine X.splitF ?_ | refine X.split _ _ _ _ _ (fun hc => ?_) (fun hc => ?_)) | refine X.need _ _ _ trivial ?_ | refine X.idx _ _ _ _ _ _ _ _ he hz ?_ | refine X.callsA [] k1 ?_ | refine X.need _ _ _ hf ?_ | fail))
    all_goals (refine hB trivial _ ?_; clear hB; (cbv <;> ((repeat' apply And.intro) <;> first | exact e1 | rfl | trivial)))
  · have e1 : g l.length = r := by rw [hg, hr]; rfl
    clear each
    (repeat' (first | (refine X.go 500 _ _ ?_; cbv) | (first | refine X.splitT ?_ | refine X.splitF ?_ | refine X.split _ _ _ _ _ (fun hc => ?_) (fun hc => ?_)) | refine X.need _ _ _ trivial ?_ | fail))
    all_goals (refine X.ret _ (X.done rfl ?_); cbv <;> ((repeat' apply And.intro) <;> first | exact e1 | rfl | trivial))
noncomputable def Sl.S (p : Sl) : ByteArray := textS p.name ++ p.frame.S ++ p.within.S
set_option maxRecDepth 100000 in
set_option maxHeartbeats 0 in
theorem refSlot_ok (p : Sl) (r : ByteArray) (hr : r = Sl.S p) (hs : r.size < 2 ^ 60) : AE.ACall Tryz.prog 62 [] [.a p.c] [] (.v (.string r)) := by
  refine AE.ACall.of_walk (fn := Tryz.f62) (c := bodyOf Tryz.f62) tabOK Tryz.func62 rfl rfl mixed fun A hA X => ?_
  obtain ⟨r1, hr1⟩ : ∃ r, r = textS p.name := ⟨_, rfl⟩
  obtain ⟨r2, hr2⟩ : ∃ r, r = p.frame.S := ⟨_, rfl⟩
  obtain ⟨r3, hr3⟩ : ∃ r, r = p.within.S := ⟨_, rfl⟩
  have hr0 : r = r1 ++ r2 ++ r3 := by rw [hr, hr1, hr2, hr3] <;> rfl
  have hz := hs
  rw [hr0] at hz
  simp only [ba_size] at hz
  have k1 := refText_ok p.name r1 hr1 (by omega)
  have k2 := refPlaced_ok p.frame r2 hr2 (by omega)
  have k3 := refNumber_ok p.within r3 hr3 (by omega)
  have f2 := fitS hA (s := r1) (t := r2) (n := 2 ^ 60 - 1) (by decide) (by simp only [ba_size]; omega)
  have e2 : A.cat (r1) r2 = r1 ++ r2 := catS hA _ _
  have f3 := fitS hA (s := (r1 ++ r2)) (t := r3) (n := 2 ^ 60 - 1) (by decide) (by simp only [ba_size]; omega)
  have e3 : A.cat ((r1 ++ r2)) r3 = (r1 ++ r2) ++ r3 := catS hA _ _
  have g2 : AE.SFit (A.slen r1) (A.slen r2) := by first | exact f2 | (simp only [catS hA]; exact f2)
  have g3 : AE.SFit (A.slen (A.cat r1 r2)) (A.slen r3) := by first | exact f3 | (simp only [catS hA]; exact f3)
  have efin : (A.cat (A.cat r1 r2) r3) = r := by simp only [catS hA]; exact hr0.symm
  (refine X.go 500 _ _ ?_; cbv)
  refine X.drawX _ _ _ (by kernel_rfl) (X.frzB 0 _ _ (Nat.zero_le _) ?_)
  (repeat' (first | (refine X.go 500 _ _ ?_; cbv) | (first | refine X.splitT ?_ | refine X.splitF ?_ | refine X.split _ _ _ _ _ (fun hc => ?_) (fun hc => ?_)) | refine X.need _ _ _ trivial ?_ | refine X.callsA [] k1 ?_ | refine X.callsA [] k2 ?_ | refine X.callsA [] k3 ?_ | refine X.need _ _ _ g2 ?_ | refine X.need _ _ _ g3 ?_ | fail))
  all_goals (refine X.ret _ (X.done rfl ?_); cbv <;> ((repeat' apply And.intro) <;> first | exact efin | rfl | trivial))
set_option maxRecDepth 100000 in
set_option maxHeartbeats 0 in
theorem lstSlot_ok (l : List Sl) (hl : l.length < 2 ^ 40) (es : List (List AE.AV)) (hes : es = lsAv Sl.c l) (fn : Nat) (f : Sl → ByteArray) (r : ByteArray) (hr : r = lsS f l) (hs : r.size < 2 ^ 60) (each : ∀ y ∈ l, ∀ r, r = f y → r.size < 2 ^ 60 → AE.ACall Tryz.prog (fn % 1000000) [] [.a y.c] [] (.v (.string r))) : AE.ACall Tryz.prog 61 [] [.l 14 es, .f fn []] [] (.v (.string r)) := by
  refine AE.ACall.of_walk (fn := Tryz.f61) (c := bodyOf Tryz.f61) tabOK Tryz.func61 rfl rfl mixed fun A hA X => ?_
  obtain ⟨r0, hr0⟩ : ∃ r, r = natS l.length := ⟨_, rfl⟩
  have k0 := refNat_ok (A.llen es) r0 (by rw [llen hA, hes, lsAv_len]; exact hr0)
  obtain ⟨g, hg⟩ : ∃ g : Nat → ByteArray, ∀ i, g i = upS f l i := ⟨_, fun _ => rfl⟩
  have h00 : r0 = g 0 := by rw [hr0, hg]; rfl
  rw [hr] at hs
  (repeat' (first | (refine X.go 500 _ _ ?_; cbv) | (first | refine X.splitT ?_ | refine X.splitF ?_ | refine X.split _ _ _ _ _ (fun hc => ?_) (fun hc => ?_)) | refine X.need _ _ _ trivial ?_ | refine X.callsA [] k0 ?_ | fail))
  refine rangeL0 X hA hes (by omega) (fun _ => True) (fun z i => [(13, .v (.int .i64 z)), (5, .v (.string (g i)))]) trivial ?_ (fun i z y hz hy he c3 hI B hB => ?_) (fun z c3 hI B => ?_)
  · (cbv <;> ((repeat' apply And.intro) <;> first | exact h00 | rfl | trivial))
  · obtain ⟨ry, hry⟩ : ∃ r, r = f y := ⟨_, rfl⟩
    have hle := elS_le (f := f) hy
    have hle2 := upS_le f l (i + 1)
    rw [upS_succ hy, ← hg, ← hry] at hle2
    rw [← hry] at hle
    have k1 := each y (List.mem_of_getElem? hy) ry hry (by omega)
    have hf := fitS hA (s := g i) (t := ry) (n := 2 ^ 60 - 1) (by decide) (by omega)
    have e1 : A.cat (g i) ry = g (i + 1) := by rw [catS hA, hg (i + 1), upS_succ hy, ← hg, ← hry]
    clear each k0
    (repeat' (first | (refine X.go 500 _ _ ?_; cbv) | (first | refine X.splitT ?_ | refine X.splitF ?_ | refine X.split _ _ _ _ _ (fun hc => ?_) (fun hc => ?_)) | refine X.need _ _ _ trivial ?_ | refine X.idx _ _ _ _ _ _ _ _ he hz ?_ | refine X.callsA [] k1 ?_ | refine X.need _ _ _ hf ?_ | fail))
    all_goals (refine hB trivial _ ?_; clear hB; (cbv <;> ((repeat' apply And.intro) <;> first | exact e1 | rfl | trivial)))
  · have e1 : g l.length = r := by rw [hg, hr]; rfl
    clear each
    (repeat' (first | (refine X.go 500 _ _ ?_; cbv) | (first | refine X.splitT ?_ | refine X.splitF ?_ | refine X.split _ _ _ _ _ (fun hc => ?_) (fun hc => ?_)) | refine X.need _ _ _ trivial ?_ | fail))
    all_goals (refine X.ret _ (X.done rfl ?_); cbv <;> ((repeat' apply And.intro) <;> first | exact e1 | rfl | trivial))
noncomputable def Gt.S (p : Gt) : ByteArray := textS p.name ++ p.zone.low.S ++ p.zone.high.S
set_option maxRecDepth 100000 in
set_option maxHeartbeats 0 in
theorem refGate_ok (p : Gt) (r : ByteArray) (hr : r = Gt.S p) (hs : r.size < 2 ^ 60) : AE.ACall Tryz.prog 64 [] [.a p.c] [] (.v (.string r)) := by
  refine AE.ACall.of_walk (fn := Tryz.f64) (c := bodyOf Tryz.f64) tabOK Tryz.func64 rfl rfl mixed fun A hA X => ?_
  obtain ⟨r1, hr1⟩ : ∃ r, r = textS p.name := ⟨_, rfl⟩
  obtain ⟨r2, hr2⟩ : ∃ r, r = p.zone.low.S := ⟨_, rfl⟩
  obtain ⟨r3, hr3⟩ : ∃ r, r = p.zone.high.S := ⟨_, rfl⟩
  have hr0 : r = r1 ++ r2 ++ r3 := by rw [hr, hr1, hr2, hr3] <;> rfl
  have hz := hs
  rw [hr0] at hz
  simp only [ba_size] at hz
  have k1 := refText_ok p.name r1 hr1 (by omega)
  have k2 := refPoint_ok p.zone.low r2 hr2 (by omega)
  have k3 := refPoint_ok p.zone.high r3 hr3 (by omega)
  have f2 := fitS hA (s := r1) (t := r2) (n := 2 ^ 60 - 1) (by decide) (by simp only [ba_size]; omega)
  have e2 : A.cat (r1) r2 = r1 ++ r2 := catS hA _ _
  have f3 := fitS hA (s := (r1 ++ r2)) (t := r3) (n := 2 ^ 60 - 1) (by decide) (by simp only [ba_size]; omega)
  have e3 : A.cat ((r1 ++ r2)) r3 = (r1 ++ r2) ++ r3 := catS hA _ _
  have g2 : AE.SFit (A.slen r1) (A.slen r2) := by first | exact f2 | (simp only [catS hA]; exact f2)
  have g3 : AE.SFit (A.slen (A.cat r1 r2)) (A.slen r3) := by first | exact f3 | (simp only [catS hA]; exact f3)
  have efin : (A.cat (A.cat r1 r2) r3) = r := by simp only [catS hA]; exact hr0.symm
  (refine X.go 500 _ _ ?_; cbv)
  refine X.drawX _ _ _ (by kernel_rfl) (X.frzB 0 _ _ (Nat.zero_le _) ?_)
  (repeat' (first | (refine X.go 500 _ _ ?_; cbv) | (first | refine X.splitT ?_ | refine X.splitF ?_ | refine X.split _ _ _ _ _ (fun hc => ?_) (fun hc => ?_)) | refine X.need _ _ _ trivial ?_ | refine X.callsA [] k1 ?_ | refine X.callsA [] k2 ?_ | refine X.callsA [] k3 ?_ | refine X.need _ _ _ g2 ?_ | refine X.need _ _ _ g3 ?_ | fail))
  all_goals (refine X.ret _ (X.done rfl ?_); cbv <;> ((repeat' apply And.intro) <;> first | exact efin | rfl | trivial))
set_option maxRecDepth 100000 in
set_option maxHeartbeats 0 in
theorem lstGate_ok (l : List Gt) (hl : l.length < 2 ^ 40) (es : List (List AE.AV)) (hes : es = lsAv Gt.c l) (fn : Nat) (f : Gt → ByteArray) (r : ByteArray) (hr : r = lsS f l) (hs : r.size < 2 ^ 60) (each : ∀ y ∈ l, ∀ r, r = f y → r.size < 2 ^ 60 → AE.ACall Tryz.prog (fn % 1000000) [] [.a y.c] [] (.v (.string r))) : AE.ACall Tryz.prog 63 [] [.l 13 es, .f fn []] [] (.v (.string r)) := by
  refine AE.ACall.of_walk (fn := Tryz.f63) (c := bodyOf Tryz.f63) tabOK Tryz.func63 rfl rfl mixed fun A hA X => ?_
  obtain ⟨r0, hr0⟩ : ∃ r, r = natS l.length := ⟨_, rfl⟩
  have k0 := refNat_ok (A.llen es) r0 (by rw [llen hA, hes, lsAv_len]; exact hr0)
  obtain ⟨g, hg⟩ : ∃ g : Nat → ByteArray, ∀ i, g i = upS f l i := ⟨_, fun _ => rfl⟩
  have h00 : r0 = g 0 := by rw [hr0, hg]; rfl
  rw [hr] at hs
  (repeat' (first | (refine X.go 500 _ _ ?_; cbv) | (first | refine X.splitT ?_ | refine X.splitF ?_ | refine X.split _ _ _ _ _ (fun hc => ?_) (fun hc => ?_)) | refine X.need _ _ _ trivial ?_ | refine X.callsA [] k0 ?_ | fail))
  refine rangeL0 X hA hes (by omega) (fun _ => True) (fun z i => [(13, .v (.int .i64 z)), (5, .v (.string (g i)))]) trivial ?_ (fun i z y hz hy he c3 hI B hB => ?_) (fun z c3 hI B => ?_)
  · (cbv <;> ((repeat' apply And.intro) <;> first | exact h00 | rfl | trivial))
  · obtain ⟨ry, hry⟩ : ∃ r, r = f y := ⟨_, rfl⟩
    have hle := elS_le (f := f) hy
    have hle2 := upS_le f l (i + 1)
    rw [upS_succ hy, ← hg, ← hry] at hle2
    rw [← hry] at hle
    have k1 := each y (List.mem_of_getElem? hy) ry hry (by omega)
    have hf := fitS hA (s := g i) (t := ry) (n := 2 ^ 60 - 1) (by decide) (by omega)
    have e1 : A.cat (g i) ry = g (i + 1) := by rw [catS hA, hg (i + 1), upS_succ hy, ← hg, ← hry]
    clear each k0
    (repeat' (first | (refine X.go 500 _ _ ?_; cbv) | (first | refine X.splitT ?_ | refine X.splitF ?_ | refine X.split _ _ _ _ _ (fun hc => ?_) (fun hc => ?_)) | refine X.need _ _ _ trivial ?_ | refine X.idx _ _ _ _ _ _ _ _ he hz ?_ | refine X.callsA [] k1 ?_ | refine X.need _ _ _ hf ?_ | fail))
    all_goals (refine hB trivial _ ?_; clear hB; (cbv <;> ((repeat' apply And.intro) <;> first | exact e1 | rfl | trivial)))
  · have e1 : g l.length = r := by rw [hg, hr]; rfl
    clear each
    (repeat' (first | (refine X.go 500 _ _ ?_; cbv) | (first | refine X.splitT ?_ | refine X.splitF ?_ | refine X.split _ _ _ _ _ (fun hc => ?_) (fun hc => ?_)) | refine X.need _ _ _ trivial ?_ | fail))
    all_goals (refine X.ret _ (X.done rfl ?_); cbv <;> ((repeat' apply And.intro) <;> first | exact e1 | rfl | trivial))
end Go.Proofs.YtjbnffclpebkkaaGreatDoor
