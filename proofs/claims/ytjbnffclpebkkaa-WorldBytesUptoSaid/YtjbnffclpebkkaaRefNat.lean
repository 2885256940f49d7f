import Derived.Test.YtjbnffclpebkkaaBytes
set_option linter.unusedVariables false
set_option maxRecDepth 4000
namespace Go.Proofs.Ytjbnffclpebkkaa
open Go

/-- Bytes as a string. -/
theorem S_ex : ∃ g : List UInt8 → ByteArray, ∀ l, g l = ⟨l.toArray⟩ := ⟨_, fun _ => rfl⟩
noncomputable def S : List UInt8 → ByteArray := S_ex.choose
theorem S_eq (l : List UInt8) : S l = ⟨l.toArray⟩ := S_ex.choose_spec l
theorem S_app (l m : List UInt8) : S l ++ S m = S (l ++ m) := by
  apply ByteArray.ext
  simp [S_eq]
theorem S_size (l : List UInt8) : (S l).size = l.length := by simp [S_eq, ByteArray.size]
theorem S_bytes (l : List UInt8) : AE.sbytes (S l) = bl l := by simp [AE.sbytes_eq, S_eq, bl_eq]
theorem S_data (s : ByteArray) : S s.data.toList = s := by cases s; simp [S_eq]

theorem std_and127 (u : Nat) (h : u < 2 ^ 64) : AE.std.bin .and .u64 u 127 = ((u % 128 : Nat) : Int) := by
  show IntKind.wrap .u64 ((((BitVec.ofInt 64 (u : Int)) &&& (BitVec.ofInt 64 (127 : Int))).toNat : Nat) : Int) = _
  rw [AE.wrap_u64]
  have h1 : (BitVec.ofInt 64 (u : Int)).toNat = u := by rw [BitVec.toNat_ofInt]; omega
  have h2 : (BitVec.ofInt 64 (127 : Int)).toNat = 127 := by decide
  rw [BitVec.toNat_and, h1, h2]
  have : u &&& 127 = u % 128 := Nat.and_two_pow_sub_one_eq_mod u 7
  rw [this]
  omega
theorem std_or128 (m : Nat) (h : m < 128) : AE.std.bin .or .u64 m 128 = ((m + 128 : Nat) : Int) := by
  show IntKind.wrap .u64 ((((BitVec.ofInt 64 (m : Int)) ||| (BitVec.ofInt 64 (128 : Int))).toNat : Nat) : Int) = _
  rw [AE.wrap_u64]
  have h1 : (BitVec.ofInt 64 (m : Int)).toNat = m := by rw [BitVec.toNat_ofInt]; omega
  have h2 : (BitVec.ofInt 64 (128 : Int)).toNat = 128 := by decide
  rw [BitVec.toNat_or, h1, h2]
  have : m ||| 128 = m + 128 := by
    have := Nat.two_pow_add_eq_or_of_lt (i := 7) (b := m) (by simpa using h) 1
    have e : (2 : Nat) ^ 7 * 1 = 128 := by decide
    rw [e] at this
    rw [Nat.or_comm]; omega
  rw [this]
  omega

theorem truth_ok (x : Bool) (r : ByteArray) (hr : r = S (boolL x)) : AE.ACall Try.prog 17 [] [.b x] [] (.v (.string r)) := by
  have h0 : S (boolL false) = ⟨#[0]⟩ := by simp [S_eq, boolL, natL]
  have h1 : S (boolL true) = ⟨#[1]⟩ := by simp [S_eq, boolL, natL]
  refine AE.ACall.of_walk (fn := Try.f17) (c := bodyOf Try.f17) tabOK Try.func17 rfl rfl mixed fun A hA X => ?_
  refine X.go 500 _ _ ?_
  cbv
  refine X.split _ _ _ _ _ (fun hc => ?_) (fun hc => ?_)
  · subst hc; rw [h1] at hr
    refine X.go 500 _ _ ?_
    cbv
    refine X.ret _ (X.done rfl ?_)
    rw [hr]
    cbv <;> ((repeat' apply And.intro) <;> first | rfl | trivial)
  · subst hc; rw [h0] at hr
    refine X.go 500 _ _ ?_
    cbv
    refine X.ret _ (X.done rfl ?_)
    rw [hr]
    cbv <;> ((repeat' apply And.intro) <;> first | rfl | trivial)

theorem refNat_ok (n : Int) (r : ByteArray) (hr : r = S (intL n)) : AE.ACall Try.prog 18 [] [.v (.int .i64 n)] [] (.v (.string r)) := by
  refine AE.ACall.of_walk (fn := Try.f18) (c := bodyOf Try.f18) tabOK Try.func18 rfl rfl mixed fun A hA X => ?_
  obtain ⟨u0, hu0⟩ : ∃ u0 : Nat, u0 = (n % 2 ^ 64).toNat := ⟨_, rfl⟩
  obtain ⟨fin, hfin⟩ : ∃ fin, fin = natL u0 := ⟨_, rfl⟩
  have hfin' : r = S fin := by rw [hr, intL, ← hu0, ← hfin]
  have hu0' : A.conv .u64 n = u0 := by
    subst hA; simp only [AE.std, AE.wrap_u64]; omega
  have hu0l : u0 < 2 ^ 64 := by omega
  have hfl := natL_len u0 hu0l
  rw [← hfin] at hfl
  refine X.go 500 _ _ ?_
  cbv
  refine X.carries (ι := { p : Nat × List UInt8 // p.1 < 2 ^ 64 ∧ p.2 ++ natL p.1 = fin }) (fun p => [(4, .v (.int .u64 p.1.1)), (3, .v (.string (S p.1.2)))]) (fun p => []) (fun p => p.1.1) ⟨(u0, []), hu0l, by rw [hfin]; rfl⟩ ?_ fun i B hB => ?_
  · cbv <;> ((repeat' apply And.intro) <;> try first | rfl | trivial | exact congrArg (fun z => AE.AV.v (.int .u64 z)) hu0' | exact congrArg (fun z => AE.AV.v (.string z)) (show (⟨#[]⟩ : ByteArray) = S [] by rw [S_eq]))
  · obtain ⟨⟨u, pre⟩, hi1, hi⟩ := i
    simp only at hi1 hi
    obtain ⟨sp, hsp⟩ : ∃ sp, sp = S pre := ⟨_, rfl⟩
    simp only [← hsp]
    have hfl2 : fin.length = pre.length + (natL u).length := by rw [← hi]; simp
    have hfit : ∀ b : UInt8, AE.SFit (A.slen sp) (A.slen (S [b])) := by
      intro b; subst hA; constructor; simp only [AE.std, hsp, S_size, List.length_singleton]; omega
    refine X.go 500 _ _ ?_
    cbv
    refine X.split _ _ _ _ _ (fun hc => ?_) (fun hc => ?_)
    · have hlt : u < 128 := by
        have h5 : A.cmp .lss (u : Int) 128 = true := hc
        have : (u : Int) < 128 := by subst hA; simpa [AE.std, AE.cmpI] using h5
        omega
      refine X.go 500 _ _ ?_
      cbv
      refine X.str _ _ _ _ (S [UInt8.ofNat u]) ?_ ?_
      · rw [S_bytes]; subst hA
        simp only [AE.std, AE.wrap_u8, bl_eq, List.map_cons, List.map_nil]
        congr 5
      obtain ⟨sb, hsb⟩ : ∃ sb, sb = S [UInt8.ofNat u] := ⟨_, rfl⟩
      have hf2 := hfit (UInt8.ofNat u)
      rw [← hsb] at hf2
      rw [← hsb]
      refine X.go 500 _ _ ?_
      cbv
      refine X.need _ _ _ hf2 ?_
      refine X.go 500 _ _ ?_
      cbv
      refine X.ret _ (X.done rfl ?_)
      cbv
      refine ⟨?_, trivial⟩
      have : A.cat sp sb = r := by
        subst hA; rw [hfin', hsb, hsp, ← hi]
        show S pre ++ S [UInt8.ofNat u] = _
        rw [S_app]
        conv => rhs; unfold natL
        rw [dif_pos hlt]
      exact congrArg (fun z => AE.AV.v (.string z)) this
    · have hge : 128 ≤ u := by
        have h5 : A.cmp .lss (u : Int) 128 = false := hc
        have : (128 : Int) ≤ u := by subst hA; simpa [AE.std, AE.cmpI] using h5
        omega
      refine X.go 500 _ _ ?_
      cbv
      refine X.str _ _ _ _ (S [UInt8.ofNat (u % 128 + 128)]) ?_ ?_
      · rw [S_bytes]
        have e1 : A.bin .and .u64 (u : Int) 127 = ((u % 128 : Nat) : Int) := by subst hA; exact std_and127 u hi1
        have e2 : A.bin .or .u64 ((u % 128 : Nat) : Int) 128 = ((u % 128 + 128 : Nat) : Int) := by subst hA; exact std_or128 _ (by omega)
        show [[AE.AV.v (.int .u8 (A.conv .u8 (A.bin .or .u64 (A.bin .and .u64 (u : Int) 127) 128)))]] = _
        rw [e1, e2]
        subst hA
        simp only [AE.std, AE.wrap_u8, bl_eq, List.map_cons, List.map_nil]
        congr 5
      obtain ⟨sb, hsb⟩ : ∃ sb, sb = S [UInt8.ofNat (u % 128 + 128)] := ⟨_, rfl⟩
      have hf2 := hfit (UInt8.ofNat (u % 128 + 128))
      rw [← hsb] at hf2
      rw [← hsb]
      refine X.go 500 _ _ ?_
      cbv
      refine X.need _ _ _ hf2 ?_
      refine X.go 500 _ _ ?_
      cbv
      try (refine X.need _ _ _ trivial ?_; refine X.go 500 _ _ ?_; cbv)
      refine hB ⟨(u / 128, pre ++ [UInt8.ofNat (u % 128 + 128)]), by show u / 128 < 2 ^ 64; omega, ?_⟩ _ (by show u / 128 < u; omega) ?_
      · rw [← hi]; conv => rhs; unfold natL
        rw [dif_neg (by omega)]; simp
      · obtain ⟨r1, hr1⟩ : ∃ r1, r1 = S (pre ++ [UInt8.ofNat (u % 128 + 128)]) := ⟨_, rfl⟩
        obtain ⟨u1, hu1⟩ : ∃ u1 : Nat, u1 = u / 128 := ⟨_, rfl⟩
        simp only [← hr1, ← hu1]
        have e1 : A.cat sp sb = r1 := by subst hA; rw [hr1, hsb, hsp, ← S_app]; rfl
        have e2 : A.bin .shr .u64 (u : Int) 7 = (u1 : Int) := by
          subst hA; rw [hu1]
          show Int.fdiv (u : Int) (2 ^ min (7 : Int).toNat 64) = _
          have : (2 : Int) ^ min (7 : Int).toNat 64 = 128 := by decide
          rw [this, Int.fdiv_eq_ediv_of_nonneg _ (by omega)]
          omega
        cbv <;> ((repeat' apply And.intro) <;> try first | rfl | trivial | exact congrArg (fun z => AE.AV.v (.string z)) e1 | exact congrArg (fun z => AE.AV.v (.int .u64 z)) e2)
end Go.Proofs.Ytjbnffclpebkkaa
