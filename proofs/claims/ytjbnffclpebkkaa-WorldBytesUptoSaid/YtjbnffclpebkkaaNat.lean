import Derived.Test.YtjbnffclpebkkaaTypes
import Derived.Test.YtjbnffclpebkkaaAE14
set_option linter.unusedVariables false
namespace Go.Proofs.Ytjbnffclpebkkaa
open Go
def bodyOf (f : Func) : Code := f.body.getD .skip
theorem mixed : Try.prog.follows .mixedOrders = true := by kernel_rfl

/-- Bytes as elements. -/
theorem bl_ex : ∃ g : List UInt8 → List (List AE.AV), ∀ l, g l = l.map fun b => [.v (.int .u8 b.toNat)] := ⟨_, fun _ => rfl⟩
noncomputable def bl : List UInt8 → List (List AE.AV) := bl_ex.choose
theorem bl_eq (l : List UInt8) : bl l = l.map fun b => [.v (.int .u8 b.toNat)] := bl_ex.choose_spec l
def natL (u : Nat) : List UInt8 := if h : u < 128 then [UInt8.ofNat u] else UInt8.ofNat (u % 128 + 128) :: natL (u / 128)
termination_by u


theorem natL_len : ∀ (u : Nat), u < 2 ^ 64 → (natL u).length ≤ 10 := by
  have key : ∀ (k u : Nat), u < 128 ^ (k + 1) → (natL u).length ≤ k + 1 := by
    intro k
    induction k with
    | zero => intro u h; unfold natL; rw [dif_pos (by simpa using h)]; simp
    | succ k ih =>
      intro u h
      unfold natL
      split
      · simp
      · have : u / 128 < 128 ^ (k + 1) := by rw [Nat.div_lt_iff_lt_mul (by omega)]; rw [Nat.pow_succ] at h; exact h
        have := ih _ this
        simp; omega
  intro u h
  exact key 9 u (by omega)
theorem bl_app (l m : List UInt8) : bl (l ++ m) = bl l ++ bl m := by simp [bl_eq]
theorem bl_len (l : List UInt8) : (bl l).length = l.length := by simp [bl_eq]

theorem nat_ok (n : Int) (l : List UInt8) (hl : l.length + 10 ≤ 2 ^ 46) (es es' : List (List AE.AV)) (he : es = bl l) (he' : es' = bl (l ++ natL (n % 2 ^ 64).toNat)) :
    AE.ACall Try.prog 9 [.box [.r 1] 38, .row 5 1 es] [.p 0 0, .v (.int .i64 n)] [.box [.r 1] 38, .row 5 1 es'] (.t []) := by
  refine AE.ACall.of_walk (fn := Try.f9) (c := bodyOf Try.f9) tabOK Try.func9 rfl rfl mixed fun A hA X => ?_
  obtain ⟨u0, hu0⟩ : ∃ u0 : Nat, u0 = (n % 2 ^ 64).toNat := ⟨_, rfl⟩
  obtain ⟨fin, hfin⟩ : ∃ fin, fin = l ++ natL u0 := ⟨_, rfl⟩
  have hu0' : A.conv .u64 n = u0 := by
    subst hA; simp only [AE.std, IntKind.wrap, IntKind.bits, IntKind.signed]; simp; omega
  have hu0l : u0 < 2 ^ 64 := by omega
  refine X.go 500 _ _ ?_
  cbv
  refine X.carries (ι := { p : Nat × List UInt8 // p.1 < 2 ^ 64 ∧ p.2 ++ natL p.1 = fin }) (fun p => [(4, .v (.int .u64 p.1.1))]) (fun p => [.box [.r 1] 38, .row 5 1 (bl p.1.2)]) (fun p => p.1.1) ⟨(u0, l), hu0l, hfin.symm⟩ ?_ fun i B hB => ?_
  · cbv
    first | exact congrArg (fun z => AE.AV.v (.int .u64 z)) hu0' | exact ⟨⟨congrArg (fun z => AE.AV.v (.int .u64 z)) hu0', trivial⟩, ⟨he, trivial⟩, trivial⟩
  · obtain ⟨⟨u, pre⟩, hi1, hi⟩ := i
    simp only at hi1 hi
    obtain ⟨ep, hep⟩ : ∃ ep, ep = bl pre := ⟨_, rfl⟩
    simp only [← hep]
    have hfl : fin.length = l.length + (natL u0).length := by rw [hfin]; simp
    have hfl2 : fin.length = pre.length + (natL u).length := by rw [← hi]; simp
    have := natL_len u0 hu0l
    have hnl : 1 ≤ (natL u).length := by unfold natL; split <;> simp
    have hroom : ∀ z : AE.AV, AE.GrowR (A.llen ep) (A.llen [[z]]) 1 := by
      intro z; subst hA; constructor <;> simp only [AE.std, hep, bl_len, List.length_singleton] <;> omega
    refine X.go 500 _ _ ?_
    cbv
    refine X.split _ _ _ _ _ (fun hc => ?_) (fun hc => ?_)
    · have hge : 128 ≤ u := by
        have : (128 : Int) ≤ u := by subst hA; simpa [AE.std, AE.cmpI] using hc
        omega
      refine X.go 500 _ _ ?_
      cbv
      refine X.need _ _ _ trivial ?_
      refine X.go 500 _ _ ?_
      cbv
      refine X.need _ _ _ (hroom _) ?_
      refine X.go 500 _ _ ?_
      cbv
      refine X.need _ _ _ trivial ?_
      refine X.go 500 _ _ ?_
      cbv
      refine hB ⟨(u / 128, pre ++ [UInt8.ofNat (u % 128 + 128)]), by show u / 128 < 2 ^ 64; omega, ?_⟩ _ (by show u / 128 < u; omega) ?_
      · rw [← hi]; conv => rhs; unfold natL
        rw [dif_neg (by omega)]; simp
      · obtain ⟨r1, hr1⟩ : ∃ r1, r1 = bl (pre ++ [UInt8.ofNat (u % 128 + 128)]) := ⟨_, rfl⟩
        obtain ⟨u1, hu1⟩ : ∃ u1 : Nat, u1 = u / 128 := ⟨_, rfl⟩
        simp only [← hr1, ← hu1]
        cbv
        refine ⟨⟨?_, trivial⟩, ⟨?_, trivial⟩, trivial⟩
        · subst hA; subst hu1
          simp only [AE.std, AE.binI, AE.wrap_u64]
          congr 2
          show (Int.tdiv (u : Int) 128) % 18446744073709551616 = ((u / 128 : Nat) : Int)
          rw [Int.tdiv_eq_ediv_of_nonneg (by omega)]
          omega
        · subst hA; subst hr1; subst hep
          rw [bl_app]
          simp only [AE.std, AE.binI, AE.wrap_u8, bl_eq, List.map_cons, List.map_nil]
          congr 6
          show (Int.tmod (u : Int) 128 % 256 + 128) % 256 = _
          rw [Int.tmod_eq_emod_of_nonneg (by omega)]
          simp
    · refine X.go 500 _ _ ?_
      cbv
      refine X.need _ _ _ (hroom _) ?_
      refine X.go 500 _ _ ?_
      cbv
      refine X.fin _ ?_
      refine X.done rfl ?_
      cbv
      refine ⟨⟨?_, trivial⟩, trivial⟩
      have hlt : u < 128 := by
        have : (u : Int) < 128 := by subst hA; simpa [AE.std, AE.cmpI] using hc
        omega
      subst hA; subst hep; subst he'
      rw [← hu0, ← hfin, ← hi, bl_app]
      unfold natL
      rw [dif_pos hlt]
      simp only [AE.std, AE.wrap_u8, bl_eq, List.map_cons, List.map_nil]
      congr 6
end Go.Proofs.Ytjbnffclpebkkaa
