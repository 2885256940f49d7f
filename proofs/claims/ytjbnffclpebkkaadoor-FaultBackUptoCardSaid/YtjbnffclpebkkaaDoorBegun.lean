/- Contract: what faultBegun says. -/
import Derived.Test.YtjbnffclpebkkaaDoorWrite
set_option linter.unusedVariables false
set_option linter.unusedSimpArgs false
namespace Go.Proofs.YtjbnffclpebkkaaDoor
open Go
theorem itoaOK_small (n : Int) (h0 : 0 ≤ n) (h1 : n < 100) : ItoaOK n := by
  refine ⟨(itoa_small n h0 h1 _ rfl).g, ?_⟩
  rw [dec_eq]
  obtain ⟨k, rfl⟩ := Int.eq_ofNat_of_zero_le h0
  have : (Lib.itoa (k : Int)).length ≤ 2 := by
    have hk : ¬ ((k : Int) < 0) := by omega
    rw [Lib.itoa, if_neg hk]
    show (Lib.decDigits k).length ≤ 2
    by_cases h : k < 10
    · rw [Lib.decDigits_one h]; simp
    · rw [Lib.decDigits_two h (by omega)]; simp
  show (Lib.itoa (k : Int)).length ≤ 100
  omega
def f12 : List Fl := [⟨12, 3, 0⟩]
def f9k : List Fl := [⟨0, 9, 0⟩]
/-- The text "12 fall 0\n". -/
def s12 : ByteArray := ⟨#[49, 50, 32, 102, 97, 108, 108, 32, 48, 10]⟩
theorem write12 : ((s12, 0) : ByteArray × Int) = writeS 1 f12 := by
  have h1 : checkS 1 f12 = 0 := by decide
  rw [writeS, if_pos h1]
  congr 1
  have h2 : dec 12 = ⟨#[49, 50]⟩ := by
    rw [dec_eq]
    have : Lib.itoa 12 = [49, 50] := by
      show Lib.decDigits 12 = _
      rw [Lib.decDigits_two (by decide) (by decide)]; rfl
    rw [this]
  have h3 : dec 0 = ⟨#[48]⟩ := by
    rw [dec_eq]
    have : Lib.itoa 0 = [48] := by
      show Lib.decDigits 0 = _
      rw [Lib.decDigits_one (by decide)]; rfl
    rw [this]
  show s12 = ByteArray.empty ++ lineB ⟨12, 3, 0⟩
  unfold lineB
  rw [h2, h3]
  decide

set_option maxRecDepth 100000 in
set_option maxHeartbeats 0 in
theorem begun_ok (q : Bool) (hq : q = true) : AE.ACall Tryd.prog 8 [] [] [] (.b q) := by
  refine AE.ACall.of_walk (fn := Tryd.f8) (c := bodyOf Tryd.f8) tabOK Tryd.func8 rfl rfl mixed fun A hA X => ?_
  have hI : ∀ x ∈ f12, ItoaOK x.t ∧ ItoaOK x.n := fun x hx => by
    simp [f12] at hx; subst hx; exact ⟨itoaOK_small 12 (by decide) (by decide), itoaOK_small 0 (by decide) (by decide)⟩
  have he' : [fcells ⟨12, 3, 0⟩] = fl f12 := by rw [fl_eq]; rfl
  have hd' : [fcells ⟨0, 9, 0⟩] = fl f9k := by rw [fl_eq]; rfl
  obtain ⟨s, hs⟩ : ∃ s, s = s12 := ⟨_, rfl⟩
  obtain ⟨e0, he0⟩ : ∃ e0 : Int, e0 = 0 := ⟨_, rfl⟩
  obtain ⟨e3, he3⟩ : ∃ e3 : Int, e3 = 3 := ⟨_, rfl⟩
  obtain ⟨rd, hrd⟩ : ∃ rd : Bool, rd = true := ⟨_, rfl⟩
  have hw := write_ok f12 (by decide) 1 [fcells ⟨12, 3, 0⟩] he' hI s e0 (by rw [hs, he0]; exact write12)
  have hdn := down_ok f12 (by decide) 0 12 [fcells ⟨12, 3, 0⟩] he' rd (by rw [hrd]; decide)
  have hck := check_ok f9k (by decide) 1 [fcells ⟨0, 9, 0⟩] hd' e3 (by rw [he3]; decide)
  have hc1 : A.cmp .eql e0 0 = true := by subst hA; rw [he0]; rfl
  have hc2 : A.scmp .eql s ⟨⟨[49, 50, 32, 102, 97, 108, 108, 32, 48, 10]⟩⟩ = true := by subst hA; rw [hs]; exact beq_self_eq_true s12.toList
  have hc3 : A.cmp .eql e3 3 = q := by subst hA; rw [he3, hq]; rfl
  clear hI he' hd'
  repeat' (first | (refine X.go 500 _ _ ?_; cbv) | (refine X.split _ _ _ _ _ (fun hc => ?_) (fun hc => ?_) <;> first | exact absurd (Eq.trans (Eq.symm (show _ = true by assumption)) hc) (by decide) | exact absurd (Eq.trans (Eq.symm (show _ = false by assumption)) hc) (by decide) | skip) | (refine X.callFrz _ _ _ _ _ 0 ?_; cbv; (refine X.calls [] hw (by cbv) ?_ (by cbv) ?_; focus (cbv <;> ((repeat' apply And.intro) <;> first | rfl | trivial)))) | (refine X.calls [] hdn (by cbv) ?_ (by cbv) ?_; focus (cbv <;> ((repeat' apply And.intro) <;> first | rfl | trivial))) | (refine X.callFrz _ _ _ _ _ 1 ?_; cbv; (refine X.calls [] hck (by cbv) ?_ (by cbv) ?_; focus (cbv <;> ((repeat' apply And.intro) <;> first | rfl | trivial)))))
  refine X.ret _ (X.done rfl ?_)
  cbv
  (repeat' apply And.intro) <;> first | exact hc3 | trivial
end Go.Proofs.YtjbnffclpebkkaaDoor
