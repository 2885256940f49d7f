/- Contract: the reference's Faults says what the program's Check says. -/
import Derived.Test.YtjbnffclpebkkaaDoorCheck
import Derived.Test.YtjbnffclpebkkaaDoorParts
set_option linter.unusedVariables false
set_option linter.unusedSimpArgs false
namespace Go.Proofs.YtjbnffclpebkkaaDoor
open Go
theorem lastT_succ (l : List Fl) (i : Nat) (h : i < l.length) : lastT (l.take (i + 1)) = l[i].t := by
  have h2 : l.take (i + 1) = l.take i ++ [l[i]] := by rw [List.take_add_one, List.getElem?_eq_getElem h]; rfl
  rw [h2, lastT, List.getLast?_append]; simp
theorem down_last (n : Int) : ∀ (l : List Fl), (∀ y ∈ l, y.t ≤ 2000) → downF n 2000 l = lastK n l := by
  intro l h
  rw [downF, lastK]
  generalize false = b
  induction l generalizing b with
  | nil => rfl
  | cons x l ih =>
    simp only [List.foldl_cons]
    have hx : x.t ≤ 2000 := h x (by simp)
    have : (if hit n 2000 x = true then decide (x.k = 3) else b) = if x.n = n ∧ (x.k = 3 ∨ x.k = 4) then decide (x.k = 3) else b := by
      simp only [hit, Bool.and_eq_true, Bool.or_eq_true, decide_eq_true_eq]
      by_cases h1 : x.n = n ∧ (x.k = 3 ∨ x.k = 4)
      · rw [if_pos ⟨⟨h1.1, hx⟩, h1.2⟩, if_pos h1]
      · rw [if_neg (fun h2 => h1 ⟨h2.1.1, h2.2⟩), if_neg h1]
    rw [this]
    exact ih (fun y hy => h y (by simp [hy])) _

set_option maxRecDepth 100000 in
set_option maxHeartbeats 0 in
theorem faults_ok (l : List Fl) (hl : l.length < 2 ^ 62) (arms : Int) (es : List (List AE.AV)) (he : es = fl l) (r : Int) (hr : r = checkS arms l) :
    AE.ACall Tryd.prog 10 [] [.l 3 es, .v (.int .i64 arms)] [] (.v (.int .i64 r)) := by
  refine AE.ACall.of_walk (fn := Tryd.f10) (c := bodyOf Tryd.f10) tabOK Tryd.func10 rfl rfl mixed fun A hA X => ?_
  have hn : A.llen es = l.length := by subst hA; subst he; simp [AE.std, fl_len]
  obtain ⟨lt, hlt0⟩ : ∃ lt : Nat → Int, ∀ i, lt i = lastT (l.take i) := ⟨_, fun _ => rfl⟩
  (refine X.go 500 _ _ ?_; cbv)
  (refine X.split _ _ _ _ _ (fun hc => ?_) (fun hc => ?_) <;> first | exact absurd (Eq.trans (Eq.symm (show _ = true by assumption)) hc) (by decide) | exact absurd (Eq.trans (Eq.symm (show _ = false by assumption)) hc) (by decide) | skip)
  · have h5 := AE.gtT hA hc
    have h6 : (40 : Int) < (l.length : Int) := Int.lt_of_lt_of_le (show (40 : Int) < A.llen es from h5) (Int.le_of_eq hn)
    have h7 : 2 = r := by rw [hr, checkS, if_pos (by omega)]
    (refine X.go 500 _ _ ?_; cbv)
    refine X.ret _ (X.done rfl ?_)
    cbv
    (repeat' apply And.intro) <;> first | exact h7 | trivial
  have hle : l.length ≤ 40 := by have h5 : (l.length : Int) ≤ 40 := Int.le_trans (Int.le_of_eq hn.symm) (show A.llen es ≤ 40 from AE.gtF hA hc); omega
  have hr0 : r = chkR arms [] l := by rw [hr, checkS, if_neg (by omega)]
  (refine X.go 500 _ _ ?_; cbv)
  refine X.carries (ι := { i : Nat // i ≤ l.length ∧ chkR arms (l.take i) (l.drop i) = r ∧ ∀ y ∈ l.take i, y.t ≤ 2000 }) (fun i => [(14, .v (.int .i64 i.1)), (5, .v (.int .i64 (lt i.1)))]) (fun _ => []) (fun i => l.length - i.1) ⟨0, Nat.zero_le _, by rw [hr0]; rfl, by simp⟩ ?_ fun i B hB => ?_
  · cbv
    ((repeat' apply And.intro) <;> (try first | rfl | trivial))
    exact (hlt0 0).symm
  obtain ⟨i, hi, hinv, hinv2⟩ := i
  obtain ⟨pt, hpt⟩ : ∃ pt, pt = lt i := ⟨_, rfl⟩
  simp only [← hpt]
  (refine X.go 500 _ _ ?_; cbv)
  (refine X.split _ _ _ _ _ (fun hc => ?_) (fun hc => ?_) <;> first | exact absurd (Eq.trans (Eq.symm (show _ = true by assumption)) hc) (by decide) | exact absurd (Eq.trans (Eq.symm (show _ = false by assumption)) hc) (by decide) | skip)
  · have hlt : i < l.length := AE.ltN hA hn hc
    obtain ⟨x, hx⟩ : ∃ x, x = l[i] := ⟨_, rfl⟩
    have hge : es[i]? = some (fcells x) := by rw [he, fl_get l i hlt, hx]
    obtain ⟨d, hd⟩ : ∃ d, d = downI x.n (l.take i) := ⟨_, rfl⟩
    have hstep := chk_step arms l i hlt
    rw [← hx, ← hd, ← hlt0, ← hpt] at hstep
    obtain ⟨db, hdb⟩ : ∃ db, db = downF x.n 2000 (l.take i) := ⟨_, rfl⟩
    have hdd : db = decide (d = 1) := by
      rw [hdb, hd, down_last _ _ hinv2, downI]
      cases lastK x.n (l.take i) <;> rfl
    have hsl : A.lsub es 0 (Int.ofNat i) = fl (l.take i) := by subst hA; rw [he, fl_eq, fl_eq, List.map_take]; rfl
    have hcut : AE.CutR (Int.ofNat i) (A.llen es) := by
      constructor
      · exact Int.natCast_nonneg i
      · have : (i : Int) ≤ (l.length : Int) := by omega
        exact Int.le_trans this (Int.le_of_eq hn.symm)
    have hcd := refDown_ok (l.take i) (by simp; omega) x.n 2000 (A.lsub es 0 (Int.ofNat i)) hsl db hdb
    have hadd := AE.addN hA (show i < 2 ^ 62 by omega)
    have hlast : x.t = lt (i + 1) := by rw [hlt0, lastT_succ _ _ hlt, hx]
    have hnext : x.t ≤ 2000 → ∀ y ∈ l.take (i + 1), y.t ≤ 2000 := fun h y hy => by
      rw [List.take_add_one, List.getElem?_eq_getElem hlt, ← hx] at hy
      rcases List.mem_append.1 hy with hy | hy
      · exact hinv2 y hy
      · simp at hy; rw [hy]; exact h
    have hb0 : ∀ e : Int, e ≠ 0 → bad arms pt d x = e → e = r := fun e h0 h => by rw [← hinv, hstep, h, if_neg h0]
    have hb1 : bad arms pt d x = 0 → chkR arms (l.take (i + 1)) (l.drop (i + 1)) = r ∧ ∀ y ∈ l.take (i + 1), y.t ≤ 2000 := fun h => by
      refine ⟨by rw [← hinv, hstep, if_pos h], hnext ?_⟩
      by_cases hq : x.t < 0 ∨ 2000 < x.t
      · rw [bad, if_pos hq] at h; cases h
      · omega
    clear hnext hsl hdb
    (refine X.go 500 _ _ ?_; cbv)
    refine X.idx _ _ _ _ _ _ i _ hge rfl ?_
    repeat' (first | (refine X.go 500 _ _ ?_; cbv) | (refine X.split _ _ _ _ _ (fun hc => ?_) (fun hc => ?_) <;> first | exact absurd (Eq.trans (Eq.symm (show _ = true by assumption)) hc) (by decide) | exact absurd (Eq.trans (Eq.symm (show _ = false by assumption)) hc) (by decide) | skip) | refine X.draw _ _ _ (X.frzB 0 _ _ (by simp) ?_) | refine X.need _ _ _ hcut ?_ | (refine X.calls [] hcd (by cbv) ?_ (by cbv) ?_; focus (cbv <;> ((repeat' apply And.intro) <;> first | rfl | trivial))))
    all_goals first
      | (refine X.ret _ (X.done rfl ?_); clear hB; cbv; ((repeat' apply And.intro) <;> (try first | rfl | trivial)); refine hb0 _ (by decide) ?_; clear X hb0 hb1 hstep hge hx hinv hinv2 hd hpt hcd hcut hadd hlast; simp only [AE.c_lss hA, AE.c_leq hA, AE.c_gtr hA, AE.c_geq hA, AE.c_eql hA, AE.c_neq hA, AE.c_not hA, AE.c_and hA, AE.c_beq hA, AE.c_bne hA, decide_eq_true_eq, decide_eq_false_iff_not, Bool.not_eq_true, Bool.not_eq_false, Bool.not_eq_eq_eq_not, Bool.not_true, Bool.not_false, Int.not_lt, Int.not_le, Int.ofNat_eq_natCast, hdd] at *; unfold bad; (repeat' split) <;> omega)
      | (refine hB ⟨i + 1, hlt, hb1 ?_⟩ _ (by show l.length - (i + 1) < l.length - i; omega) ?_ <;> clear hB <;> first | (clear X hb0 hb1 hstep hge hx hinv hinv2 hd hpt hcd hcut hadd hlast; simp only [AE.c_lss hA, AE.c_leq hA, AE.c_gtr hA, AE.c_geq hA, AE.c_eql hA, AE.c_neq hA, AE.c_not hA, AE.c_and hA, AE.c_beq hA, AE.c_bne hA, decide_eq_true_eq, decide_eq_false_iff_not, Bool.not_eq_true, Bool.not_eq_false, Bool.not_eq_eq_eq_not, Bool.not_true, Bool.not_false, Int.not_lt, Int.not_le, Int.ofNat_eq_natCast, hdd] at *; unfold bad; (repeat' split) <;> omega) | (cbv; ((repeat' apply And.intro) <;> (try first | rfl | trivial)) <;> first | exact hadd | exact hlast))
  · have hge : i = l.length := by have := AE.geN hA hn hc; omega
    have hrz : (0 : Int) = r := by rw [← hinv, hge, List.drop_length, List.take_length]; rfl
    (refine X.go 500 _ _ ?_; cbv)
    refine X.ret _ (X.done rfl ?_)
    cbv
    (repeat' apply And.intro) <;> first | exact hrz | trivial
end Go.Proofs.YtjbnffclpebkkaaDoor
