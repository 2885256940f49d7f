/- Contracts: the program's and the reference's Down, own, words. Faults as lists of numbers. -/
import Derived.Test.YtjbnffclpebkkaaDoorItoa
set_option linter.unusedVariables false
set_option linter.unusedSimpArgs false
namespace Go.Proofs.YtjbnffclpebkkaaDoor
open Go
/-- A fault: its tick, its kind, its number. -/
structure Fl where
  t : Int
  k : Int
  n : Int
def fcells (x : Fl) : List AE.AV := [.v (.int .i64 x.t), .v (.int .i64 x.k), .v (.int .i64 x.n)]
theorem fl_ex : ∃ g : List Fl → List (List AE.AV), ∀ l, g l = l.map fcells := ⟨_, fun _ => rfl⟩
/-- A list of faults as elements (by choice, so that no reckoning lays it open). -/
noncomputable def fl : List Fl → List (List AE.AV) := fl_ex.choose
theorem fl_eq (l : List Fl) : fl l = l.map fcells := fl_ex.choose_spec l
theorem fl_len (l : List Fl) : (fl l).length = l.length := by simp [fl_eq]
theorem fl_get (l : List Fl) (i : Nat) (h : i < l.length) : (fl l)[i]? = some (fcells l[i]) := by simp [fl_eq, h]
theorem fold_succ {α β : Type} (F : β → α → β) (b : β) (l : List α) (i : Nat) (h : i < l.length) : (l.take (i + 1)).foldl F b = F ((l.take i).foldl F b) l[i] := by
  rw [List.take_add_one, List.getElem?_eq_getElem h, List.foldl_append]; rfl

theorem own_ok (k : Int) (q : Bool) (hq : q = decide (3 ≤ k)) : AE.ACall Tryd.prog 39 [] [.v (.int .i64 k)] [] (.v (.bool q)) := by
  refine AE.ACall.of_walk (fn := Tryd.f39) (c := bodyOf Tryd.f39) tabOK Tryd.func39 rfl rfl mixed fun A hA X => ?_
  (refine X.go 500 _ _ ?_; cbv)
  (refine X.ret _ (X.done rfl ?_); cbv)
  ((repeat' apply And.intro) <;> (try first | rfl | trivial))
  subst hA; subst hq; rfl

/-- The words of the kinds of faults. -/
def wordsL : List (List UInt8) := [[108, 111, 115, 101], [116, 119, 105, 99, 101], [108, 97, 116, 101], [102, 97, 108, 108], [98, 97, 99, 107], [100, 114, 105, 102, 116]]
theorem wl_ex : ∃ g : List (List AE.AV), g = wordsL.map fun w => [.v (.string ⟨w.toArray⟩)] := ⟨_, rfl⟩
noncomputable def wl : List (List AE.AV) := wl_ex.choose
theorem wl_eq : wl = wordsL.map fun w => [.v (.string ⟨w.toArray⟩)] := wl_ex.choose_spec
theorem words_ok (es : List (List AE.AV)) (he : es = wl) : AE.ACall Tryd.prog 38 [] [] [.row 9 1 es] (.r 0) := by
  refine AE.ACall.of_walk (fn := Tryd.f38) (c := bodyOf Tryd.f38) tabOK Tryd.func38 rfl rfl mixed fun A hA X => ?_
  (refine X.go 500 _ _ ?_; cbv)
  (refine X.ret _ (X.done rfl ?_); cbv)
  ((repeat' apply And.intro) <;> (try first | rfl | trivial))
  rw [he, wl_eq]; rfl

/-- Does a fault put the controller of an arm down, or up, at such a tick? -/
def hit (n tick : Int) (x : Fl) : Bool := decide (x.n = n) && decide (x.t ≤ tick) && (decide (x.k = 3) || decide (x.k = 4))
def downF (n tick : Int) (l : List Fl) : Bool := l.foldl (fun is x => if hit n tick x then decide (x.k = 3) else is) false

theorem down_ok (l : List Fl) (hl : l.length < 2 ^ 62) (n tick : Int) (es : List (List AE.AV)) (he : es = fl l) (r : Bool) (hr : r = downF n tick l) :
    AE.ACall Tryd.prog 11 [] [.l 3 es, .v (.int .i64 n), .v (.int .i64 tick)] [] (.b r) := by
  refine AE.ACall.of_walk (fn := Tryd.f11) (c := bodyOf Tryd.f11) tabOK Tryd.func11 rfl rfl mixed fun A hA X => ?_
  have hn : A.llen es = l.length := by subst hA; subst he; simp [AE.std, fl_len]
  obtain ⟨dn, hdn⟩ : ∃ dn : Nat → Bool, ∀ i, dn i = downF n tick (l.take i) := ⟨_, fun _ => rfl⟩
  (refine X.go 500 _ _ ?_; cbv)
  refine X.carries (ι := { i : Nat // i ≤ l.length }) (fun i => [(12, .v (.int .i64 i.1)), (7, .b (dn i.1))]) (fun _ => []) (fun i => l.length - i.1) ⟨0, Nat.zero_le _⟩ ?_ fun i B hB => ?_
  · cbv
    ((repeat' apply And.intro) <;> (try first | rfl | trivial))
    exact (hdn 0).symm
  obtain ⟨i, hi⟩ := i
  (refine X.go 500 _ _ ?_; cbv)
  (refine X.split _ _ _ _ _ (fun hc => ?_) (fun hc => ?_) <;> first | exact absurd (Eq.trans (Eq.symm (show _ = true by assumption)) hc) (by decide) | exact absurd (Eq.trans (Eq.symm (show _ = false by assumption)) hc) (by decide) | skip)
  · have hlt : i < l.length := by subst hA; simpa [AE.std, AE.cmpI, hn, he, fl_len] using hc
    obtain ⟨x, hx⟩ : ∃ x, x = l[i] := ⟨_, rfl⟩
    have hge : es[i]? = some (fcells x) := by rw [he, fl_get l i hlt, hx]
    have hadd : A.bin .add .i64 (i : Int) 1 = ((i + 1 : Nat) : Int) := by subst hA; rw [AE.std_add] <;> omega
    have hstep : dn (i + 1) = if hit n tick x then decide (x.k = 3) else dn i := by rw [hdn, hdn, downF, fold_succ _ _ _ _ hlt, ← hx]; rfl
    (refine X.go 500 _ _ ?_; cbv)
    refine X.idx _ _ _ _ _ _ i _ hge rfl ?_
    repeat' (first | (refine X.go 500 _ _ ?_; cbv) | (refine X.split _ _ _ _ _ (fun hc => ?_) (fun hc => ?_) <;> first | exact absurd (Eq.trans (Eq.symm (show _ = true by assumption)) hc) (by decide) | exact absurd (Eq.trans (Eq.symm (show _ = false by assumption)) hc) (by decide) | skip))
    all_goals (refine hB ⟨i + 1, hlt⟩ _ (by show l.length - (i + 1) < l.length - i; omega) ?_; cbv; ((repeat' apply And.intro) <;> (try first | rfl | trivial)))
    all_goals first | exact hadd | skip
    all_goals (show _ = dn (i + 1); rw [hstep]; clear hB X hge hx hdn; simp only [AE.c_lss hA, AE.c_leq hA, AE.c_gtr hA, AE.c_geq hA, AE.c_eql hA, AE.c_neq hA, AE.c_not hA, AE.c_and hA, AE.c_beq hA, AE.c_bne hA, decide_eq_true_eq, decide_eq_false_iff_not, Bool.not_eq_true, Bool.not_eq_false, Bool.not_eq_eq_eq_not, Bool.not_true, Bool.not_false, Int.not_lt, Int.not_le, Int.ofNat_eq_natCast] at *; simp [hit, *]; try omega)
  · have hge : i = l.length := by
      have : ¬ i < l.length := by subst hA; simpa [AE.std, AE.cmpI, hn, he, fl_len] using hc
      omega
    (refine X.go 500 _ _ ?_; cbv)
    (refine X.ret _ (X.done rfl ?_); cbv)
    ((repeat' apply And.intro) <;> (try first | rfl | trivial))
    show dn i = r
    rw [hdn i, hge, List.take_length, hr]
end Go.Proofs.YtjbnffclpebkkaaDoor
