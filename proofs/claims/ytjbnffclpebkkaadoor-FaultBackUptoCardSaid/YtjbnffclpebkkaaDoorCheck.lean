/- Contracts: the program's Check and the reference's Faults and Down. -/
import Derived.Test.YtjbnffclpebkkaaDoorFault
set_option linter.unusedVariables false
set_option linter.unusedSimpArgs false
namespace Go.Proofs.YtjbnffclpebkkaaDoor
open Go
/-- Is the controller of an arm down after such faults? -/
def lastK (n : Int) (l : List Fl) : Bool := l.foldl (fun is x => if x.n = n ∧ (x.k = 3 ∨ x.k = 4) then decide (x.k = 3) else is) false
noncomputable def mapF (l : List Fl) : Value → Option Value := l.foldl (fun g x => if x.k = 3 ∨ x.k = 4 then AE.msetF g (.int .i64 x.n) (.bool (decide (x.k = 3))) else g) (fun _ => none)
theorem mB_set (g : Value → Option Value) (a n : Int) (b : Bool) : AE.std.mB (AE.msetF g (.int .i64 a) (.bool b)) (.int .i64 n) = if a = n then b else AE.std.mB g (.int .i64 n) := by
  simp only [AE.std, AE.msetF]
  by_cases h : a = n
  · subst h; simp
  · have : ¬ (Value.int IntKind.i64 n = Value.int IntKind.i64 a) := fun e => by cases e; exact h rfl
    simp [h, this]
theorem mapF_get (n : Int) (l : List Fl) : AE.std.mB (mapF l) (.int .i64 n) = lastK n l := by
  rcases List.eq_nil_or_concat l with rfl | ⟨m, x, rfl⟩
  · rfl
  · have ih := mapF_get n m
    simp only [mapF, lastK, List.concat_eq_append, List.foldl_append, List.foldl_cons, List.foldl_nil] at *
    by_cases hk : x.k = 3 ∨ x.k = 4
    · rw [if_pos hk, mB_set]
      by_cases hn : x.n = n
      · rw [if_pos hn, if_pos ⟨hn, hk⟩]
      · rw [if_neg hn, if_neg (fun h => hn h.1), ih]
    · rw [if_neg hk, if_neg (fun h => hk h.2), ih]
termination_by l.length

/-- What is wrong with a fault behind others (0: nothing): pt: the last tick; di: 1 if the controller is down. -/
def bad (arms pt di : Int) (x : Fl) : Int :=
  if x.t < 0 ∨ 2000 < x.t then 1 else if x.k < 0 ∨ 6 ≤ x.k then 3 else if x.n < 0 ∨ (3 ≤ x.k ∧ arms ≤ x.n) ∨ (x.k < 3 ∧ 40 < x.n) then 1
  else if x.t < pt then 9 else if (x.k = 3 ∧ di = 1) ∨ (x.k = 4 ∧ di ≠ 1) then 7 else 0
def lastT (l : List Fl) : Int := match l.getLast? with | some p => p.t | none => 0
def downI (n : Int) (l : List Fl) : Int := if lastK n l then 1 else 0
def chkR (arms : Int) : List Fl → List Fl → Int
  | _, [] => 0
  | pre, x :: rest => if bad arms (lastT pre) (downI x.n pre) x = 0 then chkR arms (pre ++ [x]) rest else bad arms (lastT pre) (downI x.n pre) x
def checkS (arms : Int) (l : List Fl) : Int := if 40 < l.length then 2 else chkR arms [] l

theorem chk_step (arms : Int) (l : List Fl) (i : Nat) (h : i < l.length) :
    chkR arms (l.take i) (l.drop i) = if bad arms (lastT (l.take i)) (downI l[i].n (l.take i)) l[i] = 0 then chkR arms (l.take (i + 1)) (l.drop (i + 1)) else bad arms (lastT (l.take i)) (downI l[i].n (l.take i)) l[i] := by
  have h1 : l.drop i = l[i] :: l.drop (i + 1) := List.drop_eq_getElem_cons h
  have h2 : l.take i ++ [l[i]] = l.take (i + 1) := by rw [List.take_add_one, List.getElem?_eq_getElem h]; rfl
  rw [h1, chkR, h2]
theorem lastT_take (l : List Fl) (i : Nat) (h : i < l.length) : lastT (l.take i) = match (if i = 0 then none else l[i - 1]?) with | some p => p.t | none => 0 := by
  have h3 : (l.take i).getLast? = if i = 0 then none else l[i - 1]? := by
    rw [List.getLast?_eq_getElem?, List.length_take, Nat.min_eq_left (Nat.le_of_lt h)]
    split
    · rename_i h0; subst h0; simp
    · rw [List.getElem?_take_of_lt (by omega)]
  rw [lastT, h3]

set_option maxRecDepth 100000 in
set_option maxHeartbeats 0 in
theorem check_ok (l : List Fl) (hl : l.length < 2 ^ 62) (arms : Int) (es : List (List AE.AV)) (he : es = fl l) (r : Int) (hr : r = checkS arms l) :
    AE.ACall Tryd.prog 9 [] [.l 3 es, .v (.int .i64 arms)] [] (.v (.int .i64 r)) := by
  refine AE.ACall.of_walk (fn := Tryd.f9) (c := bodyOf Tryd.f9) tabOK Tryd.func9 rfl rfl mixed fun A hA X => ?_
  have hn : A.llen es = l.length := by subst hA; subst he; simp [AE.std, fl_len]
  obtain ⟨gm, hgm⟩ : ∃ gm : Nat → Value → Option Value, ∀ i, gm i = mapF (l.take i) := ⟨_, fun _ => rfl⟩
  (refine X.go 500 _ _ ?_; cbv)
  (refine X.split _ _ _ _ _ (fun hc => ?_) (fun hc => ?_) <;> first | exact absurd (Eq.trans (Eq.symm (show _ = true by assumption)) hc) (by decide) | exact absurd (Eq.trans (Eq.symm (show _ = false by assumption)) hc) (by decide) | skip)
  · (refine X.go 500 _ _ ?_; cbv)
    (refine X.ret _ (X.done rfl ?_); cbv)
    ((repeat' apply And.intro) <;> (try first | rfl | trivial))
    have h5 := AE.gtT hA hc
    have h6 : (40 : Int) < (l.length : Int) := Int.lt_of_lt_of_le (show (40 : Int) < A.llen es from h5) (Int.le_of_eq hn)
    rw [hr, checkS, if_pos (by omega)]
  have hle : l.length ≤ 40 := by have h5 : (l.length : Int) ≤ 40 := Int.le_trans (Int.le_of_eq hn.symm) (show A.llen es ≤ 40 from AE.gtF hA hc); omega
  have hr0 : r = chkR arms [] l := by rw [hr, checkS, if_neg (by omega)]
  (refine X.go 500 _ _ ?_; cbv)
  refine X.carries (ι := { i : Nat // i ≤ l.length ∧ chkR arms (l.take i) (l.drop i) = r }) (fun i => [(14, .v (.int .i64 i.1))]) (fun i => [.mp (.int .i64) .bool (gm i.1)]) (fun i => l.length - i.1) ⟨0, Nat.zero_le _, by rw [hr0]; rfl⟩ ?_ fun i B hB => ?_
  · cbv
    ((repeat' apply And.intro) <;> (try first | rfl | trivial))
    subst hA
    exact (hgm 0).symm
  obtain ⟨i, hi, hinv⟩ := i
  (refine X.go 500 _ _ ?_; cbv)
  (refine X.split _ _ _ _ _ (fun hc => ?_) (fun hc => ?_) <;> first | exact absurd (Eq.trans (Eq.symm (show _ = true by assumption)) hc) (by decide) | exact absurd (Eq.trans (Eq.symm (show _ = false by assumption)) hc) (by decide) | skip)
  · have hlt : i < l.length := AE.ltN hA hn hc
    obtain ⟨x, hx⟩ : ∃ x, x = l[i] := ⟨_, rfl⟩
    have hge : es[i]? = some (fcells x) := by rw [he, fl_get l i hlt, hx]
    obtain ⟨g, hg⟩ : ∃ g, g = gm i := ⟨_, rfl⟩
    simp only [← hg]
    (refine X.go 500 _ _ ?_; cbv)
    refine X.idx _ _ _ _ _ _ i _ hge rfl ?_
    obtain ⟨y, hy⟩ : ∃ y : Fl, 0 < i → l[i - 1]? = some y := by
      by_cases h0 : 0 < i
      · exact ⟨l[i - 1]'(by omega), fun _ => List.getElem?_eq_getElem _⟩
      · exact ⟨x, fun h => absurd h h0⟩
    have hp : 0 < i → es[i - 1]? = some (fcells y) := fun h0 => by rw [he, fl_eq, List.getElem?_map, hy h0]; rfl
    obtain ⟨pt, hpt⟩ : ∃ pt, pt = lastT (l.take i) := ⟨_, rfl⟩
    obtain ⟨d, hd⟩ : ∃ d, d = downI x.n (l.take i) := ⟨_, rfl⟩
    have hstep := chk_step arms l i hlt
    rw [← hx, ← hd, ← hpt] at hstep
    have hmb : A.mB g (.int .i64 x.n) = decide (d = 1) := by
      subst hA; rw [hg, hgm, mapF_get, hd, downI]
      cases lastK x.n (l.take i) <;> rfl
    have hgs : gm (i + 1) = if x.k = 3 ∨ x.k = 4 then AE.msetF g (.int .i64 x.n) (.bool (decide (x.k = 3))) else g := by
      rw [hg, hgm, hgm, mapF, fold_succ _ _ _ _ hlt, ← hx]; rfl
    obtain ⟨w, hw⟩ : ∃ w, w = wl := ⟨_, rfl⟩
    have hwl : A.llen w = 6 := by subst hA; rw [hw, wl_eq]; rfl
    have hpy : (0 < i ∧ pt = y.t) ∨ (i = 0 ∧ pt = 0) := by
      rw [hpt, lastT_take l i hlt]
      by_cases h0 : 0 < i
      · left; rw [if_neg (by omega), hy h0]; exact ⟨h0, rfl⟩
      · right; rw [if_pos (by omega)]; exact ⟨by omega, rfl⟩
    have hup : ∀ g', g' = A.mset g (.int .i64 x.n) (.bool (A.cmp .eql x.k 3)) → (x.k = 3 ∨ x.k = 4) → g' = gm (i + 1) := fun g' h h1 => by rw [h, hgs, if_pos h1, AE.c_mset hA, AE.c_eql hA]
    have hno : ¬ (x.k = 3 ∨ x.k = 4) → g = gm (i + 1) := fun h1 => by rw [hgs, if_neg h1]
    have hb0 : ∀ e : Int, e ≠ 0 → bad arms pt d x = e → e = r := fun e h0 h => by rw [← hinv, hstep, h, if_neg h0]
    have hb1 : bad arms pt d x = 0 → chkR arms (l.take (i + 1)) (l.drop (i + 1)) = r := fun h => by rw [← hinv, hstep, if_pos h]
    by_cases hk : 3 ≤ x.k
    · have hq : true = decide (3 ≤ x.k) := by simp [hk]
      repeat' (first | (refine X.go 500 _ _ ?_; cbv) | (refine X.split _ _ _ _ _ (fun hc => ?_) (fun hc => ?_) <;> first | exact absurd (Eq.trans (Eq.symm (show _ = true by assumption)) hc) (by decide) | exact absurd (Eq.trans (Eq.symm (show _ = false by assumption)) hc) (by decide) | skip) | refine X.draw _ _ _ (X.frzB 1 _ _ (by simp) ?_) | refine X.idx _ _ _ _ _ _ (i - 1) _ (hp (AE.posN hA (by assumption))) (AE.subN hA (AE.posN hA (by assumption)) (by omega)) ?_ | (refine X.calls [] (words_ok w hw) (by cbv) ?_ (by cbv) ?_; focus (cbv <;> ((repeat' apply And.intro) <;> first | rfl | trivial))) | (refine X.calls [] (own_ok x.k true hq) (by cbv) ?_ (by cbv) ?_; focus (cbv <;> ((repeat' apply And.intro) <;> first | rfl | trivial))))
      all_goals first
        | (refine X.ret _ (X.done rfl ?_); clear hB; cbv; ((repeat' apply And.intro) <;> (try first | rfl | trivial)); refine hb0 _ (by decide) ?_; clear X hb0 hb1 hgs hp hstep hge hx hinv hd hpt hy; simp only [AE.c_lss hA, AE.c_leq hA, AE.c_gtr hA, AE.c_geq hA, AE.c_eql hA, AE.c_neq hA, AE.c_not hA, AE.c_and hA, AE.c_beq hA, AE.c_bne hA, decide_eq_true_eq, decide_eq_false_iff_not, Bool.not_eq_true, Bool.not_eq_false, Bool.not_eq_eq_eq_not, Bool.not_true, Bool.not_false, Int.not_lt, Int.not_le, Int.ofNat_eq_natCast, hwl, hmb] at *; unfold bad; (repeat' split) <;> omega)
        | (refine hB ⟨i + 1, hlt, hb1 ?_⟩ _ (by show l.length - (i + 1) < l.length - i; omega) ?_ <;> clear hB <;> first | (clear X hb0 hb1 hgs hp hstep hge hx hinv hd hpt hy; simp only [AE.c_lss hA, AE.c_leq hA, AE.c_gtr hA, AE.c_geq hA, AE.c_eql hA, AE.c_neq hA, AE.c_not hA, AE.c_and hA, AE.c_beq hA, AE.c_bne hA, decide_eq_true_eq, decide_eq_false_iff_not, Bool.not_eq_true, Bool.not_eq_false, Bool.not_eq_eq_eq_not, Bool.not_true, Bool.not_false, Int.not_lt, Int.not_le, Int.ofNat_eq_natCast, hwl, hmb] at *; unfold bad; (repeat' split) <;> omega) | (cbv; ((repeat' apply And.intro) <;> (try first | rfl | trivial)) <;> first | exact AE.addN hA (by omega) | exact hup _ rfl (by clear X hb0 hb1 hgs hup hno hp hstep hge hx hinv hd hpt hy; simp only [AE.c_lss hA, AE.c_leq hA, AE.c_gtr hA, AE.c_geq hA, AE.c_eql hA, AE.c_neq hA, AE.c_not hA, AE.c_and hA, AE.c_beq hA, AE.c_bne hA, decide_eq_true_eq, decide_eq_false_iff_not, Bool.not_eq_true, Bool.not_eq_false, Bool.not_eq_eq_eq_not, Bool.not_true, Bool.not_false, Int.not_lt, Int.not_le, Int.ofNat_eq_natCast, hwl, hmb] at *; omega) | exact hno (by clear X hb0 hb1 hgs hup hno hp hstep hge hx hinv hd hpt hy; simp only [AE.c_lss hA, AE.c_leq hA, AE.c_gtr hA, AE.c_geq hA, AE.c_eql hA, AE.c_neq hA, AE.c_not hA, AE.c_and hA, AE.c_beq hA, AE.c_bne hA, decide_eq_true_eq, decide_eq_false_iff_not, Bool.not_eq_true, Bool.not_eq_false, Bool.not_eq_eq_eq_not, Bool.not_true, Bool.not_false, Int.not_lt, Int.not_le, Int.ofNat_eq_natCast, hwl, hmb] at *; omega)))
    · have hq : false = decide (3 ≤ x.k) := by simp [hk]
      repeat' (first | (refine X.go 500 _ _ ?_; cbv) | (refine X.split _ _ _ _ _ (fun hc => ?_) (fun hc => ?_) <;> first | exact absurd (Eq.trans (Eq.symm (show _ = true by assumption)) hc) (by decide) | exact absurd (Eq.trans (Eq.symm (show _ = false by assumption)) hc) (by decide) | skip) | refine X.draw _ _ _ (X.frzB 1 _ _ (by simp) ?_) | refine X.idx _ _ _ _ _ _ (i - 1) _ (hp (AE.posN hA (by assumption))) (AE.subN hA (AE.posN hA (by assumption)) (by omega)) ?_ | (refine X.calls [] (words_ok w hw) (by cbv) ?_ (by cbv) ?_; focus (cbv <;> ((repeat' apply And.intro) <;> first | rfl | trivial))) | (refine X.calls [] (own_ok x.k false hq) (by cbv) ?_ (by cbv) ?_; focus (cbv <;> ((repeat' apply And.intro) <;> first | rfl | trivial))))
      all_goals first
        | (refine X.ret _ (X.done rfl ?_); clear hB; cbv; ((repeat' apply And.intro) <;> (try first | rfl | trivial)); refine hb0 _ (by decide) ?_; clear X hb0 hb1 hgs hp hstep hge hx hinv hd hpt hy; simp only [AE.c_lss hA, AE.c_leq hA, AE.c_gtr hA, AE.c_geq hA, AE.c_eql hA, AE.c_neq hA, AE.c_not hA, AE.c_and hA, AE.c_beq hA, AE.c_bne hA, decide_eq_true_eq, decide_eq_false_iff_not, Bool.not_eq_true, Bool.not_eq_false, Bool.not_eq_eq_eq_not, Bool.not_true, Bool.not_false, Int.not_lt, Int.not_le, Int.ofNat_eq_natCast, hwl, hmb] at *; unfold bad; (repeat' split) <;> omega)
        | (refine hB ⟨i + 1, hlt, hb1 ?_⟩ _ (by show l.length - (i + 1) < l.length - i; omega) ?_ <;> clear hB <;> first | (clear X hb0 hb1 hgs hp hstep hge hx hinv hd hpt hy; simp only [AE.c_lss hA, AE.c_leq hA, AE.c_gtr hA, AE.c_geq hA, AE.c_eql hA, AE.c_neq hA, AE.c_not hA, AE.c_and hA, AE.c_beq hA, AE.c_bne hA, decide_eq_true_eq, decide_eq_false_iff_not, Bool.not_eq_true, Bool.not_eq_false, Bool.not_eq_eq_eq_not, Bool.not_true, Bool.not_false, Int.not_lt, Int.not_le, Int.ofNat_eq_natCast, hwl, hmb] at *; unfold bad; (repeat' split) <;> omega) | (cbv; ((repeat' apply And.intro) <;> (try first | rfl | trivial)) <;> first | exact AE.addN hA (by omega) | exact hup _ rfl (by clear X hb0 hb1 hgs hup hno hp hstep hge hx hinv hd hpt hy; simp only [AE.c_lss hA, AE.c_leq hA, AE.c_gtr hA, AE.c_geq hA, AE.c_eql hA, AE.c_neq hA, AE.c_not hA, AE.c_and hA, AE.c_beq hA, AE.c_bne hA, decide_eq_true_eq, decide_eq_false_iff_not, Bool.not_eq_true, Bool.not_eq_false, Bool.not_eq_eq_eq_not, Bool.not_true, Bool.not_false, Int.not_lt, Int.not_le, Int.ofNat_eq_natCast, hwl, hmb] at *; omega) | exact hno (by clear X hb0 hb1 hgs hup hno hp hstep hge hx hinv hd hpt hy; simp only [AE.c_lss hA, AE.c_leq hA, AE.c_gtr hA, AE.c_geq hA, AE.c_eql hA, AE.c_neq hA, AE.c_not hA, AE.c_and hA, AE.c_beq hA, AE.c_bne hA, decide_eq_true_eq, decide_eq_false_iff_not, Bool.not_eq_true, Bool.not_eq_false, Bool.not_eq_eq_eq_not, Bool.not_true, Bool.not_false, Int.not_lt, Int.not_le, Int.ofNat_eq_natCast, hwl, hmb] at *; omega)))
  · have hge : i = l.length := by have := AE.geN hA hn hc; omega
    have hrz : (0 : Int) = r := by rw [← hinv, hge, List.drop_length, List.take_length]; rfl
    (refine X.go 500 _ _ ?_; cbv)
    refine X.ret _ (X.done rfl ?_)
    cbv
    (repeat' apply And.intro) <;> first | exact hrz | trivial
end Go.Proofs.YtjbnffclpebkkaaDoor
