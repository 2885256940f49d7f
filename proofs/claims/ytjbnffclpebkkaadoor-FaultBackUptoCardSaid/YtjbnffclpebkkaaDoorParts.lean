/- Contracts: the reference's Down; At, Quiet, slices.Equal of faults. -/
import Derived.Test.YtjbnffclpebkkaaDoorFault
set_option linter.unusedVariables false
set_option linter.unusedSimpArgs false
namespace Go.Proofs.YtjbnffclpebkkaaDoor
open Go
theorem downF_succ (n tick : Int) (l : List Fl) (i : Nat) (h : i < l.length) : downF n tick (l.take (i + 1)) = if hit n tick l[i] then decide (l[i].k = 3) else downF n tick (l.take i) := by
  rw [downF, fold_succ _ _ _ _ h]; rfl

theorem refDown_ok (l : List Fl) (hl : l.length < 2 ^ 62) (n tick : Int) (es : List (List AE.AV)) (he : es = fl l) (r : Bool) (hr : r = downF n tick l) :
    AE.ACall Tryd.prog 12 [] [.l 3 es, .v (.int .i64 n), .v (.int .i64 tick)] [] (.b r) := by
  refine AE.ACall.of_walk (fn := Tryd.f12) (c := bodyOf Tryd.f12) tabOK Tryd.func12 rfl rfl mixed fun A hA X => ?_
  have hn : A.llen es = l.length := by subst hA; subst he; simp [AE.std, fl_len]
  obtain ⟨j0, hj0⟩ : ∃ j0 : Int, j0 + 1 = Int.ofNat l.length := ⟨(l.length : Int) - 1, by show (l.length : Int) - 1 + 1 = (l.length : Int); omega⟩
  have h0 : A.bin .sub .i64 (A.llen es) 1 = j0 := by
    have h2 : j0 + 1 = (l.length : Int) := hj0
    subst hA; rw [hn, AE.std_sub] <;> omega
  (refine X.go 500 _ _ ?_; cbv)
  refine X.carries (ι := { p : Nat × Int // p.1 ≤ l.length ∧ p.2 + 1 = Int.ofNat p.1 ∧ downF n tick (l.take p.1) = r }) (fun p => [(7, .v (.int .i64 p.1.2))]) (fun _ => []) (fun p => p.1.1) ⟨(l.length, j0), Nat.le_refl _, hj0, by rw [List.take_length, hr]⟩ ?_ fun p B hB => ?_
  · cbv
    ((repeat' apply And.intro) <;> (try first | rfl | trivial))
    all_goals exact h0
  obtain ⟨⟨i, j⟩, hi, hj, hinv⟩ := p
  simp only at hi hj hinv
  (refine X.go 500 _ _ ?_; cbv)
  (refine X.split _ _ _ _ _ (fun hc => ?_) (fun hc => ?_) <;> first | exact absurd (Eq.trans (Eq.symm (show _ = true by assumption)) hc) (by decide) | exact absurd (Eq.trans (Eq.symm (show _ = false by assumption)) hc) (by decide) | skip)
  · have h1 : 0 < i := by
      have h2 : (0 : Int) ≤ j := AE.geT hA hc
      have h3 : j + 1 = (i : Int) := hj
      omega
    obtain ⟨i', rfl⟩ : ∃ i', i = i' + 1 := ⟨i - 1, by omega⟩
    have hlt : i' < l.length := hi
    have hj' : j = Int.ofNat i' := by
      have h3 : j + 1 = ((i' + 1 : Nat) : Int) := hj
      show j = (i' : Int)
      omega
    obtain ⟨j', hjn⟩ : ∃ j' : Int, j' + 1 = Int.ofNat i' := ⟨(i' : Int) - 1, by show (i' : Int) - 1 + 1 = (i' : Int); omega⟩
    obtain ⟨x, hx⟩ : ∃ x, x = l[i'] := ⟨_, rfl⟩
    have hge : es[i']? = some (fcells x) := by rw [he, fl_get l i' hlt, hx]
    have hsub : A.bin .sub .i64 j 1 = j' := by
      have h3 : j = (i' : Int) := hj'
      have h4 : j' + 1 = (i' : Int) := hjn
      subst hA; rw [AE.std_sub] <;> omega
    have hstep : downF n tick (l.take (i' + 1)) = if hit n tick x then decide (x.k = 3) else downF n tick (l.take i') := by rw [hx]; exact downF_succ n tick l i' hlt
    have hrh : hit n tick x = true → decide (x.k = 3) = r := fun h => by rw [← hinv, hstep, if_pos h]
    have hrn : ¬ hit n tick x = true → downF n tick (l.take i') = r := fun h => by rw [← hinv, hstep, if_neg h]
    (refine X.go 500 _ _ ?_; cbv)
    refine X.idx _ _ _ _ _ _ i' _ hge hj' ?_
    repeat' (first | (refine X.go 500 _ _ ?_; cbv) | (refine X.split _ _ _ _ _ (fun hc => ?_) (fun hc => ?_) <;> first | exact absurd (Eq.trans (Eq.symm (show _ = true by assumption)) hc) (by decide) | exact absurd (Eq.trans (Eq.symm (show _ = false by assumption)) hc) (by decide) | skip))
    all_goals first
      | (refine X.ret _ (X.done rfl ?_); clear hB; cbv; ((repeat' apply And.intro) <;> (try first | rfl | trivial)) <;> (refine Eq.trans ?_ (hrh ?_) <;> clear X hrh hrn hstep hge hx hinv hj hj' hjn hsub <;> simp only [AE.c_lss hA, AE.c_leq hA, AE.c_gtr hA, AE.c_geq hA, AE.c_eql hA, AE.c_neq hA, AE.c_not hA, AE.c_and hA, AE.c_beq hA, AE.c_bne hA, decide_eq_true_eq, decide_eq_false_iff_not, Bool.not_eq_true, Bool.not_eq_false, Bool.not_eq_eq_eq_not, Bool.not_true, Bool.not_false, Int.not_lt, Int.not_le, Int.ofNat_eq_natCast] at * <;> first | (simp [hit, *]; done) | (rfl) | (exfalso; omega)))
      | (refine hB ⟨(i', j'), Nat.le_of_lt hlt, hjn, hrn ?_⟩ _ (Nat.lt_succ_self i') ?_ <;> clear hB <;> first | (clear X hrh hrn hstep hge hx hinv hj hj' hjn hsub; simp only [AE.c_lss hA, AE.c_leq hA, AE.c_gtr hA, AE.c_geq hA, AE.c_eql hA, AE.c_neq hA, AE.c_not hA, AE.c_and hA, AE.c_beq hA, AE.c_bne hA, decide_eq_true_eq, decide_eq_false_iff_not, Bool.not_eq_true, Bool.not_eq_false, Bool.not_eq_eq_eq_not, Bool.not_true, Bool.not_false, Int.not_lt, Int.not_le, Int.ofNat_eq_natCast] at *; simp [hit, *]; try omega; done) | (cbv; ((repeat' apply And.intro) <;> (try first | rfl | trivial)) <;> exact hsub))
  · have h1 : i = 0 := by
      have h2 : j < 0 := AE.geF hA hc
      have h3 : j + 1 = (i : Int) := hj
      omega
    subst h1
    have hrz : false = r := by rw [← hinv]; rfl
    (refine X.go 500 _ _ ?_; cbv)
    refine X.ret _ (X.done rfl ?_)
    cbv
    (repeat' apply And.intro) <;> first | exact hrz | trivial

/-- Two faults are alike. -/
theorem fl_inj (x y : Fl) (h1 : x.t = y.t) (h2 : x.k = y.k) (h3 : x.n = y.n) : x = y := by cases x; cases y; simp_all

theorem equal_ok (l m : List Fl) (hl : l.length < 2 ^ 62) (es ds : List (List AE.AV)) (he : es = fl l) (hd : ds = fl m) (r : Bool) (hr : r = true ↔ l = m) :
    AE.ACall Tryd.prog 13 [] [.l 3 es, .l 3 ds] [] (.b r) := by
  refine AE.ACall.of_walk (fn := Tryd.f13) (c := bodyOf Tryd.f13) tabOK Tryd.func13 rfl rfl mixed fun A hA X => ?_
  have hn : A.llen es = l.length := by subst hA; subst he; simp [AE.std, fl_len]
  have hm : A.llen ds = m.length := by subst hA; subst hd; simp [AE.std, fl_len]
  have hrf : l ≠ m → false = r := fun h => by cases r with | false => rfl | true => exact absurd (hr.1 rfl) h
  have hrt : l = m → true = r := fun h => (hr.2 h).symm
  (refine X.go 500 _ _ ?_; cbv)
  (refine X.split _ _ _ _ _ (fun hc => ?_) (fun hc => ?_) <;> first | exact absurd (Eq.trans (Eq.symm (show _ = true by assumption)) hc) (by decide) | exact absurd (Eq.trans (Eq.symm (show _ = false by assumption)) hc) (by decide) | skip)
  · have h1 : A.llen es ≠ A.llen ds := AE.neT hA hc
    have h2 : false = r := hrf fun h => h1 (by rw [hn, hm, h])
    (refine X.go 500 _ _ ?_; cbv)
    refine X.ret _ (X.done rfl ?_)
    cbv
    (repeat' apply And.intro) <;> first | exact h2 | trivial
  have h1 : A.llen es = A.llen ds := AE.neF hA hc
  have hlm : l.length = m.length := by have : (l.length : Int) = m.length := hn.symm.trans (h1.trans hm); omega
  (refine X.go 500 _ _ ?_; cbv)
  refine X.carries (ι := { i : Nat // i ≤ l.length ∧ l.take i = m.take i }) (fun i => [(13, .v (.int .i64 i.1))]) (fun _ => []) (fun i => l.length - i.1) ⟨0, Nat.zero_le _, rfl⟩ ?_ fun i B hB => ?_
  · cbv
    ((repeat' apply And.intro) <;> (try first | rfl | trivial))
  obtain ⟨i, hi, hinv⟩ := i
  (refine X.go 500 _ _ ?_; cbv)
  (refine X.split _ _ _ _ _ (fun hc => ?_) (fun hc => ?_) <;> first | exact absurd (Eq.trans (Eq.symm (show _ = true by assumption)) hc) (by decide) | exact absurd (Eq.trans (Eq.symm (show _ = false by assumption)) hc) (by decide) | skip)
  · have hlt : i < l.length := AE.ltN hA hn hc
    obtain ⟨x, hx⟩ : ∃ x, x = l[i] := ⟨_, rfl⟩
    obtain ⟨y, hy⟩ : ∃ y, y = m[i]'(by omega) := ⟨_, rfl⟩
    have hge : es[i]? = some (fcells x) := by rw [he, fl_get l i hlt, hx]
    have hgd : ds[i]? = some (fcells y) := by rw [hd, fl_get m i (by omega), hy]
    have hne : ¬ (x.t = y.t ∧ x.k = y.k ∧ x.n = y.n) → false = r := fun h => hrf fun e => h (by
      have : x = y := by rw [hx, hy]; subst e; rfl
      subst this; exact ⟨rfl, rfl, rfl⟩)
    have hnx : (x.t = y.t ∧ x.k = y.k ∧ x.n = y.n) → l.take (i + 1) = m.take (i + 1) := fun ⟨a, b, c⟩ => by
      rw [List.take_add_one, List.take_add_one, hinv, List.getElem?_eq_getElem hlt, List.getElem?_eq_getElem (by omega), ← hx, ← hy, fl_inj x y a b c]
    (refine X.go 500 _ _ ?_; cbv)
    repeat' (first | (refine X.go 500 _ _ ?_; cbv) | (refine X.split _ _ _ _ _ (fun hc => ?_) (fun hc => ?_) <;> first | exact absurd (Eq.trans (Eq.symm (show _ = true by assumption)) hc) (by decide) | exact absurd (Eq.trans (Eq.symm (show _ = false by assumption)) hc) (by decide) | skip) | refine X.draw _ _ _ ?_ | refine X.idx _ _ _ _ _ _ i _ hge rfl ?_ | refine X.idx _ _ _ _ _ _ i _ hgd rfl ?_)
    all_goals first
      | (refine X.ret _ (X.done rfl ?_); clear hB; cbv; ((repeat' apply And.intro) <;> (try first | rfl | trivial)) <;> (refine hne ?_ <;> clear X hne hnx hge hgd hx hy hinv <;> simp only [AE.c_lss hA, AE.c_leq hA, AE.c_gtr hA, AE.c_geq hA, AE.c_eql hA, AE.c_neq hA, AE.c_not hA, AE.c_and hA, AE.c_beq hA, AE.c_bne hA, decide_eq_true_eq, decide_eq_false_iff_not, Bool.not_eq_true, Bool.not_eq_false, Bool.not_eq_eq_eq_not, Bool.not_true, Bool.not_false, Int.not_lt, Int.not_le, Int.ofNat_eq_natCast] at * <;> simp_all))
      | (refine hB ⟨i + 1, hlt, hnx ?_⟩ _ (by show l.length - (i + 1) < l.length - i; omega) ?_ <;> clear hB <;> first | (clear X hne hnx hge hgd hx hy hinv; simp only [AE.c_lss hA, AE.c_leq hA, AE.c_gtr hA, AE.c_geq hA, AE.c_eql hA, AE.c_neq hA, AE.c_not hA, AE.c_and hA, AE.c_beq hA, AE.c_bne hA, decide_eq_true_eq, decide_eq_false_iff_not, Bool.not_eq_true, Bool.not_eq_false, Bool.not_eq_eq_eq_not, Bool.not_true, Bool.not_false, Int.not_lt, Int.not_le, Int.ofNat_eq_natCast] at *; simp_all; done) | (cbv; ((repeat' apply And.intro) <;> (try first | rfl | trivial)) <;> exact AE.addN hA (by omega)))
  · have hge : i = l.length := by have := AE.geN hA hn hc; omega
    have hrz : true = r := hrt (by rw [hge, List.take_length, hlm, List.take_length] at hinv; exact hinv)
    (refine X.go 500 _ _ ?_; cbv)
    refine X.ret _ (X.done rfl ?_)
    cbv
    (repeat' apply And.intro) <;> first | exact hrz | trivial

/-- The faults of a tick. -/
def atF (tick : Int) (l : List Fl) : List Fl := l.filter fun x => decide (x.t = tick)
theorem atF_succ (tick : Int) (l : List Fl) (i : Nat) (h : i < l.length) : atF tick (l.take (i + 1)) = atF tick (l.take i) ++ if l[i].t = tick then [l[i]] else [] := by
  rw [atF, atF, List.take_add_one, List.getElem?_eq_getElem h, List.filter_append]
  simp [List.filter_cons]

theorem at_ok (l : List Fl) (hl : l.length < 2 ^ 40) (tick : Int) (es : List (List AE.AV)) (he : es = fl l) (rs : List (List AE.AV)) (hr : rs = fl (atF tick l)) :
    AE.ACall Tryd.prog 14 [] [.l 3 es, .v (.int .i64 tick)] [.row 28 3 rs] (.r 0) := by
  refine AE.ACall.of_walk (fn := Tryd.f14) (c := bodyOf Tryd.f14) tabOK Tryd.func14 rfl rfl mixed fun A hA X => ?_
  have hn : A.llen es = l.length := by subst hA; subst he; simp [AE.std, fl_len]
  obtain ⟨w, hw⟩ : ∃ w : Nat → List (List AE.AV), ∀ i, w i = fl (atF tick (l.take i)) := ⟨_, fun _ => rfl⟩
  have hwl : ∀ i, i ≤ l.length → (w i).length ≤ l.length := fun i hi => by
    rw [hw, fl_len, atF]
    exact Nat.le_trans (List.length_filter_le _ _) (by simp; omega)
  (refine X.go 500 _ _ ?_; cbv)
  refine X.loopG _ _ _ (X.nilT 5 28 3 _ _ ?_)
  (refine X.go 500 _ _ ?_; cbv)
  refine X.carries (ι := { i : Nat // i ≤ l.length }) (fun i => [(10, .v (.int .i64 i.1)), (5, .r 0)]) (fun i => [.row 28 3 (w i.1)]) (fun i => l.length - i.1) ⟨0, Nat.zero_le _⟩ ?_ fun i B hB => ?_
  · cbv
    ((repeat' apply And.intro) <;> (try first | rfl | trivial))
    rw [hw, fl_eq]; rfl
  obtain ⟨i, hi⟩ := i
  obtain ⟨v, hv⟩ : ∃ v, v = w i := ⟨_, rfl⟩
  simp only [← hv]
  (refine X.go 500 _ _ ?_; cbv)
  (refine X.split _ _ _ _ _ (fun hc => ?_) (fun hc => ?_) <;> first | exact absurd (Eq.trans (Eq.symm (show _ = true by assumption)) hc) (by decide) | exact absurd (Eq.trans (Eq.symm (show _ = false by assumption)) hc) (by decide) | skip)
  · have hlt : i < l.length := AE.ltN hA hn hc
    obtain ⟨x, hx⟩ : ∃ x, x = l[i] := ⟨_, rfl⟩
    have hge : es[i]? = some (fcells x) := by rw [he, fl_get l i hlt, hx]
    have hadd := AE.addN hA (show i < 2 ^ 62 by omega)
    have hgrow : ∀ c : List AE.AV, AE.GrowR (A.llen v) (A.llen [c]) 24 := fun c => by
      have h1 := hwl i hi
      rw [← hv] at h1
      subst hA; constructor <;> simp only [AE.std, List.length_singleton] <;> omega
    have hyes : x.t = tick → A.lapp v [fcells x] = w (i + 1) := fun h => by
      subst hA; rw [hv, hw, hw, atF_succ _ _ _ hlt, ← hx, if_pos h, fl_eq, fl_eq, List.map_append]; rfl
    have hno : ¬ x.t = tick → v = w (i + 1) := fun h => by
      rw [hv, hw, hw, atF_succ _ _ _ hlt, ← hx, if_neg h, List.append_nil]
    (refine X.go 500 _ _ ?_; cbv)
    refine X.idx _ _ _ _ _ _ i _ hge rfl ?_
    repeat' (first | (refine X.go 500 _ _ ?_; cbv) | (refine X.split _ _ _ _ _ (fun hc => ?_) (fun hc => ?_) <;> first | exact absurd (Eq.trans (Eq.symm (show _ = true by assumption)) hc) (by decide) | exact absurd (Eq.trans (Eq.symm (show _ = false by assumption)) hc) (by decide) | skip) | refine X.need _ _ _ (hgrow _) ?_)
    all_goals (refine hB ⟨i + 1, hlt⟩ _ (by show l.length - (i + 1) < l.length - i; omega) ?_; clear hB; cbv; ((repeat' apply And.intro) <;> (try first | rfl | trivial)) <;> first | exact hadd | (refine Eq.trans (hyes (AE.eqT hA (by assumption))) rfl) | (refine Eq.trans (hno (AE.eqF hA (by assumption))) rfl))
  · have hge : i = l.length := by have := AE.geN hA hn hc; omega
    have hrz : v = rs := by rw [hv, hw, hge, List.take_length, hr]
    (refine X.go 500 _ _ ?_; cbv)
    refine X.ret _ (X.done rfl ?_)
    cbv
    (repeat' apply And.intro) <;> first | exact hrz | trivial

/-- The first tick from which on no fault has an effect, as it is reckoned (with Go's numbers). -/
noncomputable def qStep (q : Int) (x : Fl) : Int :=
  AE.std.imax q (if x.k = 2 then AE.std.bin .add .i64 (AE.std.bin .add .i64 x.t 1) x.n else AE.std.bin .add .i64 x.t 1)
noncomputable def quietF (l : List Fl) : Int := l.foldl qStep 0

theorem quiet_ok (l : List Fl) (hl : l.length < 2 ^ 62) (es : List (List AE.AV)) (he : es = fl l) (r : Int) (hr : r = quietF l) :
    AE.ACall Tryd.prog 15 [] [.l 3 es] [] (.v (.int .i64 r)) := by
  refine AE.ACall.of_walk (fn := Tryd.f15) (c := bodyOf Tryd.f15) tabOK Tryd.func15 rfl rfl mixed fun A hA X => ?_
  have hn : A.llen es = l.length := by subst hA; subst he; simp [AE.std, fl_len]
  obtain ⟨w, hw⟩ : ∃ w : Nat → Int, ∀ i, w i = quietF (l.take i) := ⟨_, fun _ => rfl⟩
  (refine X.go 500 _ _ ?_; cbv)
  refine X.carries (ι := { i : Nat // i ≤ l.length }) (fun i => [(9, .v (.int .i64 i.1)), (3, .v (.int .i64 (w i.1)))]) (fun _ => []) (fun i => l.length - i.1) ⟨0, Nat.zero_le _⟩ ?_ fun i B hB => ?_
  · cbv
    ((repeat' apply And.intro) <;> (try first | rfl | trivial))
    exact (hw 0).symm
  obtain ⟨i, hi⟩ := i
  obtain ⟨v, hv⟩ : ∃ v, v = w i := ⟨_, rfl⟩
  simp only [← hv]
  (refine X.go 500 _ _ ?_; cbv)
  (refine X.split _ _ _ _ _ (fun hc => ?_) (fun hc => ?_) <;> first | exact absurd (Eq.trans (Eq.symm (show _ = true by assumption)) hc) (by decide) | exact absurd (Eq.trans (Eq.symm (show _ = false by assumption)) hc) (by decide) | skip)
  · have hlt : i < l.length := AE.ltN hA hn hc
    obtain ⟨x, hx⟩ : ∃ x, x = l[i] := ⟨_, rfl⟩
    have hge : es[i]? = some (fcells x) := by rw [he, fl_get l i hlt, hx]
    have hadd := AE.addN hA (show i < 2 ^ 62 by omega)
    have hstep : w (i + 1) = qStep v x := by rw [hv, hw, hw, quietF, fold_succ _ _ _ _ hlt, ← hx]; rfl
    have hyes : x.k = 2 → A.imax v (A.bin .add .i64 (A.bin .add .i64 x.t 1) x.n) = w (i + 1) := fun h => by subst hA; rw [hstep, qStep, if_pos h]
    have hno : ¬ x.k = 2 → A.imax v (A.bin .add .i64 x.t 1) = w (i + 1) := fun h => by subst hA; rw [hstep, qStep, if_neg h]
    (refine X.go 500 _ _ ?_; cbv)
    refine X.idx _ _ _ _ _ _ i _ hge rfl ?_
    repeat' (first | (refine X.go 500 _ _ ?_; cbv) | (refine X.split _ _ _ _ _ (fun hc => ?_) (fun hc => ?_) <;> first | exact absurd (Eq.trans (Eq.symm (show _ = true by assumption)) hc) (by decide) | exact absurd (Eq.trans (Eq.symm (show _ = false by assumption)) hc) (by decide) | skip))
    all_goals (refine hB ⟨i + 1, hlt⟩ _ (by show l.length - (i + 1) < l.length - i; omega) ?_; clear hB; cbv; ((repeat' apply And.intro) <;> (try first | rfl | trivial)) <;> first | exact hadd | exact hyes (AE.eqT hA (by assumption)) | exact hno (AE.eqF hA (by assumption)))
  · have hge : i = l.length := by have := AE.geN hA hn hc; omega
    have hrz : v = r := by rw [hv, hw, hge, List.take_length, hr]
    (refine X.go 500 _ _ ?_; cbv)
    refine X.ret _ (X.done rfl ?_)
    cbv
    (repeat' apply And.intro) <;> first | exact hrz | trivial
end Go.Proofs.YtjbnffclpebkkaaDoor
