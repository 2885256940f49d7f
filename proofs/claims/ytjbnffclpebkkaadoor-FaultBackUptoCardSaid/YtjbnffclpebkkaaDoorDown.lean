/- FaultDown answers true, whatever it is called with. -/
import Derived.Test.YtjbnffclpebkkaaDoorScript
import Derived.Test.YtjbnffclpebkkaaDoorBegun
set_option linter.unusedVariables false
set_option linter.unusedSimpArgs false
namespace Go.Proofs.YtjbnffclpebkkaaDoor
open Go
set_option maxRecDepth 100000 in
set_option maxHeartbeats 0 in
theorem faultsFact_ok (q : Bool) (hq : q = true) : AE.ACall Tryd.prog 18 [] [] [] (.b q) := by
  refine AE.ACall.of_walk (fn := Tryd.f18) (c := bodyOf Tryd.f18) tabOK Tryd.func18 rfl rfl mixed fun A hA X => ?_
  have hI : ∀ x ∈ f12, ItoaOK x.t ∧ ItoaOK x.n := fun x hx => by
    simp [f12] at hx; subst hx; exact ⟨itoaOK_small 12 (by decide) (by decide), itoaOK_small 0 (by decide) (by decide)⟩
  have he' : [fcells ⟨12, 3, 0⟩] = fl f12 := by rw [fl_eq]; rfl
  have hd' : [fcells ⟨0, 9, 0⟩] = fl f9k := by rw [fl_eq]; rfl
  obtain ⟨s, hs⟩ : ∃ s, s = s12 := ⟨_, rfl⟩
  obtain ⟨e0, he0⟩ : ∃ e0 : Int, e0 = 0 := ⟨_, rfl⟩
  obtain ⟨e3, he3⟩ : ∃ e3 : Int, e3 = 3 := ⟨_, rfl⟩
  have hw := write_ok f12 (by decide) 1 [fcells ⟨12, 3, 0⟩] he' hI s e0 (by rw [hs, he0]; exact write12)
  have hck := check_ok f9k (by decide) 1 [fcells ⟨0, 9, 0⟩] hd' e3 (by rw [he3]; decide)
  have hc1 : A.cmp .eql e0 0 = true := by subst hA; rw [he0]; rfl
  have hc2 : A.scmp .eql s ⟨⟨[49, 50, 32, 102, 97, 108, 108, 32, 48, 10]⟩⟩ = true := by subst hA; rw [hs]; exact beq_self_eq_true s12.toList
  have hc3 : A.cmp .eql e3 3 = q := by subst hA; rw [he3, hq]; rfl
  clear hI he' hd'
  repeat' (first | (refine X.go 500 _ _ ?_; cbv) | (refine X.split _ _ _ _ _ (fun hc => ?_) (fun hc => ?_) <;> first | exact absurd (Eq.trans (Eq.symm (show _ = true by assumption)) hc) (by decide) | exact absurd (Eq.trans (Eq.symm (show _ = false by assumption)) hc) (by decide) | skip) | (refine X.callFrz _ _ _ _ _ 0 ?_; cbv; (refine X.calls [] hw (by cbv) ?_ (by cbv) ?_; focus (cbv <;> ((repeat' apply And.intro) <;> first | rfl | trivial)))) | (refine X.callFrz _ _ _ _ _ 1 ?_; cbv; (refine X.calls [] hck (by cbv) ?_ (by cbv) ?_; focus (cbv <;> ((repeat' apply And.intro) <;> first | rfl | trivial)))))
  refine X.ret _ (X.done rfl ?_)
  cbv
  (repeat' apply And.intro) <;> first | exact hc3 | trivial

/-- The predicate of the law. -/
def isP (n : Int) (x : Fl) : Bool := decide (x.n = n) && (decide (x.k = 3) || decide (x.k = 4))
theorem pred_ok (x : Fl) (n : Int) (r : Bool) (hr : r = isP n x) : AE.ACall Tryd.prog 20 [] [.a (fcells x), .ip [.v (.int .i64 n)]] [] (.b r) := by
  refine AE.ACall.of_walk (fn := Tryd.f20) (c := bodyOf Tryd.f20) tabOK Tryd.func20 rfl rfl mixed fun A hA X => ?_
  repeat' (first | (refine X.go 500 _ _ ?_; cbv) | (refine X.split _ _ _ _ _ (fun hc => ?_) (fun hc => ?_) <;> first | exact absurd (Eq.trans (Eq.symm (show _ = true by assumption)) hc) (by decide) | exact absurd (Eq.trans (Eq.symm (show _ = false by assumption)) hc) (by decide) | skip))
  all_goals (refine X.ret _ (X.done rfl ?_); cbv <;> ((repeat' apply And.intro) <;> (try trivial)))
  all_goals (rw [hr]; clear X; simp only [AE.c_lss hA, AE.c_leq hA, AE.c_gtr hA, AE.c_geq hA, AE.c_eql hA, AE.c_neq hA, AE.c_not hA, AE.c_and hA, AE.c_beq hA, AE.c_bne hA, decide_eq_true_eq, decide_eq_false_iff_not, Bool.not_eq_true, Bool.not_eq_false, Bool.not_eq_eq_eq_not, Bool.not_true, Bool.not_false, Int.not_lt, Int.not_le, Int.ofNat_eq_natCast] at *; simp [isP, *])

def idxF (n : Int) : List Fl → Nat → Int
  | [], _ => -1
  | x :: l, i => if isP n x then i else idxF n l (i + 1)
theorem idx_any (n : Int) : ∀ (l : List Fl) (i : Nat), (∃ x ∈ l, isP n x = true) → 0 ≤ idxF n l i
  | [], _, h => by obtain ⟨x, hx, _⟩ := h; simp at hx
  | x :: l, i, h => by
    rw [idxF]
    split
    · omega
    · rename_i hp
      obtain ⟨y, hy, h2⟩ := h
      rcases List.mem_cons.1 hy with rfl | hy
      · exact absurd h2 hp
      · exact idx_any n l (i + 1) ⟨y, hy, h2⟩
theorem indexFunc_ok (l : List Fl) (hl : l.length < 2 ^ 62) (n : Int) (es : List (List AE.AV)) (he : es = fl l) (r : Int) (hr : r = idxF n l 0) :
    AE.ACall Tryd.prog 40 [] [.l 3 es, .f 20 [.ip [.v (.int .i64 n)]]] [] (.v (.int .i64 r)) := by
  refine AE.ACall.of_walk (fn := Tryd.f40) (c := bodyOf Tryd.f40) tabOK Tryd.func40 rfl rfl mixed fun A hA X => ?_
  have hn : A.llen es = l.length := by subst hA; subst he; simp [AE.std, fl_len]
  (refine X.go 500 _ _ ?_; cbv)
  refine X.carries (ι := { i : Nat // i ≤ l.length ∧ idxF n (l.drop i) i = r }) (fun i => [(8, .v (.int .i64 i.1))]) (fun _ => []) (fun i => l.length - i.1) ⟨0, Nat.zero_le _, hr.symm⟩ ?_ fun i B hB => ?_
  · cbv
    ((repeat' apply And.intro) <;> (try first | rfl | trivial))
  obtain ⟨i, hi, hinv⟩ := i
  (refine X.go 500 _ _ ?_; cbv)
  (refine X.split _ _ _ _ _ (fun hc => ?_) (fun hc => ?_) <;> first | exact absurd (Eq.trans (Eq.symm (show _ = true by assumption)) hc) (by decide) | exact absurd (Eq.trans (Eq.symm (show _ = false by assumption)) hc) (by decide) | skip)
  · have hlt : i < l.length := AE.ltN hA hn hc
    obtain ⟨x, hx⟩ : ∃ x, x = l[i] := ⟨_, rfl⟩
    have hge : es[i]? = some (fcells x) := by rw [he, fl_get l i hlt, hx]
    obtain ⟨b, hb⟩ : ∃ b, b = isP n x := ⟨_, rfl⟩
    have hp := pred_ok x n b hb
    have hadd := AE.addN hA (show i < 2 ^ 62 by omega)
    have hst : idxF n (l.drop i) i = if b then (i : Int) else idxF n (l.drop (i + 1)) (i + 1) := by
      rw [List.drop_eq_getElem_cons hlt, idxF, ← hx, ← hb]
    have hyes : b = true → Int.ofNat i = r := fun h => by rw [← hinv, hst, if_pos h]; rfl
    have hno : b = false → idxF n (l.drop (i + 1)) (i + 1) = r := fun h => by rw [← hinv, hst, h]; rfl
    (refine X.go 500 _ _ ?_; cbv)
    refine X.idx _ _ _ _ _ _ i _ hge rfl ?_
    repeat' (first | (refine X.go 500 _ _ ?_; cbv) | (refine X.split _ _ _ _ _ (fun hc => ?_) (fun hc => ?_) <;> first | exact absurd (Eq.trans (Eq.symm (show _ = true by assumption)) hc) (by decide) | exact absurd (Eq.trans (Eq.symm (show _ = false by assumption)) hc) (by decide) | skip) | (refine X.calls [] hp (by cbv) ?_ (by cbv) ?_; focus (cbv <;> ((repeat' apply And.intro) <;> first | rfl | trivial))))
    all_goals first
      | (refine X.ret _ (X.done rfl ?_); clear hB; cbv <;> ((repeat' apply And.intro) <;> first | trivial | exact hyes (by assumption)))
      | (refine hB ⟨i + 1, hlt, hno (by assumption)⟩ _ (by show l.length - (i + 1) < l.length - i; omega) ?_; clear hB; cbv; ((repeat' apply And.intro) <;> (try first | rfl | trivial)) <;> exact hadd)
  · have hge : i = l.length := by have := AE.geN hA hn hc; omega
    have hrz : (-1 : Int) = r := by rw [← hinv, hge, List.drop_length]; rfl
    (refine X.go 500 _ _ ?_; cbv)
    refine X.ret _ (X.done rfl ?_)
    cbv
    (repeat' apply And.intro) <;> first | exact hrz | trivial
theorem containsFunc_ok (l : List Fl) (hl : l.length < 2 ^ 62) (n : Int) (es : List (List AE.AV)) (he : es = fl l) (r : Bool) (hr : r = decide (0 ≤ idxF n l 0)) :
    AE.ACall Tryd.prog 19 [] [.l 3 es, .f 20 [.ip [.v (.int .i64 n)]]] [] (.b r) := by
  refine AE.ACall.of_walk (fn := Tryd.f19) (c := bodyOf Tryd.f19) tabOK Tryd.func19 rfl rfl mixed fun A hA X => ?_
  obtain ⟨k, hk⟩ : ∃ k, k = idxF n l 0 := ⟨_, rfl⟩
  have h40 := indexFunc_ok l hl n es he k hk
  have hz : A.cmp .geq k 0 = r := by rw [AE.c_geq hA, hr, hk]
  (refine X.go 500 _ _ ?_; cbv)
  (refine X.calls [] h40 (by cbv) ?_ (by cbv) ?_; focus (cbv <;> ((repeat' apply And.intro) <;> first | rfl | trivial)))
  (refine X.go 500 _ _ ?_; cbv)
  refine X.ret _ (X.done rfl ?_)
  cbv
  (repeat' apply And.intro) <;> first | exact hz | trivial

/- The plain side. -/
structure Fine (l : List Fl) : Prop where
  few : l.length ≤ 20
  each : ∀ x ∈ l, 0 ≤ x.t ∧ x.t ≤ 60 ∧ 0 ≤ x.n ∧ x.n ≤ 1
theorem scr_fine : ∀ (l : List Int) (tick : Int) (out : List Fl), 0 ≤ tick → tick ≤ 3 * out.length → Fine out → Fine (scrL l tick out)
  | a :: b :: c :: rest, tick, out, h0, h1, hf => by
    rw [scrL]
    split
    · rename_i hlt
      have ha0 := Int.emod_nonneg a (show (4 : Int) ≠ 0 by decide)
      have ha1 := Int.emod_lt_of_pos a (show (0 : Int) < 4 by decide)
      have hc0 := Int.emod_nonneg c (show (2 : Int) ≠ 0 by decide)
      have hc1 := Int.emod_lt_of_pos c (show (0 : Int) < 2 by decide)
      refine scr_fine rest _ _ (by omega) (by simp; omega) ⟨by simp; omega, fun x hx => ?_⟩
      rcases List.mem_append.1 hx with hx | hx
      · exact hf.each x hx
      · simp at hx; subst hx
        simp only [scrF]
        omega
    · exact hf
  | [], _, _, _, _, hf => hf
  | [_], _, _, _, _, hf => hf
  | [_, _], _, _, _, _, hf => hf
theorem quiet_far : ∀ (l : List Fl) (q : Int), (∀ x ∈ l, 0 ≤ x.t ∧ x.t ≤ 60 ∧ 0 ≤ x.n ∧ x.n ≤ 1) → q ≤ l.foldl qStep q ∧ ∀ x ∈ l, x.t < l.foldl qStep q
  | [], q, _ => ⟨Int.le_refl _, by simp⟩
  | x :: l, q, h => by
    have hx := h x (by simp)
    have e1 : AE.std.bin .add .i64 x.t 1 = x.t + 1 := by rw [AE.std_add] <;> omega
    have e2 : AE.std.bin .add .i64 (x.t + 1) x.n = x.t + 1 + x.n := by rw [AE.std_add] <;> omega
    have e : q ≤ qStep q x ∧ x.t < qStep q x := by
      unfold qStep
      rw [e1, e2]
      simp only [AE.std]
      constructor <;> (repeat' split) <;> omega
    obtain ⟨h1, h2⟩ := quiet_far l (qStep q x) fun y hy => h y (by simp [hy])
    simp only [List.foldl_cons]
    refine ⟨Int.le_trans e.1 h1, fun y hy => ?_⟩
    rcases List.mem_cons.1 hy with rfl | hy
    · exact Int.lt_of_lt_of_le e.2 h1
    · exact h2 y hy
theorem down_same (n t : Int) (l : List Fl) (h : ∀ x ∈ l, x.t = t + 1 → isP n x = false) : downF n t l = downF n (t + 1) l := by
  rw [downF, downF]
  generalize false = b
  induction l generalizing b with
  | nil => rfl
  | cons x l ih =>
    simp only [List.foldl_cons]
    have e : hit n t x = hit n (t + 1) x := by
      have := h x (by simp)
      simp only [hit]
      by_cases h1 : x.t = t + 1
      · have h2 := this h1
        simp only [isP, Bool.and_eq_false_iff, decide_eq_false_iff_not] at h2
        rcases h2 with h2 | h2
        · simp [h2]
        · simp [h2]
      · have : (x.t ≤ t) = (x.t ≤ t + 1) := by apply propext; omega
        simp only [this]
    rw [e]
    exact ih (fun y hy => h y (by simp [hy])) _

set_option maxRecDepth 100000 in
set_option maxHeartbeats 0 in
theorem law2_ok (l : List Int) (hl : l.length < 2 ^ 40) (n0 tick0 : Int) (es : List (List AE.AV)) (he : es = il l) :
    AE.ACall Tryd.prog 4 [] [.l 1 es, .v (.int .i64 n0), .v (.int .i64 tick0)] [] (.b true) := by
  refine AE.ACall.of_walk (fn := Tryd.f4) (c := bodyOf Tryd.f4) tabOK Tryd.func4 rfl rfl mixed fun A hA X => ?_
  obtain ⟨f, hf⟩ : ∃ f, f = scrL l 0 [] := ⟨_, rfl⟩
  have hfine : Fine f := by rw [hf]; exact scr_fine l 0 [] (by decide) (by decide) ⟨by decide, by simp⟩
  have hfl := hfine.few
  obtain ⟨fs, hfs⟩ : ∃ fs, fs = fl f := ⟨_, rfl⟩
  obtain ⟨n, hn⟩ : ∃ n, n = n0 % 2 := ⟨_, rfl⟩
  obtain ⟨t, ht⟩ : ∃ t, t = tick0 % 60 := ⟨_, rfl⟩
  have ht0 := Int.emod_nonneg tick0 (show (60 : Int) ≠ 0 by decide)
  have ht1 := Int.emod_lt_of_pos tick0 (show (0 : Int) < 60 by decide)
  obtain ⟨qv, hqv⟩ : ∃ qv, qv = quietF f := ⟨_, rfl⟩
  obtain ⟨hq0, hq1⟩ := quiet_far f 0 hfine.each
  obtain ⟨qf, hqf⟩ : ∃ qf : Bool, qf = true := ⟨_, rfl⟩
  have htn : A.bin .add .i64 t 1 = t + 1 := by subst hA; rw [AE.std_add] <;> omega
  obtain ⟨d1, hd1⟩ : ∃ d, d = downF n t f := ⟨_, rfl⟩
  obtain ⟨d2, hd2⟩ : ∃ d, d = downF n (t + 1) f := ⟨_, rfl⟩
  obtain ⟨a1, ha1⟩ : ∃ a, a = fl (atF t f) := ⟨_, rfl⟩
  obtain ⟨a2, ha2⟩ : ∃ a, a = fl (atF (t + 1) f) := ⟨_, rfl⟩
  obtain ⟨cq, hcq⟩ : ∃ c, c = decide (0 ≤ idxF n (atF (t + 1) f) 0) := ⟨_, rfl⟩
  have hal : (atF (t + 1) f).length ≤ f.length := List.length_filter_le _ _
  have k16 := script_ok l hl es he fs (by rw [hfs, hf])
  have k17a := below_ok n0 2 (by decide) (by decide) n hn
  have k17b := below_ok tick0 60 (by decide) (by decide) t ht
  have k15 := quiet_ok f (by omega) fs hfs qv hqv
  have k18 := faultsFact_ok qf hqf
  have k14a := at_ok f (by omega) t fs hfs a1 ha1
  have k14b := at_ok f (by omega) (A.bin .add .i64 t 1) fs hfs a2 (by rw [htn]; exact ha2)
  have k11a := down_ok f (by omega) n t fs hfs d1 hd1
  have k11b := down_ok f (by omega) n (A.bin .add .i64 t 1) fs hfs d2 (by rw [htn]; exact hd2)
  have k19 := containsFunc_ok (atF (t + 1) f) (by omega) n a2 ha2 cq hcq
  have c1 : A.bnot qf = false := by subst hA; rw [hqf]; rfl
  have c2 : A.cmp .lss qv 0 = false := by
    rw [AE.c_lss hA]
    have : ¬ qv < 0 := by rw [hqv, quietF]; omega
    simp [this]
  have c3 : A.cmp .geq t qv = true → A.cmp .gtr (A.llen a1) 0 = true → False := fun h1 h2 => by
    have h3 : qv ≤ t := AE.geT hA h1
    have h4 : (0 : Int) < A.llen a1 := AE.gtT hA h2
    have h5 : atF t f = [] := by
      rw [atF, List.filter_eq_nil_iff]
      intro x hx
      have := hq1 x hx
      rw [hqv, quietF] at h3
      simp; omega
    rw [ha1, h5] at h4
    subst hA
    rw [fl_eq] at h4
    exact absurd h4 (by simp [AE.std])
  have c4 : A.bcmp .eql d1 d2 = false → cq = true := fun h => by
    rw [AE.c_beq hA] at h
    have hne : d1 ≠ d2 := by simpa using h
    rw [hcq]
    refine decide_eq_true (idx_any n _ 0 ?_)
    refine Classical.byContradiction fun hno => hne ?_
    rw [hd1, hd2]
    refine down_same n t f fun x hx hxt => ?_
    cases hq : isP n x with
    | false => rfl
    | true => exact absurd ⟨x, by rw [atF, List.mem_filter]; exact ⟨hx, by simp [hxt]⟩, hq⟩ hno
  (refine X.go 500 _ _ ?_; cbv)
  (refine X.calls [] k16 (by cbv) ?_ (by cbv) ?_; focus (cbv <;> ((repeat' apply And.intro) <;> first | rfl | trivial)))
  (refine X.go 500 _ _ ?_; cbv)
  (refine X.calls [] k17a (by cbv) ?_ (by cbv) ?_; focus (cbv <;> ((repeat' apply And.intro) <;> first | rfl | trivial)))
  (refine X.go 500 _ _ ?_; cbv)
  (refine X.calls [] k17b (by cbv) ?_ (by cbv) ?_; focus (cbv <;> ((repeat' apply And.intro) <;> first | rfl | trivial)))
  (refine X.go 500 _ _ ?_; cbv)
  refine X.callFrz _ _ _ _ _ 1 ?_
  cbv
  (refine X.calls [] k15 (by cbv) ?_ (by cbv) ?_; focus (cbv <;> ((repeat' apply And.intro) <;> first | rfl | trivial)))
  repeat' (first | (refine X.go 500 _ _ ?_; cbv) | (refine X.split _ _ _ _ _ (fun hc => ?_) (fun hc => ?_) <;> first | exact absurd (Eq.trans (Eq.symm (show _ = true by assumption)) hc) (by decide) | exact absurd (Eq.trans (Eq.symm (show _ = false by assumption)) hc) (by decide) | skip) | (refine X.calls [] k18 (by cbv) ?_ (by cbv) ?_; focus (cbv <;> ((repeat' apply And.intro) <;> first | rfl | trivial))) | (refine X.calls [] k14a (by cbv) ?_ (by cbv) ?_; focus (cbv <;> ((repeat' apply And.intro) <;> first | rfl | trivial))) | refine X.draw _ _ _ (X.frzB 0 _ _ (by simp) ?_) | refine X.fork _ _ ?_ ?_ | (refine X.calls [] k11a (by cbv) ?_ (by cbv) ?_; focus (cbv <;> ((repeat' apply And.intro) <;> first | rfl | trivial))) | (refine X.calls [] k11b (by cbv) ?_ (by cbv) ?_; focus (cbv <;> ((repeat' apply And.intro) <;> first | rfl | trivial))) | (refine X.calls [] k14b (by cbv) ?_ (by cbv) ?_; focus (cbv <;> ((repeat' apply And.intro) <;> first | rfl | trivial))) | (refine X.callFrz _ _ _ _ _ 3 ?_; cbv; (refine X.calls [] k19 (by cbv) ?_ (by cbv) ?_; focus (cbv <;> ((repeat' apply And.intro) <;> first | rfl | trivial)))) | (refine X.callFrz _ _ _ _ _ 2 ?_; cbv; (refine X.calls [] k19 (by cbv) ?_ (by cbv) ?_; focus (cbv <;> ((repeat' apply And.intro) <;> first | rfl | trivial)))))
  all_goals first
    | (exact (c3 (by assumption) (by assumption)).elim)
    | (refine X.ret _ (X.done rfl ?_); cbv <;> ((repeat' apply And.intro) <;> first | trivial | rfl | exact c4 (by assumption)))
end Go.Proofs.YtjbnffclpebkkaaDoor
