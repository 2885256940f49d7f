/- FaultChecks answers true, whatever it is called with (as long as the list is not too long for any memory). -/
import Derived.Test.YtjbnffclpebkkaaDoorFaults
import Derived.Test.YtjbnffclpebkkaaDoorBegun
set_option linter.unusedVariables false
set_option linter.unusedSimpArgs false
namespace Go.Proofs.YtjbnffclpebkkaaDoor
open Go
/-- The law's own reckoning of the first quiet tick. -/
noncomputable def lStep (q : Int) (x : Fl) : Int :=
  AE.std.imax (if x.k = 2 then AE.std.imax q (AE.std.bin .add .i64 (AE.std.bin .add .i64 x.t 1) x.n) else q) (AE.std.bin .add .i64 x.t 1)
noncomputable def lawQ (l : List Fl) : Int := l.foldl lStep 0
theorem chk_valid (arms : Int) : ∀ (pre l : List Fl), chkR arms pre l = 0 → ∀ x ∈ l, 0 ≤ x.t ∧ x.t ≤ 2000 ∧ 0 ≤ x.n ∧ (x.k = 2 → x.n ≤ 40)
  | pre, [], _, x, hx => by simp at hx
  | pre, y :: l, h, x, hx => by
    rw [chkR] at h
    split at h
    · rename_i hb
      rcases List.mem_cons.1 hx with rfl | hx
      · unfold bad at hb
        (repeat' split at hb) <;> first | omega | (exfalso; revert hb; decide)
      · exact chk_valid arms _ l h x hx
    · rename_i hb; exact absurd h hb
theorem quiet_law : ∀ (l : List Fl) (q : Int), (∀ x ∈ l, 0 ≤ x.t ∧ x.t ≤ 2000 ∧ 0 ≤ x.n ∧ (x.k = 2 → x.n ≤ 40)) → l.foldl qStep q = l.foldl lStep q
  | [], q, _ => rfl
  | x :: l, q, h => by
    simp only [List.foldl_cons]
    have hx := h x (by simp)
    have e : qStep q x = lStep q x := by
      have e1 : AE.std.bin .add .i64 x.t 1 = x.t + 1 := by rw [AE.std_add] <;> omega
      unfold qStep lStep
      rw [e1]
      by_cases hk : x.k = 2
      · rw [if_pos hk, if_pos hk]
        have e2 : AE.std.bin .add .i64 (x.t + 1) x.n = x.t + 1 + x.n := by have := hx.2.2.2 hk; rw [AE.std_add] <;> omega
        rw [e2]
        simp only [AE.std]
        have := hx.2.2.1
        (repeat' split) <;> omega
      · rw [if_neg hk, if_neg hk]
    rw [e]
    exact quiet_law l _ fun y hy => h y (by simp [hy])

set_option maxRecDepth 100000 in
set_option maxHeartbeats 0 in
theorem law1_ok (l : List Fl) (hl : l.length < 2 ^ 40) (arms n tick : Int) (es : List (List AE.AV)) (he : es = fl l) :
    AE.ACall Tryd.prog 3 [] [.l 3 es, .v (.int .i64 arms), .v (.int .i64 n), .v (.int .i64 tick)] [] (.b true) := by
  refine AE.ACall.of_walk (fn := Tryd.f3) (c := bodyOf Tryd.f3) tabOK Tryd.func3 rfl rfl mixed fun A hA X => ?_
  have hn : A.llen es = l.length := by subst hA; subst he; simp [AE.std, fl_len]
  obtain ⟨q, hq⟩ : ∃ q : Bool, q = true := ⟨_, rfl⟩
  obtain ⟨e, hE⟩ : ∃ e, e = checkS arms l := ⟨_, rfl⟩
  obtain ⟨d, hD⟩ : ∃ d, d = downF n tick l := ⟨_, rfl⟩
  obtain ⟨qv, hQ⟩ : ∃ qv, qv = quietF l := ⟨_, rfl⟩
  obtain ⟨at', hAt⟩ : ∃ at', at' = fl (atF tick l) := ⟨_, rfl⟩
  have hb := begun_ok q hq
  have h9 := check_ok l (by omega) arms es he e hE
  have h10 := faults_ok l (by omega) arms es he e hE
  have h11 := down_ok l (by omega) n tick es he d hD
  have h12 := refDown_ok l (by omega) n tick es he d hD
  have h14 := at_ok l hl tick es he at' hAt
  have h15 := quiet_ok l (by omega) es he qv hQ
  have hlen : (atF tick l).length ≤ l.length := List.length_filter_le _ _
  have h13 := equal_ok (atF tick l) (atF tick l) (by omega) at' at' hAt hAt q (by simp [hq])
  have c1 : A.cmp .neq e e = false := by subst hA; simp [AE.std, AE.cmpI]
  have c2 : A.bcmp .neq d d = false := by subst hA; simp [AE.std]
  have c3 : A.bnot q = false := by subst hA; rw [hq]; rfl
  have hv : e = 0 → qv = lawQ l := fun h => by
    rw [hE, checkS] at h
    split at h
    · cases h
    · rw [hQ]; exact quiet_law l 0 (chk_valid arms [] l h)
  obtain ⟨w, hw⟩ : ∃ w : Nat → List (List AE.AV), ∀ i, w i = fl (atF tick (l.take i)) := ⟨_, fun _ => rfl⟩
  obtain ⟨ql, hql⟩ : ∃ ql : Nat → Int, ∀ i, ql i = lawQ (l.take i) := ⟨_, fun _ => rfl⟩
  have hwl : ∀ i, i ≤ l.length → (w i).length ≤ l.length := fun i hi => by
    rw [hw, fl_len, atF]
    exact Nat.le_trans (List.length_filter_le _ _) (by simp; omega)
  repeat' (first | (refine X.go 500 _ _ ?_; cbv) | (refine X.split _ _ _ _ _ (fun hc => ?_) (fun hc => ?_) <;> first | exact absurd (Eq.trans (Eq.symm (show _ = true by assumption)) hc) (by decide) | exact absurd (Eq.trans (Eq.symm (show _ = false by assumption)) hc) (by decide) | skip) | refine X.calls [] hb (by cbv) (by cbv <;> ((repeat' apply And.intro) <;> first | rfl | trivial)) (by cbv) ?_ | refine X.calls [] h9 (by cbv) (by cbv <;> ((repeat' apply And.intro) <;> first | rfl | trivial)) (by cbv) ?_ | refine X.calls [] h10 (by cbv) (by cbv <;> ((repeat' apply And.intro) <;> first | rfl | trivial)) (by cbv) ?_ | refine X.calls [] h11 (by cbv) (by cbv <;> ((repeat' apply And.intro) <;> first | rfl | trivial)) (by cbv) ?_ | refine X.calls [] h12 (by cbv) (by cbv <;> ((repeat' apply And.intro) <;> first | rfl | trivial)) (by cbv) ?_)
  refine X.loopG _ _ _ (X.nilT 9 28 3 _ _ ?_)
  (refine X.go 500 _ _ ?_; cbv)
  refine X.carries (ι := { i : Nat // i ≤ l.length }) (fun i => [(37, .v (.int .i64 i.1)), (9, .r 0), (10, .v (.int .i64 (ql i.1)))]) (fun i => [.row 28 3 (w i.1)]) (fun i => l.length - i.1) ⟨0, Nat.zero_le _⟩ ?_ fun i B hB => ?_
  · have h0 : ([] : List (List AE.AV)) = w 0 := by rw [hw, fl_eq]; rfl
    have h1 : (0 : Int) = ql 0 := by rw [hql]; rfl
    cbv
    ((repeat' apply And.intro) <;> (try first | rfl | trivial)) <;> first | exact h0 | exact h1
  obtain ⟨i, hi⟩ := i
  obtain ⟨v, hv'⟩ : ∃ v, v = w i := ⟨_, rfl⟩
  obtain ⟨qi, hqi⟩ : ∃ qi, qi = ql i := ⟨_, rfl⟩
  simp only [← hv', ← hqi]
  (refine X.go 500 _ _ ?_; cbv)
  (refine X.split _ _ _ _ _ (fun hc => ?_) (fun hc => ?_) <;> first | exact absurd (Eq.trans (Eq.symm (show _ = true by assumption)) hc) (by decide) | exact absurd (Eq.trans (Eq.symm (show _ = false by assumption)) hc) (by decide) | skip)
  · have hlt : i < l.length := AE.ltN hA hn hc
    obtain ⟨x, hx⟩ : ∃ x, x = l[i] := ⟨_, rfl⟩
    have hge : es[i]? = some (fcells x) := by rw [he, fl_get l i hlt, hx]
    have hadd := AE.addN hA (show i < 2 ^ 62 by omega)
    have hgrow : ∀ c : List AE.AV, AE.GrowR (A.llen v) (A.llen [c]) 24 := fun c => by
      have h1 := hwl i hi
      rw [← hv'] at h1
      subst hA; constructor <;> simp only [AE.std, List.length_singleton] <;> omega
    have hyes : x.t = tick → A.lapp v [fcells x] = w (i + 1) := fun h => by
      subst hA; rw [hv', hw, hw, atF_succ _ _ _ hlt, ← hx, if_pos h, fl_eq, fl_eq, List.map_append]; rfl
    have hno : ¬ x.t = tick → v = w (i + 1) := fun h => by
      rw [hv', hw, hw, atF_succ _ _ _ hlt, ← hx, if_neg h, List.append_nil]
    have hstep : ql (i + 1) = lStep qi x := by rw [hqi, hql, hql, lawQ, fold_succ _ _ _ _ hlt, ← hx]; rfl
    have hk2 : x.k = 2 → A.imax (A.imax qi (A.bin .add .i64 (A.bin .add .i64 x.t 1) x.n)) (A.bin .add .i64 x.t 1) = ql (i + 1) := fun h => by subst hA; rw [hstep, lStep, if_pos h]
    have hk3 : ¬ x.k = 2 → A.imax qi (A.bin .add .i64 x.t 1) = ql (i + 1) := fun h => by subst hA; rw [hstep, lStep, if_neg h]
    (refine X.go 500 _ _ ?_; cbv)
    refine X.idx _ _ _ _ _ _ i _ hge rfl ?_
    repeat' (first | (refine X.go 500 _ _ ?_; cbv) | (refine X.split _ _ _ _ _ (fun hc => ?_) (fun hc => ?_) <;> first | exact absurd (Eq.trans (Eq.symm (show _ = true by assumption)) hc) (by decide) | exact absurd (Eq.trans (Eq.symm (show _ = false by assumption)) hc) (by decide) | skip) | refine X.need _ _ _ (hgrow _) ?_)
    all_goals (refine hB ⟨i + 1, hlt⟩ _ (by show l.length - (i + 1) < l.length - i; omega) ?_; clear hB; cbv; ((repeat' apply And.intro) <;> (try first | rfl | trivial)) <;> first | exact hadd | exact hk2 (AE.eqT hA (by assumption)) | exact hk3 (AE.eqF hA (by assumption)) | (refine Eq.trans (hyes (AE.eqT hA (by assumption))) rfl) | (refine Eq.trans (hno (AE.eqF hA (by assumption))) rfl))
  · have hge : i = l.length := by have := AE.geN hA hn hc; omega
    have hva : v = at' := by rw [hv', hw, hge, List.take_length, hAt]
    have hqn : qi = lawQ l := by rw [hqi, hql, hge, List.take_length]
    subst hva
    have hfin : e = 0 → A.cmp .eql qv qi = true := fun h => by subst hA; rw [hv h, hqn]; simp [AE.std, AE.cmpI]
    clear hB
    (refine X.go 500 _ _ ?_; cbv)
    refine X.calls [] h14 (by cbv) (by cbv <;> ((repeat' apply And.intro) <;> first | rfl | trivial)) (by cbv) ?_
    (refine X.go 500 _ _ ?_; cbv)
    refine X.callFrz _ _ _ _ _ 0 ?_
    refine X.callFrz _ _ _ _ _ 1 ?_
    cbv
    refine X.calls [] h13 (by cbv) (by cbv <;> ((repeat' apply And.intro) <;> first | rfl | trivial)) (by cbv) ?_
    repeat' (first | (refine X.go 500 _ _ ?_; cbv) | (refine X.split _ _ _ _ _ (fun hc => ?_) (fun hc => ?_) <;> first | exact absurd (Eq.trans (Eq.symm (show _ = true by assumption)) hc) (by decide) | exact absurd (Eq.trans (Eq.symm (show _ = false by assumption)) hc) (by decide) | skip) | refine X.calls [] h10 (by cbv) (by cbv <;> ((repeat' apply And.intro) <;> first | rfl | trivial)) (by cbv) ?_ | refine X.calls [] h15 (by cbv) (by cbv <;> ((repeat' apply And.intro) <;> first | rfl | trivial)) (by cbv) ?_)
    all_goals (refine X.ret _ (X.done rfl ?_); cbv <;> ((repeat' apply And.intro) <;> first | trivial | rfl | exact hfin (AE.neF hA (by assumption))))
end Go.Proofs.YtjbnffclpebkkaaDoor
