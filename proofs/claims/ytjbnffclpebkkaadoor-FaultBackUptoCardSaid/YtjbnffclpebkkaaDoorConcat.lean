/- Contract: slices.Concat of two scripts. -/
import Derived.Test.YtjbnffclpebkkaaDoorGrow
import Derived.Test.YtjbnffclpebkkaaDoorFault
set_option linter.unusedVariables false
set_option linter.unusedSimpArgs false
namespace Go.Proofs.YtjbnffclpebkkaaDoor
open Go
set_option maxRecDepth 100000 in
set_option maxHeartbeats 0 in
theorem concat_ok (l m : List Fl) (hl : l.length + m.length < 2 ^ 30) (es fs gs : List (List AE.AV)) (he : es = fl l) (hf : fs = fl m) (hg : gs = fl (l ++ m)) :
    AE.ACall Tryd.prog 37 [] [.l 1 [[.l 3 es], [.l 3 fs]]] [.row 28 3 gs] (.r 0) := by
  refine AE.ACall.of_walk (fn := Tryd.f37) (c := bodyOf Tryd.f37) tabOK Tryd.func37 rfl rfl mixed fun A hA X => ?_
  have e0 : fl [] = [] := by rw [fl_eq]; rfl
  have hel : A.llen es = (l.length : Int) := by subst hA; rw [he]; simp [AE.std, fl_len]
  have hfl : A.llen fs = (m.length : Int) := by subst hA; rw [hf]; simp [AE.std, fl_len]
  have h2 : A.llen [[.l 3 es], [.l 3 fs]] = 2 := by subst hA; rfl
  have c02 : A.cmp .lss 0 (A.llen [[.l 3 es], [.l 3 fs]]) = true := by rw [h2]; subst hA; rfl
  have c12 : A.cmp .lss 1 (A.llen [[.l 3 es], [.l 3 fs]]) = true := by rw [h2]; subst hA; rfl
  have c22 : A.cmp .lss 2 (A.llen [[.l 3 es], [.l 3 fs]]) = false := by rw [h2]; subst hA; rfl
  have a01 : A.bin .add .i64 0 1 = 1 := by subst hA; rfl
  have a11 : A.bin .add .i64 1 1 = 2 := by subst hA; rfl
  obtain ⟨s1, hs1⟩ : ∃ s : Int, s = (l.length : Int) := ⟨_, rfl⟩
  obtain ⟨s2, hs2⟩ : ∃ s : Int, s = ((l.length + m.length : Nat) : Int) := ⟨_, rfl⟩
  have b1 : A.bin .add .i64 0 (A.llen es) = s1 := by rw [hel, hs1]; subst hA; rw [AE.std_add] <;> omega
  have b2 : A.bin .add .i64 s1 (A.llen fs) = s2 := by rw [hfl, hs1, hs2]; subst hA; rw [AE.std_add] <;> omega
  have c1 : A.cmp .lss (A.bin .add .i64 0 (A.llen es)) 0 = false := by rw [b1, AE.c_lss hA, hs1]; simp
  have c2 : A.cmp .lss (A.bin .add .i64 s1 (A.llen fs)) 0 = false := by rw [b2, AE.c_lss hA, hs2]; simp; omega
  have hgrow := grow_ok (l.length + m.length) (by omega) s2 hs2
  have g1 : AE.GrowR (A.llen []) (A.llen es) 24 := by rw [hel]; subst hA; constructor <;> simp [AE.std] <;> omega
  have g2 : AE.GrowR (A.llen es) (A.llen fs) 24 := by rw [hel, hfl]; constructor <;> omega
  have p1 : A.lapp [] es = es := by subst hA; rfl
  have p2 : A.lapp es fs = gs := by subst hA; rw [hg, he, hf, fl_eq, fl_eq, fl_eq, List.map_append]; rfl
  (refine X.go 500 _ _ ?_; cbv)
  refine X.carries (ι := { i : Nat // i ≤ 2 }) (fun i => [(11, .v (.int .i64 i.1)), (3, .v (.int .i64 (match i.1 with | 0 => 0 | 1 => s1 | _ => s2)))]) (fun i => []) (fun i => 2 - i.1) ⟨0, by decide⟩ ?_ fun i B hB => ?_
  · (cbv <;> ((repeat' apply And.intro) <;> first | rfl | trivial))
  obtain ⟨i, hi⟩ := i
  match i, hi with
  | 0, _ =>
    repeat' (first | (refine X.go 500 _ _ ?_; cbv) | (refine X.split _ _ _ _ _ (fun hc => ?_) (fun hc => ?_) <;> first | exact absurd (Eq.trans (Eq.symm (show _ = true by assumption)) hc) (by decide) | exact absurd (Eq.trans (Eq.symm (show _ = false by assumption)) hc) (by decide) | skip) | refine X.idx _ _ _ _ _ _ 0 _ rfl rfl ?_ | fail)
    all_goals (refine hB ⟨1, by decide⟩ _ (by show 2 - 1 < 2 - 0; decide) ?_; clear hB; cbv <;> ((repeat' apply And.intro) <;> first | exact a01 | exact b1 | rfl | trivial))
  | 1, _ =>
    repeat' (first | (refine X.go 500 _ _ ?_; cbv) | (refine X.split _ _ _ _ _ (fun hc => ?_) (fun hc => ?_) <;> first | exact absurd (Eq.trans (Eq.symm (show _ = true by assumption)) hc) (by decide) | exact absurd (Eq.trans (Eq.symm (show _ = false by assumption)) hc) (by decide) | skip) | refine X.idx _ _ _ _ _ _ 1 _ rfl rfl ?_ | fail)
    all_goals (refine hB ⟨2, by decide⟩ _ (by show 2 - 2 < 2 - 1; decide) ?_; clear hB; cbv <;> ((repeat' apply And.intro) <;> first | exact a11 | exact b2 | rfl | trivial))
  | 2, _ =>
    clear hB
    repeat' (first | (refine X.go 500 _ _ ?_; cbv) | (refine X.split _ _ _ _ _ (fun hc => ?_) (fun hc => ?_) <;> first | exact absurd (Eq.trans (Eq.symm (show _ = true by assumption)) hc) (by decide) | exact absurd (Eq.trans (Eq.symm (show _ = false by assumption)) hc) (by decide) | skip) | (refine X.calls [] hgrow (by cbv) ?_ (by cbv) ?_; focus (cbv <;> ((repeat' apply And.intro) <;> first | rfl | trivial))) | fail)
    refine X.carries (ι := { i : Nat // i ≤ 2 }) (fun i => [(27, .v (.int .i64 i.1)), (6, .r 0), (24, .any)]) (fun i => [.row 28 3 (match i.1 with | 0 => [] | 1 => es | _ => gs)]) (fun i => 2 - i.1) ⟨0, by decide⟩ ?_ fun i B hB => ?_
    · (cbv <;> ((repeat' apply And.intro) <;> first | rfl | trivial))
    obtain ⟨i, hi⟩ := i
    match i, hi with
    | 0, _ =>
      repeat' (first | (refine X.go 500 _ _ ?_; cbv) | (refine X.split _ _ _ _ _ (fun hc => ?_) (fun hc => ?_) <;> first | exact absurd (Eq.trans (Eq.symm (show _ = true by assumption)) hc) (by decide) | exact absurd (Eq.trans (Eq.symm (show _ = false by assumption)) hc) (by decide) | skip) | refine X.idx _ _ _ _ _ _ 0 _ rfl rfl ?_ | refine X.need _ _ _ g1 ?_ | fail)
      all_goals (refine hB ⟨1, by decide⟩ _ (by show 2 - 1 < 2 - 0; decide) ?_; clear hB; cbv <;> ((repeat' apply And.intro) <;> first | exact a01 | exact p1 | rfl | trivial))
    | 1, _ =>
      repeat' (first | (refine X.go 500 _ _ ?_; cbv) | (refine X.split _ _ _ _ _ (fun hc => ?_) (fun hc => ?_) <;> first | exact absurd (Eq.trans (Eq.symm (show _ = true by assumption)) hc) (by decide) | exact absurd (Eq.trans (Eq.symm (show _ = false by assumption)) hc) (by decide) | skip) | refine X.idx _ _ _ _ _ _ 1 _ rfl rfl ?_ | refine X.need _ _ _ g2 ?_ | fail)
      all_goals (refine hB ⟨2, by decide⟩ _ (by show 2 - 2 < 2 - 1; decide) ?_; clear hB; cbv <;> ((repeat' apply And.intro) <;> first | exact a11 | exact p2 | rfl | trivial))
    | 2, _ =>
      clear hB
      repeat' (first | (refine X.go 500 _ _ ?_; cbv) | (refine X.split _ _ _ _ _ (fun hc => ?_) (fun hc => ?_) <;> first | exact absurd (Eq.trans (Eq.symm (show _ = true by assumption)) hc) (by decide) | exact absurd (Eq.trans (Eq.symm (show _ = false by assumption)) hc) (by decide) | skip) | fail)
      all_goals (refine X.ret _ (X.done rfl ?_); cbv)
    | n + 3, h => omega
  | n + 3, h => omega
end Go.Proofs.YtjbnffclpebkkaaDoor
