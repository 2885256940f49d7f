/- Contracts: slices.Clone at the program's types, works.Copy, as values that are only read (written by tools/gencopy.py). -/
import Derived.Test.YtjbnffclpebkkaaGreatDoorZLoop
import Derived.Test.YtjbnffclpebkkaaGreatDoorZRatB
import Derived.Test.YtjbnffclpebkkaaGreatDoorZFuncs
set_option linter.unusedVariables false
set_option linter.unusedSimpArgs false
namespace Go.Proofs.YtjbnffclpebkkaaGreatDoor
open Go Go.Num
theorem grow0 {A : AE.Ari} (hA : A = AE.std) {es : List (List AE.AV)} {n : Nat} (h : es.length ≤ n) {b : Nat} (hb : n * b ≤ 140737488355328) (hn : n < 2 ^ 60) : AE.GrowR (A.llen []) (A.llen es) b := by
  have h1 : A.llen [] = 0 := by subst hA; rfl
  have h2 : A.llen es = (es.length : Int) := llen hA es
  have h3 : es.length * b ≤ n * b := Nat.mul_le_mul_right _ h
  constructor
  · rw [h1, h2]; omega
  · rw [h1, h2]
    have : ((0 + (es.length : Int)) * (b : Int)) = ((es.length * b : Nat) : Int) := by rw [Int.natCast_mul, Int.zero_add]
    rw [this]; omega
set_option maxRecDepth 100000 in
set_option maxHeartbeats 0 in
theorem cloneSlot_ok (es : List (List AE.AV)) (hl : es.length ≤ 2 ^ 30) : AE.ACall Tryz.prog 76 [] [.l 14 es] [] (.l 14 es) := by
  refine AE.ACall.of_walk (fn := Tryz.f76) (c := bodyOf Tryz.f76) tabOK Tryz.func76 rfl rfl mixed fun A hA X => ?_
  have hg := grow0 hA hl (b := 184) (by decide) (by decide)
  have e1 : A.lapp [] es = es := by subst hA; rfl
  (refine X.go 500 _ _ ?_; cbv)
  refine X.coin _ _ _ _ _ (fun b hb => ?_)
  cases b
  · (repeat' (first | (refine X.go 500 _ _ ?_; cbv) | (first | refine X.splitT ?_ | refine X.splitF ?_ | refine X.split _ _ _ _ _ (fun hc => ?_) (fun hc => ?_)) | refine X.need _ _ _ trivial ?_ | refine X.need _ _ _ hg ?_ | fail))
    all_goals (refine X.ret _ (X.frz 0 _ _ (X.done rfl ?_)); cbv <;> ((repeat' apply And.intro) <;> first | exact e1 | rfl | trivial))
  · have e2 := hb rfl
    (repeat' (first | (refine X.go 500 _ _ ?_; cbv) | (first | refine X.splitT ?_ | refine X.splitF ?_ | refine X.split _ _ _ _ _ (fun hc => ?_) (fun hc => ?_)) | refine X.need _ _ _ trivial ?_ | fail))
    all_goals (refine X.ret _ (X.done rfl ?_); cbv <;> ((repeat' apply And.intro) <;> first | exact e2 | rfl | trivial))
set_option maxRecDepth 100000 in
set_option maxHeartbeats 0 in
theorem cloneGate_ok (es : List (List AE.AV)) (hl : es.length ≤ 2 ^ 30) : AE.ACall Tryz.prog 77 [] [.l 13 es] [] (.l 13 es) := by
  refine AE.ACall.of_walk (fn := Tryz.f77) (c := bodyOf Tryz.f77) tabOK Tryz.func77 rfl rfl mixed fun A hA X => ?_
  have hg := grow0 hA hl (b := 176) (by decide) (by decide)
  have e1 : A.lapp [] es = es := by subst hA; rfl
  (refine X.go 500 _ _ ?_; cbv)
  refine X.coin _ _ _ _ _ (fun b hb => ?_)
  cases b
  · (repeat' (first | (refine X.go 500 _ _ ?_; cbv) | (first | refine X.splitT ?_ | refine X.splitF ?_ | refine X.split _ _ _ _ _ (fun hc => ?_) (fun hc => ?_)) | refine X.need _ _ _ trivial ?_ | refine X.need _ _ _ hg ?_ | fail))
    all_goals (refine X.ret _ (X.frz 0 _ _ (X.done rfl ?_)); cbv <;> ((repeat' apply And.intro) <;> first | exact e1 | rfl | trivial))
  · have e2 := hb rfl
    (repeat' (first | (refine X.go 500 _ _ ?_; cbv) | (first | refine X.splitT ?_ | refine X.splitF ?_ | refine X.split _ _ _ _ _ (fun hc => ?_) (fun hc => ?_)) | refine X.need _ _ _ trivial ?_ | fail))
    all_goals (refine X.ret _ (X.done rfl ?_); cbv <;> ((repeat' apply And.intro) <;> first | exact e2 | rfl | trivial))
set_option maxRecDepth 100000 in
set_option maxHeartbeats 0 in
theorem cloneVec_ok (es : List (List AE.AV)) (hl : es.length ≤ 2 ^ 30) : AE.ACall Tryz.prog 78 [] [.l 6 es] [] (.l 6 es) := by
  refine AE.ACall.of_walk (fn := Tryz.f78) (c := bodyOf Tryz.f78) tabOK Tryz.func78 rfl rfl mixed fun A hA X => ?_
  have hg := grow0 hA hl (b := 80) (by decide) (by decide)
  have e1 : A.lapp [] es = es := by subst hA; rfl
  (refine X.go 500 _ _ ?_; cbv)
  refine X.coin _ _ _ _ _ (fun b hb => ?_)
  cases b
  · (repeat' (first | (refine X.go 500 _ _ ?_; cbv) | (first | refine X.splitT ?_ | refine X.splitF ?_ | refine X.split _ _ _ _ _ (fun hc => ?_) (fun hc => ?_)) | refine X.need _ _ _ trivial ?_ | refine X.need _ _ _ hg ?_ | fail))
    all_goals (refine X.ret _ (X.frz 0 _ _ (X.done rfl ?_)); cbv <;> ((repeat' apply And.intro) <;> first | exact e1 | rfl | trivial))
  · have e2 := hb rfl
    (repeat' (first | (refine X.go 500 _ _ ?_; cbv) | (first | refine X.splitT ?_ | refine X.splitF ?_ | refine X.split _ _ _ _ _ (fun hc => ?_) (fun hc => ?_)) | refine X.need _ _ _ trivial ?_ | fail))
    all_goals (refine X.ret _ (X.done rfl ?_); cbv <;> ((repeat' apply And.intro) <;> first | exact e2 | rfl | trivial))
structure Wk.Few (w : Wk) : Prop where
  arms : w.arms.length ≤ 2 ^ 30
  links : ∀ a ∈ w.arms, a.links.length ≤ 2 ^ 30 ∧ ∀ k ∈ a.links, k.shape.length ≤ 2 ^ 30
  walls : w.walls.length ≤ 2 ^ 30 ∧ ∀ l ∈ w.walls, l.length ≤ 2 ^ 30
  parts : w.parts.length ≤ 2 ^ 30 ∧ ∀ p ∈ w.parts, p.shape.length ≤ 2 ^ 30
  slots : w.slots.length ≤ 2 ^ 30
  gates : w.gates.length ≤ 2 ^ 30
set_option maxRecDepth 100000 in
set_option maxHeartbeats 0 in
theorem worksCopy_ok (w : Wk) (hw : w.Few) : AE.ACall Tryz.prog 12 [] [.a w.c] [] (.a w.c) := by
  obtain ⟨f1, f2, ⟨f3, f4⟩, ⟨f5, f6⟩, f7, f8⟩ := hw
  obtain ⟨arms, walls, parts, slots, gates, walk⟩ := w
  simp only at f1 f2 f3 f4 f5 f6 f7 f8
  obtain ⟨ea, hea⟩ : ∃ es, es = lsAv Ar.c arms := ⟨_, rfl⟩
  obtain ⟨ew, hew⟩ : ∃ es, es = lsAv wallC walls := ⟨_, rfl⟩
  obtain ⟨ep, hep⟩ : ∃ es, es = lsAv Pt.c parts := ⟨_, rfl⟩
  obtain ⟨es, hes⟩ : ∃ es, es = lsAv Sl.c slots := ⟨_, rfl⟩
  obtain ⟨eg, heg⟩ : ∃ es, es = lsAv Gt.c gates := ⟨_, rfl⟩
  have k1 := cloneSlot_ok es (by rw [hes, lsAv_len]; exact f7)
  have k2 := cloneGate_ok eg (by rw [heg, lsAv_len]; exact f8)
  simp only [Wk.c, ← hea, ← hew, ← hep, ← hes, ← heg]
  refine AE.ACall.of_walk (fn := Tryz.f12) (c := bodyOf Tryz.f12) tabOK Tryz.func12 rfl rfl mixed fun A hA X => ?_
  obtain ⟨gA, hgA⟩ : ∃ g : Nat → List (List AE.AV), ∀ i, g i = lsAv Ar.c (arms.take i) := ⟨_, fun _ => rfl⟩
  obtain ⟨gW, hgW⟩ : ∃ g : Nat → List (List AE.AV), ∀ i, g i = lsAv wallC (walls.take i) := ⟨_, fun _ => rfl⟩
  obtain ⟨gP, hgP⟩ : ∃ g : Nat → List (List AE.AV), ∀ i, g i = lsAv Pt.c (parts.take i) := ⟨_, fun _ => rfl⟩
  (refine X.go 500 _ _ ?_; cbv)
  apply shareG X
  · intro hs
    refine X.drawX _ _ _ (by kernel_rfl) (X.frzB 0 _ _ (Nat.zero_le _) ?_)
    (repeat' (first | (refine X.go 500 _ _ ?_; cbv) | (first | refine X.splitT ?_ | refine X.splitF ?_ | refine X.split _ _ _ _ _ (fun hc => ?_) (fun hc => ?_)) | refine X.need _ _ _ trivial ?_ | refine X.fork _ _ ?_ ?_ | refine X.callsA [] k1 ?_ | refine X.callsA [] k2 ?_ | fail))
    all_goals exact hs
  refine X.loopG _ _ _ (X.nilB 2 0 54 12 _ _ ?_)
  (refine X.go 500 _ _ ?_; cbv)
  refine rangeLS X hA hea (by omega) (fun _ => True) (fun z _ => [(25, .v (.int .i64 z))]) (fun i o => o.set 3 (.row 54 12 (gA i))) trivial ?_ (fun i z y hz hy hye c3 hI B hB => ?_) (fun z c3 hI B => ?_)
  · have h0 : [] = gA 0 := by rw [hgA]; exact (lsAv_nil _).symm
    (cbv <;> ((repeat' apply And.intro) <;> first | exact h0 | rfl | trivial))
  · obtain ⟨g1, g2⟩ := f2 y (List.mem_of_getElem? hy)
    have e2 := lapp_take hA hy (hgA i) (hgA (i + 1))
    obtain ⟨name, base, links⟩ := y
    simp only at g1 g2
    obtain ⟨gL, hgL⟩ : ∃ g : Nat → List (List AE.AV), ∀ i, g i = lsAv Lk.c (links.take i) := ⟨_, fun _ => rfl⟩
    obtain ⟨el, hel⟩ : ∃ es, es = lsAv Lk.c links := ⟨_, rfl⟩
    have hgl : el = gL links.length := by rw [hgL, List.take_length, hel]
    simp only [Ar.c, ← hel] at hye e2
    have hgrowA : ∀ c, AE.GrowR (A.llen (gA i)) (A.llen [c]) 168 := fun c => grow1 hA (n := 2 ^ 30) (by rw [hgA]; exact Nat.le_trans (take_len _ _ _) f1) (by decide) (by decide)
    clear k1 k2
    (repeat' (first | (refine X.go 500 _ _ ?_; cbv) | (first | refine X.splitT ?_ | refine X.splitF ?_ | refine X.split _ _ _ _ _ (fun hc => ?_) (fun hc => ?_)) | refine X.need _ _ _ trivial ?_ | refine X.idx _ _ _ _ _ _ _ _ hye hz ?_ | fail))
    refine X.loopG _ _ _ (X.nilB 5 11 57 16 _ _ ?_)
    (refine X.go 500 _ _ ?_; cbv)
    refine rangeLS X hA hel (by omega) (fun _ => True) (fun z _ => [(37, .v (.int .i64 z))]) (fun i o => o.set 6 (.row 57 16 (gL i))) trivial ?_ (fun k zk yl hzk hyl hyel c4 hI2 B2 hB2 => ?_) (fun zk c4 hI2 B2 => ?_)
    · have h0 : [] = gL 0 := by rw [hgL]; exact (lsAv_nil _).symm
      clear hB
      (cbv <;> ((repeat' apply And.intro) <;> first | exact h0 | rfl | trivial))
    · have e1 := lapp_take hA hyl (hgL k) (hgL (k + 1))
      have g3 := g2 yl (List.mem_of_getElem? hyl)
      obtain ⟨q1, q2, q3, q4, q5, shape⟩ := yl
      simp only at g3
      obtain ⟨ys, hys⟩ : ∃ es, es = lsAv V2.c shape := ⟨_, rfl⟩
      simp only [Lk.c, ← hys] at hyel e1
      have k3 := cloneVec_ok ys (by rw [hys, lsAv_len]; exact g3)
      have hgrow : ∀ c, AE.GrowR (A.llen (gL k)) (A.llen [c]) 224 := fun c => grow1 hA (n := 2 ^ 30) (by rw [hgL]; exact Nat.le_trans (take_len _ _ _) g1) (by decide) (by decide)
      clear hB
      (repeat' (first | (refine X.go 500 _ _ ?_; cbv) | (first | refine X.splitT ?_ | refine X.splitF ?_ | refine X.split _ _ _ _ _ (fun hc => ?_) (fun hc => ?_)) | refine X.need _ _ _ trivial ?_ | refine X.idx _ _ _ _ _ _ _ _ hyel hzk ?_ | refine X.callsA [] k3 ?_ | refine X.need _ _ _ (hgrow _) ?_ | fail))
      all_goals (refine hB2 trivial _ ?_; clear hB2; (cbv <;> ((repeat' apply And.intro) <;> first | exact e1 | rfl | trivial)))
    · rw [hgl] at e2
      refine X.frz 6 _ _ ?_
      (repeat' (first | (refine X.go 500 _ _ ?_; cbv) | (first | refine X.splitT ?_ | refine X.splitF ?_ | refine X.split _ _ _ _ _ (fun hc => ?_) (fun hc => ?_)) | refine X.need _ _ _ trivial ?_ | refine X.need _ _ _ (hgrowA _) ?_ | fail))
      all_goals (refine hB trivial _ ?_; clear hB; (cbv <;> ((repeat' apply And.intro) <;> first | exact e2 | rfl | trivial)))
  clear k1 k2 f2
  (repeat' (first | (refine X.go 500 _ _ ?_; cbv) | (first | refine X.splitT ?_ | refine X.splitF ?_ | refine X.split _ _ _ _ _ (fun hc => ?_) (fun hc => ?_)) | refine X.need _ _ _ trivial ?_ | fail))
  refine X.loopG _ _ _ (X.nilB 2 1 33 1 _ _ ?_)
  (refine X.go 500 _ _ ?_; cbv)
  refine rangeLS X hA hew (by omega) (fun _ => True) (fun z _ => [(62, .v (.int .i64 z))]) (fun i o => o.set 4 (.row 33 1 (gW i))) trivial ?_ (fun i z y hz hy hye c3 hI B hB => ?_) (fun z c3 hI B => ?_)
  · have h0 : [] = gW 0 := by rw [hgW]; exact (lsAv_nil _).symm
    (cbv <;> ((repeat' apply And.intro) <;> first | exact h0 | rfl | trivial))
  · have e1 := lapp_take hA hy (hgW i) (hgW (i + 1))
    obtain ⟨ys, hys⟩ : ∃ es, es = lsAv V2.c y := ⟨_, rfl⟩
    simp only [wallC, ← hys] at hye e1
    have k3 := cloneVec_ok ys (by rw [hys, lsAv_len]; exact f4 y (List.mem_of_getElem? hy))
    have hgrow : ∀ c, AE.GrowR (A.llen (gW i)) (A.llen [c]) 24 := fun c => grow1 hA (n := 2 ^ 30) (by rw [hgW]; exact Nat.le_trans (take_len _ _ _) f3) (by decide) (by decide)
    (repeat' (first | (refine X.go 500 _ _ ?_; cbv) | (first | refine X.splitT ?_ | refine X.splitF ?_ | refine X.split _ _ _ _ _ (fun hc => ?_) (fun hc => ?_)) | refine X.need _ _ _ trivial ?_ | refine X.drawX _ _ _ (by kernel_rfl) ?_ | refine X.fork _ _ ?_ ?_ | refine X.idx _ _ _ _ _ _ _ _ hye hz ?_ | refine X.callsA [] k3 ?_ | refine X.need _ _ _ (hgrow _) ?_ | fail))
    all_goals (refine hB trivial _ ?_; clear hB; (cbv <;> ((repeat' apply And.intro) <;> first | exact e1 | rfl | trivial)))
  (repeat' (first | (refine X.go 500 _ _ ?_; cbv) | (first | refine X.splitT ?_ | refine X.splitF ?_ | refine X.split _ _ _ _ _ (fun hc => ?_) (fun hc => ?_)) | refine X.need _ _ _ trivial ?_ | fail))
  refine X.loopG _ _ _ (X.nilB 2 2 59 12 _ _ ?_)
  (refine X.go 500 _ _ ?_; cbv)
  refine rangeLS X hA hep (by omega) (fun _ => True) (fun z _ => [(77, .v (.int .i64 z))]) (fun i o => o.set 5 (.row 59 12 (gP i))) trivial ?_ (fun i z y hz hy hye c3 hI B hB => ?_) (fun z c3 hI B => ?_)
  · have h0 : [] = gP 0 := by rw [hgP]; exact (lsAv_nil _).symm
    (cbv <;> ((repeat' apply And.intro) <;> first | exact h0 | rfl | trivial))
  · have e1 := lapp_take hA hy (hgP i) (hgP (i + 1))
    have g3 := f6 y (List.mem_of_getElem? hy)
    obtain ⟨name, shape, grasp⟩ := y
    simp only at g3
    obtain ⟨ys, hys⟩ : ∃ es, es = lsAv V2.c shape := ⟨_, rfl⟩
    simp only [Pt.c, ← hys] at hye e1
    have k3 := cloneVec_ok ys (by rw [hys, lsAv_len]; exact g3)
    have hgrow : ∀ c, AE.GrowR (A.llen (gP i)) (A.llen [c]) 168 := fun c => grow1 hA (n := 2 ^ 30) (by rw [hgP]; exact Nat.le_trans (take_len _ _ _) f5) (by decide) (by decide)
    (repeat' (first | (refine X.go 500 _ _ ?_; cbv) | (first | refine X.splitT ?_ | refine X.splitF ?_ | refine X.split _ _ _ _ _ (fun hc => ?_) (fun hc => ?_)) | refine X.need _ _ _ trivial ?_ | refine X.idx _ _ _ _ _ _ _ _ hye hz ?_ | refine X.callsA [] k3 ?_ | refine X.need _ _ _ (hgrow _) ?_ | fail))
    all_goals (refine hB trivial _ ?_; clear hB; (cbv <;> ((repeat' apply And.intro) <;> first | exact e1 | rfl | trivial)))
  have r1 : gA arms.length = ea := by rw [hgA, List.take_length, hea]
  have r2 : gW walls.length = ew := by rw [hgW, List.take_length, hew]
  have r3 : gP parts.length = ep := by rw [hgP, List.take_length, hep]
  refine X.frz 3 _ _ (X.frz 4 _ _ (X.frz 5 _ _ ?_))
  (repeat' (first | (refine X.go 500 _ _ ?_; cbv) | (first | refine X.splitT ?_ | refine X.splitF ?_ | refine X.split _ _ _ _ _ (fun hc => ?_) (fun hc => ?_)) | refine X.need _ _ _ trivial ?_ | fail))
  all_goals (refine X.ret _ (X.done rfl ?_); cbv <;> ((repeat' apply And.intro) <;> first | exact r1 | exact r2 | exact r3 | rfl | trivial))
end Go.Proofs.YtjbnffclpebkkaaGreatDoor
