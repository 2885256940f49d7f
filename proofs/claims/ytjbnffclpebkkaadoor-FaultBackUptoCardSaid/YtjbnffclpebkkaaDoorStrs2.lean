/- Contracts: slices.Index and Contains of strings; the program's number. -/
import Derived.Test.YtjbnffclpebkkaaDoorLines
set_option linter.unusedVariables false
set_option linter.unusedSimpArgs false
namespace Go.Proofs.YtjbnffclpebkkaaDoor
open Go
theorem c_seql {A : AE.Ari} (hA : A = AE.std) (a b : ByteArray) : A.scmp .eql a b = decide (a = b) := by
  subst hA
  show (a.toList == b.toList) = _
  by_cases h : a = b
  · subst h; simp
  · rw [decide_eq_false h, beq_eq_false_iff_ne]
    intro e
    exact h (ext_bytes (by rw [← Lib.toList_data, ← Lib.toList_data]; exact e))
theorem c_sneq {A : AE.Ari} (hA : A = AE.std) (a b : ByteArray) : A.scmp .neq a b = !decide (a = b) := by
  have := c_seql hA a b
  subst hA
  show (!(a.toList == b.toList)) = _
  rw [← this]; rfl

theorem wix_drop (l : List (List UInt8)) (i : Nat) (h : i < l.length) (w : ByteArray) : wix (l.drop i) i w = if w = ⟨(l[i]).toArray⟩ then (i : Int) else wix (l.drop (i + 1)) (i + 1) w := by
  rw [List.drop_eq_getElem_cons h, wix]

theorem index_ok (w : ByteArray) (es : List (List AE.AV)) (he : es = wl) (k : Int) (hk : k = kOf w) : AE.ACall Tryd.prog 55 [] [.l 1 es, .v (.string w)] [] (.v (.int .i64 k)) := by
  refine AE.ACall.of_walk (fn := Tryd.f55) (c := bodyOf Tryd.f55) tabOK Tryd.func55 rfl rfl mixed fun A hA X => ?_
  have hn : A.llen es = wordsL.length := by subst hA; subst he; simp [AE.std, wl_eq]
  (refine X.go 500 _ _ ?_; cbv)
  refine X.carries (ι := { i : Nat // i ≤ wordsL.length ∧ wix (wordsL.drop i) i w = k }) (fun i => [(8, .v (.int .i64 i.1))]) (fun _ => []) (fun i => wordsL.length - i.1) ⟨0, Nat.zero_le _, by rw [hk]; rfl⟩ ?_ fun i B hB => ?_
  · cbv
    ((repeat' apply And.intro) <;> (try first | rfl | trivial))
  obtain ⟨i, hi, hinv⟩ := i
  (refine X.go 500 _ _ ?_; cbv)
  (refine X.split _ _ _ _ _ (fun hc => ?_) (fun hc => ?_) <;> first | exact absurd (Eq.trans (Eq.symm (show _ = true by assumption)) hc) (by decide) | exact absurd (Eq.trans (Eq.symm (show _ = false by assumption)) hc) (by decide) | skip)
  · have hlt : i < wordsL.length := AE.ltN hA hn hc
    obtain ⟨x, hx⟩ : ∃ x : ByteArray, x = ⟨(wordsL[i]).toArray⟩ := ⟨_, rfl⟩
    have hge : es[i]? = some [.v (.string x)] := by rw [he, wl_eq, List.getElem?_map, List.getElem?_eq_getElem hlt, hx]; rfl
    have hadd := AE.addN hA (show i < 2 ^ 62 by have : wordsL.length = 6 := rfl; omega)
    have hst := wix_drop wordsL i hlt w
    rw [← hx] at hst
    have hyes : A.scmp .eql w x = true → Int.ofNat i = k := fun h => by
      rw [c_seql hA, decide_eq_true_eq] at h
      rw [← hinv, hst, if_pos h]; rfl
    have hno : A.scmp .eql w x = false → wix (wordsL.drop (i + 1)) (i + 1) w = k := fun h => by
      rw [c_seql hA, decide_eq_false_iff_not] at h
      rw [← hinv, hst, if_neg h]
    (refine X.go 500 _ _ ?_; cbv)
    refine X.idx _ _ _ _ _ _ i _ hge rfl ?_
    repeat' (first | (refine X.go 500 _ _ ?_; cbv) | (refine X.split _ _ _ _ _ (fun hc => ?_) (fun hc => ?_) <;> first | exact absurd (Eq.trans (Eq.symm (show _ = true by assumption)) hc) (by decide) | exact absurd (Eq.trans (Eq.symm (show _ = false by assumption)) hc) (by decide) | skip))
    all_goals first
      | (refine X.ret _ (X.done rfl ?_); clear hB; cbv <;> ((repeat' apply And.intro) <;> first | trivial | exact hyes (by assumption)))
      | (refine hB ⟨i + 1, hlt, hno (by assumption)⟩ _ (by show wordsL.length - (i + 1) < wordsL.length - i; omega) ?_; clear hB; cbv; ((repeat' apply And.intro) <;> (try first | rfl | trivial)) <;> exact hadd)
  · have hge : i = wordsL.length := by have := AE.geN hA hn hc; omega
    have hrz : (-1 : Int) = k := by rw [← hinv, hge, List.drop_length]; rfl
    (refine X.go 500 _ _ ?_; cbv)
    refine X.ret _ (X.done rfl ?_)
    cbv
    (repeat' apply And.intro) <;> first | exact hrz | trivial
theorem contains_ok (w : ByteArray) (es : List (List AE.AV)) (he : es = wl) (b : Bool) (hb : b = decide (0 ≤ kOf w)) : AE.ACall Tryd.prog 57 [] [.l 1 es, .v (.string w)] [] (.b b) := by
  refine AE.ACall.of_walk (fn := Tryd.f57) (c := bodyOf Tryd.f57) tabOK Tryd.func57 rfl rfl mixed fun A hA X => ?_
  obtain ⟨k, hk⟩ : ∃ k, k = kOf w := ⟨_, rfl⟩
  have h55 := index_ok w es he k hk
  have hz : A.cmp .geq k 0 = b := by rw [AE.c_geq hA, hb, hk]
  (refine X.go 500 _ _ ?_; cbv)
  (refine X.calls [] h55 (by cbv) ?_ (by cbv) ?_; focus (cbv <;> ((repeat' apply And.intro) <;> first | rfl | trivial)))
  (refine X.go 500 _ _ ?_; cbv)
  refine X.ret _ (X.done rfl ?_)
  cbv
  (repeat' apply And.intro) <;> first | exact hz | trivial

theorem number_ok (s : ByteArray) (hs : s.size ≤ 281474976710656) (n : Int) (hn : n = atV s) (b : Bool) (hb : b = isNum s) : AE.ACallG GG Tryd.prog 54 [] [.v (.string s)] [] (.t [.v (.int .i64 n), .b b]) := by
  refine AE.ACallG.of_walk (fn := Tryd.f54) (c := bodyOf Tryd.f54) GG_stays tabOK Tryd.func54 rfl rfl mixed fun A hA X => ?_
  obtain ⟨g0, g1⟩ := atV_bounds s
  obtain ⟨d, hd⟩ : ∃ d, d = dec n := ⟨_, rfl⟩
  have h49 := itoa_ok n (by rw [hn]; exact g0) (by rw [hn]; exact g1) d hd
  have hb' : b = (atOk s && (decide (0 ≤ n) && decide (d = s))) := by rw [hb, isNum, hd, hn]
  cases ho : atOk s with
  | true =>
    have h58 := atoi_yes s hs ho n hn
    have h1 : A.cmp .geq n 0 = true → A.scmp .eql d s = b := fun h => by
      rw [c_seql hA, hb', ho, decide_eq_true (AE.geT hA h)]; simp
    have h2 : A.cmp .geq n 0 = false → false = b := fun h => by
      have h3 : ¬ 0 ≤ n := Int.not_le.2 (AE.geF hA h)
      rw [hb', ho]; simp [h3]
    (refine X.go 500 _ _ ?_; cbv)
    (refine X.callsG [] h58 (by cbv) ?_ (by cbv) ?_; focus (cbv <;> ((repeat' apply And.intro) <;> first | rfl | trivial)))
    repeat' (first | (refine X.go 500 _ _ ?_; cbv) | (refine X.split _ _ _ _ _ (fun hc => ?_) (fun hc => ?_) <;> first | exact absurd (Eq.trans (Eq.symm (show _ = true by assumption)) hc) (by decide) | exact absurd (Eq.trans (Eq.symm (show _ = false by assumption)) hc) (by decide) | skip) | (refine X.callsG [] h49 (by cbv) ?_ (by cbv) ?_; focus (cbv <;> ((repeat' apply And.intro) <;> first | rfl | trivial))))
    all_goals (refine X.ret _ (X.done rfl ?_); cbv <;> ((repeat' apply And.intro) <;> first | trivial | exact h1 (by assumption) | exact h2 (by assumption)))
  | false =>
    have h58 := atoi_no s hs ho n hn
    have h2 : false = b := by rw [hb', ho]; simp
    (refine X.go 500 _ _ ?_; cbv)
    (refine X.callsG [] h58 (by cbv) ?_ (by cbv) ?_; focus (cbv <;> ((repeat' apply And.intro) <;> first | rfl | trivial)))
    repeat' (first | (refine X.go 500 _ _ ?_; cbv) | (refine X.split _ _ _ _ _ (fun hc => ?_) (fun hc => ?_) <;> first | exact absurd (Eq.trans (Eq.symm (show _ = true by assumption)) hc) (by decide) | exact absurd (Eq.trans (Eq.symm (show _ = false by assumption)) hc) (by decide) | skip))
    all_goals (refine X.ret _ (X.done rfl ?_); cbv <;> ((repeat' apply And.intro) <;> first | trivial | exact h2))
end Go.Proofs.YtjbnffclpebkkaaDoor
