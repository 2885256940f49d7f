/- FaultTexts answers true, whatever it is called with. -/
import Derived.Test.YtjbnffclpebkkaaDoorScripted
import Derived.Test.YtjbnffclpebkkaaDoorFaults
import Derived.Test.YtjbnffclpebkkaaDoorBegun
set_option linter.unusedVariables false
set_option linter.unusedSimpArgs false
namespace Go.Proofs.YtjbnffclpebkkaaDoor
open Go
theorem chk_sane (arms : Int) (ha : arms ≤ 9223372036854775807) : ∀ (pre l : List Fl), chkR arms pre l = 0 → ∀ x ∈ l, Sane x
  | pre, [], _, x, hx => by simp at hx
  | pre, y :: l, h, x, hx => by
    rw [chkR] at h
    split at h
    · rename_i hb
      rcases List.mem_cons.1 hx with rfl | hx
      · unfold bad at hb
        (repeat' split at hb) <;> first | exact ⟨⟨by omega, by omega⟩, ⟨by omega, by omega⟩, by omega, by omega⟩ | (exfalso; revert hb; decide)
      · exact chk_sane arms ha _ l h x hx
    · rename_i hb; exact absurd h hb
theorem check_sane (arms : Int) (ha : arms ≤ 9223372036854775807) (l : List Fl) (h : checkS arms l = 0) : l.length ≤ 40 ∧ ∀ x ∈ l, Sane x := by
  rw [checkS] at h
  split at h
  · cases h
  · exact ⟨by omega, chk_sane arms ha [] l h⟩
theorem rd_len : ∀ (n : Nat) (s : List UInt8) (out r : List Fl), rdF n s out = some r → r.length ≤ out.length + n
  | _, [], out, r, h => by rw [rdF] at h; cases h; omega
  | 0, c :: s, out, r, h => by simp [rdF] at h
  | n + 1, c :: s, out, r, h => by
    rw [rdF] at h
    · split at h
      · cases h
      · split at h
        · cases h
        · have := rd_len n _ _ r h
          simp at this; omega
    · simp

set_option maxRecDepth 100000 in
set_option maxHeartbeats 0 in
theorem law6_ok (l : List Fl) (hl : l.length < 2 ^ 30) (s : ByteArray) (hs : s.size ≤ 2 ^ 30) (arms : Int) (ha : arms ≤ 9223372036854775807) (es : List (List AE.AV)) (he : es = fl l) :
    AE.ACallG GG Tryd.prog 6 [] [.l 3 es, .v (.string s), .v (.int .i64 arms)] [] (.b true) := by
  refine AE.ACallG.of_walk (fn := Tryd.f6) (c := bodyOf Tryd.f6) GG_stays tabOK Tryd.func6 rfl rfl mixed fun A hA X => ?_
  obtain ⟨q, hq⟩ : ∃ q : Bool, q = true := ⟨_, rfl⟩
  have h8 := begun_ok q hq
  have cq : A.bnot q = false := by rw [AE.c_not hA, hq]; rfl
  obtain ⟨e, hE⟩ : ∃ e, e = checkS arms l := ⟨_, rfl⟩
  have h10 := faults_ok l (by omega) arms es he e hE
  obtain ⟨t, r, htr⟩ : ∃ t r, (t, r) = writeS arms l := ⟨_, _, rfl⟩
  have hre : r = e := by rw [hE]; rw [writeS] at htr; split at htr <;> rename_i h0 <;> cases htr <;> simp [h0]
  rw [hre] at htr
  have hte : e ≠ 0 → t = ⟨⟨[]⟩⟩ := fun h => by rw [writeS, if_neg (by rw [← hE]; exact h)] at htr; cases htr; rfl
  have hto : e = 0 → t = textB l := fun h => by rw [writeS, if_pos (by rw [← hE]; exact h)] at htr; cases htr; rfl
  obtain ⟨st, hst⟩ : ∃ st, st = textB l := ⟨_, rfl⟩
  obtain ⟨gs, hgs⟩ : ∃ gs, gs = fl (readS arms s).1 := ⟨_, rfl⟩
  obtain ⟨ge, hge⟩ : ∃ ge, ge = (readS arms s).2 := ⟨_, rfl⟩
  have h35 := read_ok s hs arms gs ge hgs hge
  have hz : fl [] = [] := by rw [fl_eq]; rfl
  have h33 := writeG_ok GG_stays l hl arms es he (fun h0 x hx => by
    have := (check_sane arms ha l h0).2 x hx
    exact ⟨itoaG _ this.t.lo this.t.hi, itoaG _ this.n.lo this.n.hi⟩) t e htr
  -- the second half, once
  have half : (2000 < s.size ∧ gs = [] ∧ ge = 2) ∨ (s.size ≤ 2000 ∧ ((rdR s [] = none ∧ gs = [] ∧ ge = 15) ∨ ∃ w, rdR s [] = some w ∧ ((checkS arms w ≠ 0 ∧ gs = [] ∧ ge = checkS arms w) ∨ (checkS arms w = 0 ∧ gs = fl w ∧ ge = 0)))) := by
    rw [hgs, hge, readS]
    by_cases h1 : 2000 < s.size
    · rw [if_pos h1]; exact .inl ⟨h1, hz, rfl⟩
    · rw [if_neg h1]
      refine .inr ⟨by omega, ?_⟩
      cases hr : rdR s [] with
      | none => exact .inl ⟨rfl, hz, rfl⟩
      | some w =>
        refine .inr ⟨w, rfl, ?_⟩
        by_cases h2 : checkS arms w = 0
        · refine .inr ⟨h2, ?_, ?_⟩ <;> simp [h2]
        · refine .inl ⟨h2, ?_, ?_⟩ <;> simp [h2, hz]
  have first : ∀ K : List AE.Item, True := fun _ => trivial
  obtain ⟨sc, hsc⟩ : ∃ sc, sc = fl (scrS s).1 := ⟨_, rfl⟩
  obtain ⟨sq, hsq⟩ : ∃ sq, sq = (scrS s).2 := ⟨_, rfl⟩
  clear first hgs hge
  by_cases h0 : e = 0
  · have ce : A.cmp .neq e 0 = false := by rw [AE.c_neq hA, h0]; rfl
    have hsane := check_sane arms ha l (hE ▸ h0)
    have h34 := refScript_ok l (by omega) es he hsane.2 st hst
    have cs : A.scmp .neq t st = false := by rw [c_sneq hA, hto h0, hst]; simp
    rcases half with ⟨h1, h2, h3⟩ | ⟨h1, ⟨h2, h3, h4⟩ | ⟨w, h2, ⟨h3, h4, h5⟩ | ⟨h3, h4, h5⟩⟩⟩
    · have c1 : A.cmp .gtr (A.slen s) 2000 = true := by subst hA; simp only [AE.std, AE.cmpI]; simp; omega
      have c2 : A.cmp .eql ge 2 = true := by rw [AE.c_eql hA, h3]; rfl
      have c3 : A.cmp .eql (A.llen gs) 0 = true := by subst hA; rw [h2]; rfl
      repeat' (first | (refine X.go 500 _ _ ?_; cbv) | (refine X.split _ _ _ _ _ (fun hc => ?_) (fun hc => ?_) <;> first | exact absurd (Eq.trans (Eq.symm (show _ = true by assumption)) hc) (by decide) | exact absurd (Eq.trans (Eq.symm (show _ = false by assumption)) hc) (by decide) | skip) | (refine X.calls [] h8 (by cbv) ?_ (by cbv) ?_; focus (cbv <;> ((repeat' apply And.intro) <;> first | rfl | trivial))) | (refine X.callsG [] h33 (by cbv) ?_ (by cbv) ?_; focus (cbv <;> ((repeat' apply And.intro) <;> first | rfl | trivial))) | (refine X.calls [] h10 (by cbv) ?_ (by cbv) ?_; focus (cbv <;> ((repeat' apply And.intro) <;> first | rfl | trivial))) | (refine X.callsG [] h34 (by cbv) ?_ (by cbv) ?_; focus (cbv <;> ((repeat' apply And.intro) <;> first | rfl | trivial))) | (refine X.callsG [] h35 (by cbv) ?_ (by cbv) ?_; focus (cbv <;> ((repeat' apply And.intro) <;> first | rfl | trivial))) | (refine X.callsG [] h36 (by cbv) ?_ (by cbv) ?_; focus (cbv <;> ((repeat' apply And.intro) <;> first | rfl | trivial))))
      all_goals (refine X.ret _ (X.done rfl ?_); cbv <;> ((repeat' apply And.intro) <;> first | exact c3 | trivial))
    · have c1 : A.cmp .gtr (A.slen s) 2000 = false := by subst hA; simp only [AE.std, AE.cmpI]; simp; omega
      rw [scrS, h2] at hsc hsq
      have h36 := scripted_ok s h1 sc sq (by rw [scrS, h2]; exact hsc) (by rw [scrS, h2]; exact hsq)
      have hq2 : sq = false := hsq
      have c15 : A.cmp .neq 15 0 = true := by subst hA; rfl
      have c2 : A.cmp .eql ge 15 = true := by rw [AE.c_eql hA, h4]; rfl
      have c3 : A.cmp .eql (A.llen gs) 0 = true := by subst hA; rw [h3]; rfl
      repeat' (first | (refine X.go 500 _ _ ?_; cbv) | (refine X.split _ _ _ _ _ (fun hc => ?_) (fun hc => ?_) <;> first | exact absurd (Eq.trans (Eq.symm (show _ = true by assumption)) hc) (by decide) | exact absurd (Eq.trans (Eq.symm (show _ = false by assumption)) hc) (by decide) | skip) | (refine X.calls [] h8 (by cbv) ?_ (by cbv) ?_; focus (cbv <;> ((repeat' apply And.intro) <;> first | rfl | trivial))) | (refine X.callsG [] h33 (by cbv) ?_ (by cbv) ?_; focus (cbv <;> ((repeat' apply And.intro) <;> first | rfl | trivial))) | (refine X.calls [] h10 (by cbv) ?_ (by cbv) ?_; focus (cbv <;> ((repeat' apply And.intro) <;> first | rfl | trivial))) | (refine X.callsG [] h34 (by cbv) ?_ (by cbv) ?_; focus (cbv <;> ((repeat' apply And.intro) <;> first | rfl | trivial))) | (refine X.callsG [] h35 (by cbv) ?_ (by cbv) ?_; focus (cbv <;> ((repeat' apply And.intro) <;> first | rfl | trivial))) | (refine X.callsG [] h36 (by cbv) ?_ (by cbv) ?_; focus (cbv <;> ((repeat' apply And.intro) <;> first | rfl | trivial))))
      all_goals (refine X.ret _ (X.done rfl ?_); cbv <;> ((repeat' apply And.intro) <;> first | exact c3 | trivial))
    · have c1 : A.cmp .gtr (A.slen s) 2000 = false := by subst hA; simp only [AE.std, AE.cmpI]; simp; omega
      rw [scrS, h2] at hsc hsq
      have h36 := scripted_ok s h1 sc sq (by rw [scrS, h2]; exact hsc) (by rw [scrS, h2]; exact hsq)
      have hq2 : sq = true := hsq
      have hwl : w.length ≤ 2000 := by have := rd_len _ _ _ _ h2; simp at this; omega
      obtain ⟨e2, hE2⟩ : ∃ e2, e2 = checkS arms w := ⟨_, rfl⟩
      have h10b := faults_ok w (by omega) arms sc hsc e2 hE2
      have c15 : A.cmp .neq e2 0 = true := by rw [AE.c_neq hA, hE2]; simp [h3]
      have c2 : A.cmp .eql ge e2 = true := by rw [AE.c_eql hA, h5, hE2]; simp
      have c3 : A.cmp .eql (A.llen gs) 0 = true := by subst hA; rw [h4]; rfl
      repeat' (first | (refine X.go 500 _ _ ?_; cbv) | (refine X.split _ _ _ _ _ (fun hc => ?_) (fun hc => ?_) <;> first | exact absurd (Eq.trans (Eq.symm (show _ = true by assumption)) hc) (by decide) | exact absurd (Eq.trans (Eq.symm (show _ = false by assumption)) hc) (by decide) | skip) | (refine X.calls [] h8 (by cbv) ?_ (by cbv) ?_; focus (cbv <;> ((repeat' apply And.intro) <;> first | rfl | trivial))) | (refine X.callsG [] h33 (by cbv) ?_ (by cbv) ?_; focus (cbv <;> ((repeat' apply And.intro) <;> first | rfl | trivial))) | (refine X.calls [] h10 (by cbv) ?_ (by cbv) ?_; focus (cbv <;> ((repeat' apply And.intro) <;> first | rfl | trivial))) | (refine X.calls [] h10b (by cbv) ?_ (by cbv) ?_; focus (cbv <;> ((repeat' apply And.intro) <;> first | rfl | trivial))) | (refine X.callsG [] h34 (by cbv) ?_ (by cbv) ?_; focus (cbv <;> ((repeat' apply And.intro) <;> first | rfl | trivial))) | (refine X.callsG [] h35 (by cbv) ?_ (by cbv) ?_; focus (cbv <;> ((repeat' apply And.intro) <;> first | rfl | trivial))) | (refine X.callsG [] h36 (by cbv) ?_ (by cbv) ?_; focus (cbv <;> ((repeat' apply And.intro) <;> first | rfl | trivial))) | (refine X.calls [] h13 (by cbv) ?_ (by cbv) ?_; focus (cbv <;> ((repeat' apply And.intro) <;> first | rfl | trivial))))
      all_goals (refine X.ret _ (X.done rfl ?_); cbv <;> ((repeat' apply And.intro) <;> first | exact c3 | trivial))
    · have c1 : A.cmp .gtr (A.slen s) 2000 = false := by subst hA; simp only [AE.std, AE.cmpI]; simp; omega
      rw [scrS, h2] at hsc hsq
      have h36 := scripted_ok s h1 sc sq (by rw [scrS, h2]; exact hsc) (by rw [scrS, h2]; exact hsq)
      have hq2 : sq = true := hsq
      have hwl : w.length ≤ 2000 := by have := rd_len _ _ _ _ h2; simp at this; omega
      obtain ⟨e2, hE2⟩ : ∃ e2, e2 = checkS arms w := ⟨_, rfl⟩
      have h10b := faults_ok w (by omega) arms sc hsc e2 hE2
      have c15 : A.cmp .neq e2 0 = false := by rw [AE.c_neq hA, hE2, h3]; rfl
      have c2 : A.cmp .eql ge 0 = true := by rw [AE.c_eql hA, h5]; rfl
      obtain ⟨q3, hq3⟩ : ∃ q3 : Bool, q3 = true := ⟨_, rfl⟩
      have h13 := equal_ok w w (by omega) gs sc h4 hsc q3 (by simp [hq3])
      repeat' (first | (refine X.go 500 _ _ ?_; cbv) | (refine X.split _ _ _ _ _ (fun hc => ?_) (fun hc => ?_) <;> first | exact absurd (Eq.trans (Eq.symm (show _ = true by assumption)) hc) (by decide) | exact absurd (Eq.trans (Eq.symm (show _ = false by assumption)) hc) (by decide) | skip) | (refine X.calls [] h8 (by cbv) ?_ (by cbv) ?_; focus (cbv <;> ((repeat' apply And.intro) <;> first | rfl | trivial))) | (refine X.callsG [] h33 (by cbv) ?_ (by cbv) ?_; focus (cbv <;> ((repeat' apply And.intro) <;> first | rfl | trivial))) | (refine X.calls [] h10 (by cbv) ?_ (by cbv) ?_; focus (cbv <;> ((repeat' apply And.intro) <;> first | rfl | trivial))) | (refine X.calls [] h10b (by cbv) ?_ (by cbv) ?_; focus (cbv <;> ((repeat' apply And.intro) <;> first | rfl | trivial))) | (refine X.callsG [] h34 (by cbv) ?_ (by cbv) ?_; focus (cbv <;> ((repeat' apply And.intro) <;> first | rfl | trivial))) | (refine X.callsG [] h35 (by cbv) ?_ (by cbv) ?_; focus (cbv <;> ((repeat' apply And.intro) <;> first | rfl | trivial))) | (refine X.callsG [] h36 (by cbv) ?_ (by cbv) ?_; focus (cbv <;> ((repeat' apply And.intro) <;> first | rfl | trivial))) | (refine X.calls [] h13 (by cbv) ?_ (by cbv) ?_; focus (cbv <;> ((repeat' apply And.intro) <;> first | rfl | trivial))))
      all_goals (refine X.ret _ (X.done rfl ?_); cbv <;> ((repeat' apply And.intro) <;> first | exact hq3 | trivial))
  · have ce : A.cmp .neq e 0 = true := by rw [AE.c_neq hA]; simp [h0]
    have cq2 : A.cmp .neq e e = false := by rw [AE.c_neq hA]; simp
    have ct : A.scmp .neq t ⟨⟨[]⟩⟩ = false := by rw [c_sneq hA, hte h0]; simp
    rcases half with ⟨h1, h2, h3⟩ | ⟨h1, ⟨h2, h3, h4⟩ | ⟨w, h2, ⟨h3, h4, h5⟩ | ⟨h3, h4, h5⟩⟩⟩
    · have c1 : A.cmp .gtr (A.slen s) 2000 = true := by subst hA; simp only [AE.std, AE.cmpI]; simp; omega
      have c2 : A.cmp .eql ge 2 = true := by rw [AE.c_eql hA, h3]; rfl
      have c3 : A.cmp .eql (A.llen gs) 0 = true := by subst hA; rw [h2]; rfl
      repeat' (first | (refine X.go 500 _ _ ?_; cbv) | (refine X.split _ _ _ _ _ (fun hc => ?_) (fun hc => ?_) <;> first | exact absurd (Eq.trans (Eq.symm (show _ = true by assumption)) hc) (by decide) | exact absurd (Eq.trans (Eq.symm (show _ = false by assumption)) hc) (by decide) | skip) | (refine X.calls [] h8 (by cbv) ?_ (by cbv) ?_; focus (cbv <;> ((repeat' apply And.intro) <;> first | rfl | trivial))) | (refine X.callsG [] h33 (by cbv) ?_ (by cbv) ?_; focus (cbv <;> ((repeat' apply And.intro) <;> first | rfl | trivial))) | (refine X.calls [] h10 (by cbv) ?_ (by cbv) ?_; focus (cbv <;> ((repeat' apply And.intro) <;> first | rfl | trivial))) | (refine X.callsG [] h35 (by cbv) ?_ (by cbv) ?_; focus (cbv <;> ((repeat' apply And.intro) <;> first | rfl | trivial))) | (refine X.callsG [] h36 (by cbv) ?_ (by cbv) ?_; focus (cbv <;> ((repeat' apply And.intro) <;> first | rfl | trivial))))
      all_goals (refine X.ret _ (X.done rfl ?_); cbv <;> ((repeat' apply And.intro) <;> first | exact c3 | trivial))
    · have c1 : A.cmp .gtr (A.slen s) 2000 = false := by subst hA; simp only [AE.std, AE.cmpI]; simp; omega
      rw [scrS, h2] at hsc hsq
      have h36 := scripted_ok s h1 sc sq (by rw [scrS, h2]; exact hsc) (by rw [scrS, h2]; exact hsq)
      have hq2 : sq = false := hsq
      have c15 : A.cmp .neq 15 0 = true := by subst hA; rfl
      have c2 : A.cmp .eql ge 15 = true := by rw [AE.c_eql hA, h4]; rfl
      have c3 : A.cmp .eql (A.llen gs) 0 = true := by subst hA; rw [h3]; rfl
      repeat' (first | (refine X.go 500 _ _ ?_; cbv) | (refine X.split _ _ _ _ _ (fun hc => ?_) (fun hc => ?_) <;> first | exact absurd (Eq.trans (Eq.symm (show _ = true by assumption)) hc) (by decide) | exact absurd (Eq.trans (Eq.symm (show _ = false by assumption)) hc) (by decide) | skip) | (refine X.calls [] h8 (by cbv) ?_ (by cbv) ?_; focus (cbv <;> ((repeat' apply And.intro) <;> first | rfl | trivial))) | (refine X.callsG [] h33 (by cbv) ?_ (by cbv) ?_; focus (cbv <;> ((repeat' apply And.intro) <;> first | rfl | trivial))) | (refine X.calls [] h10 (by cbv) ?_ (by cbv) ?_; focus (cbv <;> ((repeat' apply And.intro) <;> first | rfl | trivial))) | (refine X.callsG [] h35 (by cbv) ?_ (by cbv) ?_; focus (cbv <;> ((repeat' apply And.intro) <;> first | rfl | trivial))) | (refine X.callsG [] h36 (by cbv) ?_ (by cbv) ?_; focus (cbv <;> ((repeat' apply And.intro) <;> first | rfl | trivial))))
      all_goals (refine X.ret _ (X.done rfl ?_); cbv <;> ((repeat' apply And.intro) <;> first | exact c3 | trivial))
    · have c1 : A.cmp .gtr (A.slen s) 2000 = false := by subst hA; simp only [AE.std, AE.cmpI]; simp; omega
      rw [scrS, h2] at hsc hsq
      have h36 := scripted_ok s h1 sc sq (by rw [scrS, h2]; exact hsc) (by rw [scrS, h2]; exact hsq)
      have hq2 : sq = true := hsq
      have hwl : w.length ≤ 2000 := by have := rd_len _ _ _ _ h2; simp at this; omega
      obtain ⟨e2, hE2⟩ : ∃ e2, e2 = checkS arms w := ⟨_, rfl⟩
      have h10b := faults_ok w (by omega) arms sc hsc e2 hE2
      have c15 : A.cmp .neq e2 0 = true := by rw [AE.c_neq hA, hE2]; simp [h3]
      have c2 : A.cmp .eql ge e2 = true := by rw [AE.c_eql hA, h5, hE2]; simp
      have c3 : A.cmp .eql (A.llen gs) 0 = true := by subst hA; rw [h4]; rfl
      repeat' (first | (refine X.go 500 _ _ ?_; cbv) | (refine X.split _ _ _ _ _ (fun hc => ?_) (fun hc => ?_) <;> first | exact absurd (Eq.trans (Eq.symm (show _ = true by assumption)) hc) (by decide) | exact absurd (Eq.trans (Eq.symm (show _ = false by assumption)) hc) (by decide) | skip) | (refine X.calls [] h8 (by cbv) ?_ (by cbv) ?_; focus (cbv <;> ((repeat' apply And.intro) <;> first | rfl | trivial))) | (refine X.callsG [] h33 (by cbv) ?_ (by cbv) ?_; focus (cbv <;> ((repeat' apply And.intro) <;> first | rfl | trivial))) | (refine X.calls [] h10 (by cbv) ?_ (by cbv) ?_; focus (cbv <;> ((repeat' apply And.intro) <;> first | rfl | trivial))) | (refine X.calls [] h10b (by cbv) ?_ (by cbv) ?_; focus (cbv <;> ((repeat' apply And.intro) <;> first | rfl | trivial))) | (refine X.callsG [] h35 (by cbv) ?_ (by cbv) ?_; focus (cbv <;> ((repeat' apply And.intro) <;> first | rfl | trivial))) | (refine X.callsG [] h36 (by cbv) ?_ (by cbv) ?_; focus (cbv <;> ((repeat' apply And.intro) <;> first | rfl | trivial))) | (refine X.calls [] h13 (by cbv) ?_ (by cbv) ?_; focus (cbv <;> ((repeat' apply And.intro) <;> first | rfl | trivial))))
      all_goals (refine X.ret _ (X.done rfl ?_); cbv <;> ((repeat' apply And.intro) <;> first | exact c3 | trivial))
    · have c1 : A.cmp .gtr (A.slen s) 2000 = false := by subst hA; simp only [AE.std, AE.cmpI]; simp; omega
      rw [scrS, h2] at hsc hsq
      have h36 := scripted_ok s h1 sc sq (by rw [scrS, h2]; exact hsc) (by rw [scrS, h2]; exact hsq)
      have hq2 : sq = true := hsq
      have hwl : w.length ≤ 2000 := by have := rd_len _ _ _ _ h2; simp at this; omega
      obtain ⟨e2, hE2⟩ : ∃ e2, e2 = checkS arms w := ⟨_, rfl⟩
      have h10b := faults_ok w (by omega) arms sc hsc e2 hE2
      have c15 : A.cmp .neq e2 0 = false := by rw [AE.c_neq hA, hE2, h3]; rfl
      have c2 : A.cmp .eql ge 0 = true := by rw [AE.c_eql hA, h5]; rfl
      obtain ⟨q3, hq3⟩ : ∃ q3 : Bool, q3 = true := ⟨_, rfl⟩
      have h13 := equal_ok w w (by omega) gs sc h4 hsc q3 (by simp [hq3])
      repeat' (first | (refine X.go 500 _ _ ?_; cbv) | (refine X.split _ _ _ _ _ (fun hc => ?_) (fun hc => ?_) <;> first | exact absurd (Eq.trans (Eq.symm (show _ = true by assumption)) hc) (by decide) | exact absurd (Eq.trans (Eq.symm (show _ = false by assumption)) hc) (by decide) | skip) | (refine X.calls [] h8 (by cbv) ?_ (by cbv) ?_; focus (cbv <;> ((repeat' apply And.intro) <;> first | rfl | trivial))) | (refine X.callsG [] h33 (by cbv) ?_ (by cbv) ?_; focus (cbv <;> ((repeat' apply And.intro) <;> first | rfl | trivial))) | (refine X.calls [] h10 (by cbv) ?_ (by cbv) ?_; focus (cbv <;> ((repeat' apply And.intro) <;> first | rfl | trivial))) | (refine X.calls [] h10b (by cbv) ?_ (by cbv) ?_; focus (cbv <;> ((repeat' apply And.intro) <;> first | rfl | trivial))) | (refine X.callsG [] h35 (by cbv) ?_ (by cbv) ?_; focus (cbv <;> ((repeat' apply And.intro) <;> first | rfl | trivial))) | (refine X.callsG [] h36 (by cbv) ?_ (by cbv) ?_; focus (cbv <;> ((repeat' apply And.intro) <;> first | rfl | trivial))) | (refine X.calls [] h13 (by cbv) ?_ (by cbv) ?_; focus (cbv <;> ((repeat' apply And.intro) <;> first | rfl | trivial))))
      all_goals (refine X.ret _ (X.done rfl ?_); cbv <;> ((repeat' apply And.intro) <;> first | exact hq3 | trivial))
end Go.Proofs.YtjbnffclpebkkaaDoor
