/- Contracts: Below; the made script of faults. -/
import Derived.Test.YtjbnffclpebkkaaDoorParts
set_option linter.unusedVariables false
set_option linter.unusedSimpArgs false
namespace Go.Proofs.YtjbnffclpebkkaaDoor
open Go
theorem below_ok (x n : Int) (h0 : 0 < n) (h1 : n ≤ 1000) (r : Int) (hr : r = x % n) : AE.ACall Tryd.prog 17 [] [.v (.int .i64 x), .v (.int .i64 n)] [] (.v (.int .i64 r)) := by
  refine AE.ACall.of_walk (fn := Tryd.f17) (c := bodyOf Tryd.f17) tabOK Tryd.func17 rfl rfl mixed fun A hA X => ?_
  have ht : A.bin .rem .i64 x n = x % n - if 0 ≤ x ∨ n ∣ x then 0 else n := by
    subst hA
    show Int.tmod x n = _
    rw [Int.tmod_eq_emod]
    have : ((n.natAbs : Nat) : Int) = n := by omega
    split <;> simp [this]
  have hb := Int.emod_nonneg x (show n ≠ 0 by omega)
  have hb2 := Int.emod_lt_of_pos x h0
  have hneg : A.bin .rem .i64 x n < 0 → A.bin .add .i64 (A.bin .rem .i64 x n) n = r := fun h => by
    have e : A.bin .rem .i64 x n = x % n - n := by
      rw [ht] at h ⊢
      split at h <;> split <;> omega
    rw [e, hr]
    subst hA
    rw [AE.std_add] <;> omega
  have hpos : ¬ A.bin .rem .i64 x n < 0 → A.bin .rem .i64 x n = r := fun h => by
    rw [ht] at h ⊢
    rw [hr]
    split at h <;> split <;> omega
  (refine X.go 500 _ _ ?_; cbv)
  refine X.need _ _ _ (show n ≠ 0 by omega) ?_
  (refine X.go 500 _ _ ?_; cbv)
  (refine X.split _ _ _ _ _ (fun hc => ?_) (fun hc => ?_) <;> first | exact absurd (Eq.trans (Eq.symm (show _ = true by assumption)) hc) (by decide) | exact absurd (Eq.trans (Eq.symm (show _ = false by assumption)) hc) (by decide) | skip)
  · have h2 := hneg (AE.ltT hA hc)
    (refine X.go 500 _ _ ?_; cbv)
    refine X.ret _ (X.done rfl ?_)
    cbv
    (repeat' apply And.intro) <;> first | exact h2 | trivial
  · have h2 := hpos (Int.not_lt.2 (AE.ltF hA hc))
    (refine X.go 500 _ _ ?_; cbv)
    refine X.ret _ (X.done rfl ?_)
    cbv
    (repeat' apply And.intro) <;> first | exact h2 | trivial

theorem il_ex : ∃ g : List Int → List (List AE.AV), ∀ l, g l = l.map fun n => [.v (.int .i64 n)] := ⟨_, fun _ => rfl⟩
/-- Numbers as elements. -/
noncomputable def il : List Int → List (List AE.AV) := il_ex.choose
theorem il_eq (l : List Int) : il l = l.map fun n => [.v (.int .i64 n)] := il_ex.choose_spec l
theorem il_get (l : List Int) (i : Nat) (h : i < l.length) : (il l)[i]? = some [.v (.int .i64 l[i])] := by simp [il_eq, h]
theorem il_len (l : List Int) : (il l).length = l.length := by simp [il_eq]

/-- The kind of a made fault. -/
def scrK (k0 : Int) (d : Bool) : Int := if k0 = 3 ∧ d = true then 4 else if k0 = 4 ∧ d = false then 3 else k0
def scrF (tick : Int) (out : List Fl) (a b c : Int) : Fl := ⟨tick + a % 4, scrK (b % 6) (downF (c % 2) (tick + a % 4) out), c % 2⟩
def scrL : List Int → Int → List Fl → List Fl
  | a :: b :: c :: rest, tick, out => if out.length < 20 then scrL rest (tick + a % 4) (out ++ [scrF tick out a b c]) else out
  | _, _, out => out
theorem scr_step (l : List Int) (i : Nat) (h : i + 2 < l.length) (tick : Int) (out : List Fl) (ho : out.length < 20) :
    scrL (l.drop i) tick out = scrL (l.drop (i + 3)) (tick + l[i] % 4) (out ++ [scrF tick out l[i] l[i + 1] l[i + 2]]) := by
  have h1 : l.drop i = l[i] :: l[i + 1] :: l[i + 2] :: l.drop (i + 3) := by
    rw [List.drop_eq_getElem_cons (show i < l.length by omega), List.drop_eq_getElem_cons (show i + 1 < l.length by omega), List.drop_eq_getElem_cons (show i + 2 < l.length by omega)]
  rw [h1, scrL, if_pos ho]
theorem scr_end (l : List Int) (i : Nat) (tick : Int) (out : List Fl) (h : ¬ (i + 2 < l.length ∧ out.length < 20)) : scrL (l.drop i) tick out = out := by
  match hq : l.drop i with
  | a :: b :: c :: rest =>
    have : (l.drop i).length = rest.length + 3 := by rw [hq]; rfl
    rw [List.length_drop] at this
    rw [scrL, if_neg (by omega)]
  | [] => rfl
  | [_] => rfl
  | [_, _] => rfl

set_option maxRecDepth 100000 in
set_option maxHeartbeats 0 in
theorem script_ok (l : List Int) (hl : l.length < 2 ^ 40) (es : List (List AE.AV)) (he : es = il l) (rs : List (List AE.AV)) (hr : rs = fl (scrL l 0 [])) :
    AE.ACall Tryd.prog 16 [] [.l 1 es] [.row 28 3 rs] (.r 0) := by
  refine AE.ACall.of_walk (fn := Tryd.f16) (c := bodyOf Tryd.f16) tabOK Tryd.func16 rfl rfl mixed fun A hA X => ?_
  have hn : A.llen es = l.length := by subst hA; subst he; simp [AE.std, il_len]
  (refine X.go 500 _ _ ?_; cbv)
  refine X.loopG _ _ _ (X.nilT 3 28 3 _ _ ?_)
  (refine X.go 500 _ _ ?_; cbv)
  refine X.carries (ι := { p : Nat × Int × List Fl // p.1 ≤ l.length ∧ p.2.2.length ≤ 20 ∧ 0 ≤ p.2.1 ∧ p.2.1 ≤ 3 * p.2.2.length ∧ fl (scrL (l.drop p.1) p.2.1 p.2.2) = rs })
    (fun p => [(5, .v (.int .i64 p.1.1)), (4, .v (.int .i64 p.1.2.1)), (3, .r 0)]) (fun p => [.row 28 3 (fl p.1.2.2)]) (fun p => l.length - p.1.1) ⟨(0, 0, []), Nat.zero_le _, by decide, by decide, by decide, by rw [hr]; rfl⟩ ?_ fun p B hB => ?_
  · have h0 : ([] : List (List AE.AV)) = fl [] := by rw [fl_eq]; rfl
    cbv
    ((repeat' apply And.intro) <;> (try first | rfl | trivial))
    all_goals exact h0
  obtain ⟨⟨i, tick, out⟩, hi, hol, ht0, ht1, hinv⟩ := p
  simp only at hi hol ht0 ht1 hinv
  obtain ⟨v, hv⟩ : ∃ v, v = fl out := ⟨_, rfl⟩
  simp only [← hv]
  have hi2 : A.bin .add .i64 (Int.ofNat i) 2 = Int.ofNat (i + 2) := by subst hA; show AE.std.bin .add .i64 (i : Int) 2 = ((i + 2 : Nat) : Int); rw [AE.std_add] <;> omega
  have hi1 : A.bin .add .i64 (Int.ofNat i) 1 = Int.ofNat (i + 1) := by subst hA; show AE.std.bin .add .i64 (i : Int) 1 = ((i + 1 : Nat) : Int); rw [AE.std_add] <;> omega
  have hi3 : A.bin .add .i64 (Int.ofNat i) 3 = Int.ofNat (i + 3) := by subst hA; show AE.std.bin .add .i64 (i : Int) 3 = ((i + 3 : Nat) : Int); rw [AE.std_add] <;> omega
  have hvl : A.llen v = out.length := by subst hA; rw [hv]; simp [AE.std, fl_len]
  have hend : ¬ (i + 2 < l.length ∧ out.length < 20) → v = rs := fun h => by rw [hv, ← hinv, scr_end l i tick out h]
  (refine X.go 500 _ _ ?_; cbv)
  refine X.split _ _ _ _ _ (fun hc => ?_) (fun hc => ?_)
  · have hlt2 : i + 2 < l.length := AE.ltN (i := i + 2) hA hn (by rw [← hi2]; exact hc)
    (refine X.go 500 _ _ ?_; cbv)
    refine X.split _ _ _ _ _ (fun hc2 => ?_) (fun hc2 => ?_)
    · have ho20 : out.length < 20 := by
        have h1 : A.llen v < 20 := AE.ltT hA hc2
        have h2 : ((out.length : Nat) : Int) < 20 := Int.lt_of_le_of_lt (Int.le_of_eq hvl.symm) h1
        omega
      have ht1 : tick ≤ 3 * ((out.length : Nat) : Int) := ht1
      have hvl : A.llen v = ((out.length : Nat) : Int) := hvl
      obtain ⟨a, ha⟩ : ∃ a, a = l[i] := ⟨_, rfl⟩
      obtain ⟨b, hb⟩ : ∃ b, b = l[i + 1] := ⟨_, rfl⟩
      obtain ⟨c, hcc⟩ : ∃ c, c = l[i + 2] := ⟨_, rfl⟩
      have ga : es[i]? = some [.v (.int .i64 a)] := by rw [he, il_get l i (by omega), ha]
      have gb : es[i + 1]? = some [.v (.int .i64 b)] := by rw [he, il_get l (i + 1) (by omega), hb]
      have gc : es[i + 2]? = some [.v (.int .i64 c)] := by rw [he, il_get l (i + 2) (by omega), hcc]
      have hstep := scr_step l i hlt2 tick out ho20
      rw [← ha, ← hb, ← hcc] at hstep
      obtain ⟨a4, ha4⟩ : ∃ a4, a4 = a % 4 := ⟨_, rfl⟩
      obtain ⟨k0, hk0⟩ : ∃ k0, k0 = b % 6 := ⟨_, rfl⟩
      obtain ⟨n, hnn⟩ : ∃ n, n = c % 2 := ⟨_, rfl⟩
      obtain ⟨tk, htk⟩ : ∃ tk, tk = tick + a4 := ⟨_, rfl⟩
      obtain ⟨d, hd⟩ : ∃ d, d = downF n tk out := ⟨_, rfl⟩
      obtain ⟨kk, hkk⟩ : ∃ kk, kk = scrK k0 d := ⟨_, rfl⟩
      have c4 := below_ok a 4 (by decide) (by decide) a4 ha4
      have c6 := below_ok b 6 (by decide) (by decide) k0 hk0
      have c2 := below_ok c 2 (by decide) (by decide) n hnn
      have hadd : A.bin .add .i64 tick a4 = tk := by subst hA; rw [htk, ha4, AE.std_add] <;> omega
      have hd4 := down_ok out (by omega) n (A.bin .add .i64 tick a4) v hv d (by rw [hadd]; exact hd)
      have hout : out ++ [scrF tick out a b c] = out ++ [⟨tk, kk, n⟩] := by simp only [scrF, htk, ha4, hkk, hk0, hd, hnn]
      obtain ⟨o', ho'⟩ : ∃ o', o' = out ++ [(⟨tk, kk, n⟩ : Fl)] := ⟨_, rfl⟩
      have hlap : ∀ k', k' = kk → A.lapp v [[.v (.int .i64 (A.bin .add .i64 tick a4)), .v (.int .i64 k'), .v (.int .i64 n)]] = fl o' := fun k' h => by
        rw [hadd]; subst hA; rw [hv, h, ho', fl_eq, fl_eq, List.map_append]; rfl
      have hgrow : ∀ z : List AE.AV, AE.GrowR (A.llen v) (A.llen [z]) 24 := fun z => by
        have : A.llen v ≤ 20 := by rw [hvl]; omega
        have h0 : 0 ≤ A.llen v := by rw [hvl]; omega
        have h1 : A.llen [z] = 1 := by subst hA; rfl
        constructor <;> rw [h1] <;> omega
      have hnext : fl (scrL (l.drop (i + 3)) tk o') = rs := by
        rw [ho', ← hinv, hstep, hout, htk, ha4]
      have hb1 : o'.length ≤ 20 := by rw [ho']; simp; omega
      have hb2 : 0 ≤ tk := by omega
      have hb3 : tk ≤ 3 * (o'.length : Int) := by rw [ho']; simp; omega
      (refine X.go 500 _ _ ?_; cbv)
      refine X.idx _ _ _ _ _ _ i _ ga rfl ?_
      (refine X.go 500 _ _ ?_; cbv)
      (refine X.calls [] c4 (by cbv) ?_ (by cbv) ?_; focus (cbv <;> ((repeat' apply And.intro) <;> first | rfl | trivial)))
      repeat' (first | (refine X.go 500 _ _ ?_; cbv) | refine X.draw _ _ _ ?_ | refine X.idx _ _ _ _ _ _ (i + 1) _ gb hi1 ?_ | refine X.idx _ _ _ _ _ _ (i + 2) _ gc hi2 ?_ | refine X.fork _ _ ?_ ?_ | (refine X.calls [] c6 (by cbv) ?_ (by cbv) ?_; focus (cbv <;> ((repeat' apply And.intro) <;> first | rfl | trivial))) | (refine X.calls [] c2 (by cbv) ?_ (by cbv) ?_; focus (cbv <;> ((repeat' apply And.intro) <;> first | rfl | trivial))) | (refine X.split _ _ _ _ _ (fun hc => ?_) (fun hc => ?_) <;> first | exact absurd (Eq.trans (Eq.symm (show _ = true by assumption)) hc) (by decide) | exact absurd (Eq.trans (Eq.symm (show _ = false by assumption)) hc) (by decide) | skip) | (refine X.lends [0] hd4 rfl ?_ (by cbv) ?_; focus (cbv <;> ((repeat' apply And.intro) <;> first | rfl | trivial))) | refine X.need _ _ _ (hgrow _) ?_)
      all_goals (refine hB ⟨(i + 3, tk, o'), by show i + 3 ≤ l.length; omega, hb1, hb2, hb3, hnext⟩ _ (by show l.length - (i + 3) < l.length - i; omega) ?_; clear hB; cbv; ((repeat' apply And.intro) <;> (try first | rfl | trivial)) <;> first | exact hi3 | exact hadd | (refine hlap _ ?_; rw [hkk, scrK]; clear X hlap hgrow hnext hd4 hout hinv hstep hkk hd hk0 c4 c6 c2 ga gb gc hend hadd hi1 hi2 hi3 hvl ho' hv hb1 hb3; simp only [AE.c_lss hA, AE.c_leq hA, AE.c_gtr hA, AE.c_geq hA, AE.c_eql hA, AE.c_neq hA, AE.c_not hA, AE.c_and hA, AE.c_beq hA, AE.c_bne hA, decide_eq_true_eq, decide_eq_false_iff_not, Bool.not_eq_true, Bool.not_eq_false, Bool.not_eq_eq_eq_not, Bool.not_true, Bool.not_false, Int.not_lt, Int.not_le, Int.ofNat_eq_natCast] at *; first | (simp [*]; done) | (exfalso; omega)))
    · have hz := hend (fun h => by
        have h1 : 20 ≤ A.llen v := AE.ltF hA hc2
        have h2 : (20 : Int) ≤ ((out.length : Nat) : Int) := Int.le_trans h1 (Int.le_of_eq hvl)
        omega)
      (refine X.go 500 _ _ ?_; cbv)
      refine X.ret _ (X.done rfl ?_)
      cbv
      (repeat' apply And.intro) <;> first | exact hz | trivial
  · have hz := hend (fun h => by
      have := AE.geN (i := i + 2) hA hn (by rw [← hi2]; exact hc)
      omega)
    repeat' (first | (refine X.go 500 _ _ ?_; cbv) | (refine X.split _ _ _ _ _ (fun hc => ?_) (fun hc => ?_) <;> first | exact absurd (Eq.trans (Eq.symm (show _ = true by assumption)) hc) (by decide) | exact absurd (Eq.trans (Eq.symm (show _ = false by assumption)) hc) (by decide) | skip))
    all_goals (refine X.ret _ (X.done rfl ?_); cbv; (repeat' apply And.intro) <;> first | exact hz | trivial)
end Go.Proofs.YtjbnffclpebkkaaDoor
