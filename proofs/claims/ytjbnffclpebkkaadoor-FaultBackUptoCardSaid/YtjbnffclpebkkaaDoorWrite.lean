/- Contract: Write returns the text of a valid script, given what Itoa does with its numbers. -/
import Derived.Test.YtjbnffclpebkkaaDoorCheck
import Derived.Test.YtjbnffclpebkkaaDoorText
set_option linter.unusedVariables false
set_option linter.unusedSimpArgs false
namespace Go.Proofs.YtjbnffclpebkkaaDoor
open Go
/-- Itoa works on a number, and its digits are few. -/
structure ItoaG (GG : (Nat → Option Obj) → Prop) (n : Int) : Prop where
  call : AE.ACallG GG Tryd.prog 49 [] [.v (.int .i64 n)] [] (.v (.string (dec n)))
  few : (dec n).size ≤ 100
abbrev ItoaOK (n : Int) : Prop := ItoaG (fun _ => True) n
theorem itoaG (n : Int) (h0 : -9223372036854775808 ≤ n) (h1 : n ≤ 9223372036854775807) : ItoaG GG n := ⟨itoa_ok n h0 h1 _ rfl, dec_few n h0 h1⟩
noncomputable def writeS (arms : Int) (l : List Fl) : ByteArray × Int := if checkS arms l = 0 then (textB l, 0) else (ByteArray.empty, checkS arms l)

/-- What a valid script is: each kind is one of the six. -/
theorem chk_kinds (arms : Int) : ∀ (pre l : List Fl), chkR arms pre l = 0 → ∀ x ∈ l, 0 ≤ x.k ∧ x.k < 6
  | pre, [], _, x, hx => by simp at hx
  | pre, y :: l, h, x, hx => by
    rw [chkR] at h
    split at h
    · rename_i hb
      rcases List.mem_cons.1 hx with rfl | hx
      · unfold bad at hb
        (repeat' split at hb) <;> first | omega | (exfalso; revert hb; decide)
      · exact chk_kinds arms _ l h x hx
    · rename_i hb; exact absurd h hb

set_option maxRecDepth 100000 in
set_option maxHeartbeats 0 in
theorem writeG_ok {GG : (Nat → Option Obj) → Prop} (hGG : AE.Stays GG) (l : List Fl) (hl : l.length < 2 ^ 30) (arms : Int) (es : List (List AE.AV)) (he : es = fl l) (hI : checkS arms l = 0 → ∀ x ∈ l, ItoaG GG x.t ∧ ItoaG GG x.n) (s : ByteArray) (r : Int) (hr : (s, r) = writeS arms l) :
    AE.ACallG GG Tryd.prog 33 [] [.l 3 es, .v (.int .i64 arms)] [] (.t [.v (.string s), .v (.int .i64 r)]) := by
  refine AE.ACallG.of_walk (fn := Tryd.f33) (c := bodyOf Tryd.f33) hGG tabOK Tryd.func33 rfl rfl mixed fun A hA X => ?_
  have hn : A.llen es = l.length := by subst hA; subst he; simp [AE.std, fl_len]
  obtain ⟨e, hE⟩ : ∃ e, e = checkS arms l := ⟨_, rfl⟩
  have hcheck := check_ok l (by omega) arms es he e hE
  (refine X.go 500 _ _ ?_; cbv)
  (refine X.calls [] hcheck (by cbv) ?_ (by cbv) ?_; focus (cbv <;> ((repeat' apply And.intro) <;> first | rfl | trivial)))
  (refine X.go 500 _ _ ?_; cbv)
  (refine X.split _ _ _ _ _ (fun hc => ?_) (fun hc => ?_) <;> first | exact absurd (Eq.trans (Eq.symm (show _ = true by assumption)) hc) (by decide) | exact absurd (Eq.trans (Eq.symm (show _ = false by assumption)) hc) (by decide) | skip)
  · have h1 : e ≠ 0 := AE.neT hA hc
    have h2 : s = ByteArray.empty ∧ r = e := by
      rw [writeS, if_neg (hE ▸ h1)] at hr
      cases hr; exact ⟨rfl, hE.symm⟩
    have h3 : (⟨⟨[]⟩⟩ : ByteArray) = s := h2.1.symm
    have h4 : e = r := h2.2.symm
    (refine X.go 500 _ _ ?_; cbv)
    refine X.ret _ (X.done rfl ?_)
    cbv
    (repeat' apply And.intro) <;> first | exact h3 | exact h4 | trivial
  have h1 : e = 0 := AE.neF hA hc
  have hI := hI (hE ▸ h1)
  have hs : s = textB l ∧ r = 0 := by
    rw [writeS, if_pos (hE ▸ h1)] at hr
    cases hr; exact ⟨rfl, rfl⟩
  have hkinds : ∀ x ∈ l, 0 ≤ x.k ∧ x.k < 6 := by
    rw [hE, checkS] at h1
    split at h1
    · cases h1
    · exact chk_kinds arms [] l h1
  have h4 : (0 : Int) = r := hs.2.symm
  by_cases hl0 : l = []
  · have h5 : (⟨⟨[]⟩⟩ : ByteArray) = s := by rw [hs.1, hl0]; rfl
    have hn0 : A.llen es = ((0 : Nat) : Int) := by rw [hn, hl0]; rfl
    (refine X.go 500 _ _ ?_; cbv)
    refine X.carries (ι := Unit) (fun _ => [(18, .v (.int .i64 0))]) (fun _ => [.box [.v (.pointer none), .v (.slice none 0 0)] 97]) (fun _ => 0) () ?_ fun _ B hB => ?_
    · cbv
      ((repeat' apply And.intro) <;> (try first | rfl | trivial))
    clear hB
    (refine X.go 500 _ _ ?_; cbv)
    (refine X.split _ _ _ _ _ (fun hc => ?_) (fun hc => ?_) <;> first | exact absurd (Eq.trans (Eq.symm (show _ = true by assumption)) hc) (by decide) | exact absurd (Eq.trans (Eq.symm (show _ = false by assumption)) hc) (by decide) | skip)
    · exact absurd (AE.ltN (i := 0) hA hn0 hc) (by omega)
    (refine X.go 500 _ _ ?_; cbv)
    have hsn := stringNil_ok s h5.symm
    (refine X.calls [0] hsn (by cbv) ?_ (by cbv) ?_; focus (cbv <;> ((repeat' apply And.intro) <;> first | rfl | trivial)))
    (refine X.go 500 _ _ ?_; cbv)
    refine X.ret _ (X.done rfl ?_)
    cbv
    (repeat' apply And.intro) <;> first | exact h4 | trivial
  have hfew : ∀ x ∈ l, (lineB x).size ≤ 300 := fun x hx => by
    rw [line_size]
    have := word_size x.k
    have := (hI x hx).1.few
    have := (hI x hx).2.few
    omega
  obtain ⟨tx, htx⟩ : ∃ tx : Nat → List (List AE.AV), ∀ i, tx i = AE.sbytes (textB (l.take i)) := ⟨_, fun _ => rfl⟩
  obtain ⟨c0, hc0, hc1⟩ : ∃ c0 : Nat → AE.AV, c0 0 = .v (.pointer none) ∧ ∀ i, c0 (i + 1) = .p 0 0 := ⟨fun i => match i with | 0 => .v (.pointer none) | _ + 1 => .p 0 0, rfl, fun _ => rfl⟩
  have htl : ∀ i, i ≤ l.length → (tx i).length ≤ 300 * i := fun i hi => by rw [htx, AE.sbytes_len]; exact text_size l hfew i hi
  (refine X.go 500 _ _ ?_; cbv)
  refine X.loopG _ _ _ (X.nilB 0 1 5 1 _ _ ?_)
  (refine X.go 500 _ _ ?_; cbv)
  refine X.carries (ι := { i : Nat // i ≤ l.length }) (fun i => [(18, .v (.int .i64 i.1))]) (fun i => [.box [c0 i.1, .r 1] 97, .row 5 1 (tx i.1)]) (fun i => l.length - i.1) ⟨0, Nat.zero_le _⟩ ?_ fun i B hB => ?_
  · have htx0 : ([] : List (List AE.AV)) = tx 0 := by rw [htx, AE.sbytes_eq]; rfl
    simp only [hc0]
    cbv
    ((repeat' apply And.intro) <;> (try first | rfl | trivial)) <;> exact htx0
  obtain ⟨i, hi⟩ := i
  obtain ⟨c, hcc⟩ : ∃ c, c = c0 i := ⟨_, rfl⟩
  obtain ⟨t, ht⟩ : ∃ t, t = tx i := ⟨_, rfl⟩
  simp only [← hcc, ← ht]
  have hcx : c = .v (.pointer none) ∨ c = .p 0 0 := by
    rcases i with _ | i
    · left; rw [hcc, hc0]
    · right; rw [hcc, hc1]
  (refine X.go 500 _ _ ?_; cbv)
  (refine X.split _ _ _ _ _ (fun hc => ?_) (fun hc => ?_) <;> first | exact absurd (Eq.trans (Eq.symm (show _ = true by assumption)) hc) (by decide) | exact absurd (Eq.trans (Eq.symm (show _ = false by assumption)) hc) (by decide) | skip)
  · have hlt : i < l.length := AE.ltN hA hn hc
    obtain ⟨x, hx⟩ : ∃ x, x = l[i] := ⟨_, rfl⟩
    have hxm : x ∈ l := hx ▸ List.getElem_mem hlt
    have hge : es[i]? = some (fcells x) := by rw [he, fl_get l i hlt, hx]
    have hadd := AE.addN hA (show i < 2 ^ 62 by omega)
    obtain ⟨hIt, hIn⟩ := hI x hxm
    have hi1 := hIt.call
    have hi2 := hIn.call
    have hf1 := hIt.few
    have hf2 := hIn.few
    obtain ⟨dt, hdt⟩ : ∃ dt, dt = dec x.t := ⟨_, rfl⟩
    obtain ⟨dn, hdn⟩ : ∃ dn, dn = dec x.n := ⟨_, rfl⟩
    rw [← hdt] at hi1 hf1
    rw [← hdn] at hi2 hf2
    obtain ⟨wd, hwd⟩ : ∃ wd, wd = wordB x.k := ⟨_, rfl⟩
    have hwds : wd.size ≤ 5 := hwd ▸ word_size x.k
    obtain ⟨w, hw⟩ : ∃ w, w = wl := ⟨_, rfl⟩
    have hk := hkinds x hxm
    have hkn : x.k = ((x.k.toNat : Nat) : Int) := by omega
    have hwk : w[x.k.toNat]? = some [.v (.string wd)] := by
      have hlt6 : x.k.toNat < 6 := by omega
      rw [hw, wl_eq, hwd, wordB]
      generalize x.k.toNat = m at hlt6
      match m, hlt6 with
      | 0, _ | 1, _ | 2, _ | 3, _ | 4, _ | 5, _ => rfl
      | m + 6, h => omega
    obtain ⟨kn, hkd⟩ : ∃ kn, kn = x.k.toNat := ⟨_, rfl⟩
    rw [← hkd] at hwk hkn
    have hfit : ∀ a b : ByteArray, a.size ≤ 1000 → b.size ≤ 1000 → AE.SFit (A.slen a) (A.slen b) := fun a b h1 h2 => by
      subst hA; constructor; simp only [AE.std]; omega
    obtain ⟨s1, hs1⟩ : ∃ s1, s1 = A.cat dt ⟨⟨[32]⟩⟩ := ⟨_, rfl⟩
    obtain ⟨s2, hs2⟩ : ∃ s2, s2 = A.cat s1 wd := ⟨_, rfl⟩
    obtain ⟨s3, hs3⟩ : ∃ s3, s3 = A.cat s2 ⟨⟨[32]⟩⟩ := ⟨_, rfl⟩
    obtain ⟨s4, hs4⟩ : ∃ s4, s4 = A.cat s3 dn := ⟨_, rfl⟩
    obtain ⟨s5, hs5⟩ : ∃ s5, s5 = A.cat s4 ⟨⟨[10]⟩⟩ := ⟨_, rfl⟩
    have hz1 : s1.size ≤ 101 := by subst hA; rw [hs1]; show (dt ++ _).size ≤ _; rw [ByteArray.size_append]; have : (⟨⟨[32]⟩⟩ : ByteArray).size = 1 := rfl; omega
    have hz2 : s2.size ≤ 106 := by subst hA; rw [hs2]; show (s1 ++ _).size ≤ _; rw [ByteArray.size_append]; omega
    have hz3 : s3.size ≤ 107 := by subst hA; rw [hs3]; show (s2 ++ _).size ≤ _; rw [ByteArray.size_append]; have : (⟨⟨[32]⟩⟩ : ByteArray).size = 1 := rfl; omega
    have hz4 : s4.size ≤ 207 := by subst hA; rw [hs4]; show (s3 ++ _).size ≤ _; rw [ByteArray.size_append]; omega
    have hz5 : s5.size ≤ 208 := by subst hA; rw [hs5]; show (s4 ++ _).size ≤ _; rw [ByteArray.size_append]; have : (⟨⟨[10]⟩⟩ : ByteArray).size = 1 := rfl; omega
    have hline : s5 = lineB x := by subst hA; rw [hs5, hs4, hs3, hs2, hs1, hdt, hdn, hwd]; rfl
    have hf1' := hfit dt ⟨⟨[32]⟩⟩ (by omega) (by decide)
    have hf2' := hfit s1 wd (by omega) (by omega)
    have hf3' := hfit s2 ⟨⟨[32]⟩⟩ (by omega) (by decide)
    have hf4' := hfit s3 dn (by omega) (by omega)
    have hf5' := hfit s4 ⟨⟨[10]⟩⟩ (by omega) (by decide)
    rw [hs2] at hf3'
    obtain ⟨t', ht'⟩ : ∃ t', t' = tx (i + 1) := ⟨_, rfl⟩
    have hlen : t.length + s5.size ≤ 2 ^ 46 := by rw [ht]; have := htl i hi; omega
    have happ : t' = t ++ AE.sbytes s5 := by rw [ht', ht, htx, htx, text_succ l i hlt, ← hx, sbytes_app, hline]
    obtain ⟨m5, hm5⟩ : ∃ m5 : Int, m5 = s5.size := ⟨_, rfl⟩
    have hws := writeString_ok c hcx t t' s5 m5 hm5 happ hlen
    rw [hs5, hs4, hs3, hs2, hs1] at hws
    rw [hs1] at hf2'
    rw [hs1] at hf3'
    rw [hs3, hs2, hs1] at hf4'
    rw [hs4, hs3, hs2, hs1] at hf5'
    rcases hcx with hcx | hcx
    all_goals
      subst hcx
      (refine X.go 500 _ _ ?_; cbv)
      refine X.idx _ _ _ _ _ _ i _ hge rfl ?_
      repeat' (first | (refine X.go 500 _ _ ?_; cbv) | refine X.draw _ _ _ (X.frzB 2 _ _ (by simp) ?_))
      (refine X.callsG [] hi1 (by cbv) ?_ (by cbv) ?_; focus (cbv <;> ((repeat' apply And.intro) <;> first | rfl | trivial)))
      repeat' (first | (refine X.go 500 _ _ ?_; cbv) | refine X.need _ _ _ hf1' ?_ | refine X.calls [] (words_ok w hw) (by cbv) (by cbv <;> ((repeat' apply And.intro) <;> first | rfl | trivial)) (by cbv) (X.frz 3 _ _ ?_) | refine X.idx _ _ _ _ _ _ kn _ hwk hkn ?_ | refine X.need _ _ _ hf2' ?_ | refine X.need _ _ _ hf3' ?_)
      (refine X.callsG [] hi2 (by cbv) ?_ (by cbv) ?_; focus (cbv <;> ((repeat' apply And.intro) <;> first | rfl | trivial)))
      repeat' (first | (refine X.go 500 _ _ ?_; cbv) | refine X.need _ _ _ hf1' ?_ | refine X.idx _ _ _ _ _ _ kn _ hwk hkn ?_ | refine X.need _ _ _ hf2' ?_ | refine X.need _ _ _ hf3' ?_ | refine X.need _ _ _ hf4' ?_ | refine X.need _ _ _ hf5' ?_ | (refine X.calls [0, 1] hws (by cbv) ?_ (by cbv) ?_; focus (cbv <;> ((repeat' apply And.intro) <;> first | rfl | trivial))))
      refine hB ⟨i + 1, hlt⟩ _ (by show l.length - (i + 1) < l.length - i; omega) ?_
      clear hB
      simp only [hc1]
      cbv
      ((repeat' apply And.intro) <;> (try first | rfl | trivial)) <;> first | exact hadd | exact ht'
  · have hge : i = l.length := by have := AE.geN hA hn hc; omega
    have hcn : c = .p 0 0 := by
      obtain ⟨i', hi'⟩ : ∃ i', i = i' + 1 := ⟨i - 1, by have : l.length ≠ 0 := fun h => hl0 (List.eq_nil_of_length_eq_zero h); omega⟩
      rw [hcc, hi', hc1]
    subst hcn
    obtain ⟨L, hL⟩ : ∃ L : List UInt8, L = (textB l).data.toList := ⟨_, rfl⟩
    have hLs : s = ⟨L.toArray⟩ := by rw [hs.1, hL]
    have hLt : t = L.map fun b => [.v (.int .u8 b.toNat)] := by rw [ht, htx, hge, List.take_length, AE.sbytes_eq, hL]
    have hL0 : L ≠ [] := fun h => by
      have h6 : (textB l).size = 0 := by
        have : (textB l).data.toList.length = 0 := by rw [← hL, h]; rfl
        simpa using this
      have h7 := text_succ l (l.length - 1) (by have : l.length ≠ 0 := fun h => hl0 (List.eq_nil_of_length_eq_zero h); omega)
      rw [show l.length - 1 + 1 = l.length by have : l.length ≠ 0 := fun h => hl0 (List.eq_nil_of_length_eq_zero h); omega, List.take_length] at h7
      rw [h7, ByteArray.size_append, line_size] at h6
      omega
    have hst := string_ok L hL0 t hLt s hLs
    (refine X.go 500 _ _ ?_; cbv)
    (refine X.calls [0, 1] hst (by cbv) ?_ (by cbv) ?_; focus (cbv <;> ((repeat' apply And.intro) <;> first | rfl | trivial)))
    (refine X.go 500 _ _ ?_; cbv)
    refine X.ret _ (X.done rfl ?_)
    cbv
    (repeat' apply And.intro) <;> first | exact h4 | trivial
theorem write_ok (l : List Fl) (hl : l.length < 2 ^ 30) (arms : Int) (es : List (List AE.AV)) (he : es = fl l) (hI : ∀ x ∈ l, ItoaOK x.t ∧ ItoaOK x.n) (s : ByteArray) (r : Int) (hr : (s, r) = writeS arms l) :
    AE.ACall Tryd.prog 33 [] [.l 3 es, .v (.int .i64 arms)] [] (.t [.v (.string s), .v (.int .i64 r)]) :=
  fun E W vs => writeG_ok (GG := fun _ => True) (fun _ _ _ h => h) l hl arms es he (fun _ => hI) s r hr E W vs trivial
end Go.Proofs.YtjbnffclpebkkaaDoor
