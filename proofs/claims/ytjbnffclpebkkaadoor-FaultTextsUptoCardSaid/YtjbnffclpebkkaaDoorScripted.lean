/- Contract: the reference's Scripted returns the script of a text. -/
import Derived.Test.YtjbnffclpebkkaaDoorRead
set_option linter.unusedVariables false
set_option linter.unusedSimpArgs false
namespace Go.Proofs.YtjbnffclpebkkaaDoor
open Go
theorem resAny {G : (Nat → Option Obj) → Prop} {P : Program} {f : Nat} {own own' : List AE.OB} {args : List AE.AV} {res res' : AE.AV} (h : AE.ACallG G P f own args own' res) (hw : AE.Wk res res') (hb : AE.Bl own'.length res') : AE.ACallG G P f own args own' res' :=
  fun E W vs hG hM hwf hl ha => AE.callT_mono (h E W vs hG hM hwf hl ha) fun v W' ⟨E', h1, h2, h3, h4⟩ => ⟨E', h1, h2, hw.rav h3, hb⟩
theorem atoi_any (s : ByteArray) (hs : s.size ≤ 281474976710656) (n : Int) (hn : n = atV s) : AE.ACallG GG Tryd.prog 58 [] [.v (.string s)] [] (.t [.v (.int .i64 n), .any]) := by
  have hb : AE.Bl ([] : List AE.OB).length (.t [.v (.int .i64 n), .any]) := .t _ fun c hc => by simp at hc; rcases hc with rfl | rfl; exact .v _; exact .any
  cases h : atOk s with
  | true => exact resAny (atoi_yes s hs h n hn) (AE.WkT.wk (by cbv)) hb
  | false => exact resAny (atoi_no s hs h n hn) (AE.WkT.wk (by cbv)) hb
noncomputable def scrS (s : ByteArray) : List Fl × Bool := match rdR s [] with
    | none => ([], false)
    | some l => (l, true)

set_option maxRecDepth 100000 in
set_option maxHeartbeats 0 in
theorem scripted_ok (s : ByteArray) (hs : s.size ≤ 2000) (es : List (List AE.AV)) (q : Bool) (hes : es = fl (scrS s).1) (hq : q = (scrS s).2) :
    AE.ACallG GG Tryd.prog 36 [] [.v (.string s)] [] (.t [.l 3 es, .b q]) := by
  refine AE.ACallG.of_walk (fn := Tryd.f36) (c := bodyOf Tryd.f36) GG_stays tabOK Tryd.func36 rfl rfl mixed fun A hA X => ?_
  have hz : fl [] = [] := by rw [fl_eq]; rfl
  obtain ⟨rr, hrr⟩ : ∃ rr, rr = rdR s [] := ⟨_, rfl⟩
  rw [scrS, ← hrr] at hes hq
  (refine X.go 30 _ _ ?_; cbv; (repeat (refine X.need True _ _ trivial ?_; refine X.go 30 _ _ ?_; cbv)))
  refine X.loopG _ _ _ (X.nilT 4 28 3 _ _ ?_)
  (refine X.go 30 _ _ ?_; cbv; (repeat (refine X.need True _ _ trivial ?_; refine X.go 30 _ _ ?_; cbv)))
  refine X.carries (ι := { p : ByteArray × List Fl // p.1.size + p.2.length ≤ 2000 ∧ rdR p.1 p.2 = rr }) (fun p => [(0, .v (.string p.1.1)), (4, .r 0)]) (fun p => [.row 28 3 (fl p.1.2)]) (fun p => p.1.1.size) ⟨(s, []), by simp; omega, hrr.symm⟩ ?_ fun p B hB => ?_
  · cbv
    ((repeat' apply And.intro) <;> (try first | rfl | trivial)) <;> exact hz.symm
  obtain ⟨⟨s, out⟩, hl, hinv⟩ := p
  simp only at hl hinv
  obtain ⟨v, hv⟩ : ∃ v, v = fl out := ⟨_, rfl⟩
  simp only [← hv]
  have hvl : A.llen v = out.length := by subst hA; rw [hv]; simp [AE.std, fl_len]
  have hfail : rr = none → ([] : List (List AE.AV)) = es ∧ false = q := fun h => by rw [h] at hes hq; exact ⟨by rw [hes, hz], by rw [hq]⟩
  by_cases h0 : s.size = 0
  · have hs0 : A.scmp .neq s ⟨⟨[]⟩⟩ = false := by
      rw [c_sneq hA]
      have : s = ⟨⟨[]⟩⟩ := by cases s; rename_i d; congr; exact Array.eq_empty_of_size_eq_zero h0
      simp [this]
    have hr : rr = some out := by rw [← hinv, rdR_nil s h0]
    rw [hr] at hes hq
    have h1 : v = es := by rw [hv, hes]
    have h2 : true = q := hq.symm
    clear hB hfail
    (refine X.go 30 _ _ ?_; cbv; (repeat (refine X.need True _ _ trivial ?_; refine X.go 30 _ _ ?_; cbv)))
    (refine X.split _ _ _ _ _ (fun hc => ?_) (fun hc => ?_) <;> first | exact absurd (Eq.trans (Eq.symm (show _ = true by assumption)) hc) (by decide) | exact absurd (Eq.trans (Eq.symm (show _ = false by assumption)) hc) (by decide) | skip)
    (refine X.go 30 _ _ ?_; cbv; (repeat (refine X.need True _ _ trivial ?_; refine X.go 30 _ _ ?_; cbv)))
    refine X.ret _ (X.frz 0 _ _ (X.done rfl ?_))
    cbv
    (repeat' apply And.intro) <;> first | exact h1 | exact h2 | trivial
  have hs1 : A.scmp .neq s ⟨⟨[]⟩⟩ = true := by
    rw [c_sneq hA]
    have : s ≠ ⟨⟨[]⟩⟩ := fun h => h0 (by rw [h]; rfl)
    simp [this]
  obtain ⟨k, hk⟩ : ∃ k : Int, k = Lib.indexByte s.data.toList 10 := ⟨_, rfl⟩
  have h56 := indexByte_ok s k hk
  have hge := Lib.indexByte_ge s.data.toList 10
  by_cases hix : Lib.indexByte s.data.toList 10 = -1
  · have hc0 : A.cmp .lss k 0 = true := by rw [AE.c_lss hA, hk, hix]; rfl
    have hw := hfail (by rw [← hinv, rdR_miss s h0 hix])
    clear hB hfail
    repeat' (first | (refine X.go 30 _ _ ?_; cbv; (repeat (refine X.need True _ _ trivial ?_; refine X.go 30 _ _ ?_; cbv))) | (refine X.split _ _ _ _ _ (fun hc => ?_) (fun hc => ?_) <;> first | exact absurd (Eq.trans (Eq.symm (show _ = true by assumption)) hc) (by decide) | exact absurd (Eq.trans (Eq.symm (show _ = false by assumption)) hc) (by decide) | skip) | (refine X.calls [] h56 (by cbv) ?_ (by cbv) ?_; focus (cbv <;> ((repeat' apply And.intro) <;> first | rfl | trivial))))
    all_goals (refine X.ret _ (X.done rfl ?_); cbv <;> ((repeat' apply And.intro) <;> first | exact hw.1.symm | exact hw.2 | trivial))
  obtain ⟨i, hi⟩ : ∃ i : Nat, Lib.indexByte s.data.toList 10 = i := ⟨(Lib.indexByte s.data.toList 10).toNat, by omega⟩
  rw [hi] at hk
  have hrd := rdR_hit s i hi out
  rw [hinv] at hrd
  obtain ⟨hspl, _, hilt⟩ := split_ix hi
  rw [← size_data] at hilt
  have hc0 : A.cmp .lss k 0 = false := by rw [AE.c_lss hA, hk]; simp
  obtain ⟨a, ha⟩ : ∃ a : ByteArray, a = s.extract 0 i := ⟨_, rfl⟩
  obtain ⟨b, hb⟩ : ∃ b : ByteArray, b = s.extract (i + 1) s.size := ⟨_, rfl⟩
  obtain ⟨s', hs'⟩ : ∃ b : ByteArray, b = s.extract 0 (i + 1) := ⟨_, rfl⟩
  have hs'd : s'.data.toList = a.data.toList ++ [10] := by
    rw [hs', ha, ext_take, ext_take, List.take_add_one, (Lib.indexByte_some hi).1]; rfl
  rw [← ha, ← hb] at hrd
  have hasz : a.size ≤ s.size := by rw [ha, ByteArray.size_extract]; omega
  have hbsz : b.size + 1 ≤ s.size := by rw [hb, ByteArray.size_extract]; omega
  have hk1 : A.bin .add .i64 k 1 = ((i + 1 : Nat) : Int) := by subst hA; rw [hk, AE.std_add] <;> omega
  have hsub0 : A.ssub s 0 k = a := by subst hA; rw [ha, hk]; rfl
  have hsub1 : A.ssub s 0 (A.bin .add .i64 k 1) = s' := by rw [hk1]; subst hA; rw [hs']; rfl
  have hsub2 : A.ssub s (A.bin .add .i64 k 1) (A.slen s) = b := by rw [hk1]; subst hA; rw [hb]; rfl
  have hcut0 : AE.CutR k (A.slen s) := by subst hA; exact ⟨by omega, by show k ≤ (s.size : Int); omega⟩
  have hcut1 : AE.CutR (A.bin .add .i64 k 1) (A.slen s) := by rw [hk1]; subst hA; exact ⟨by omega, by show ((i + 1 : Nat) : Int) ≤ (s.size : Int); omega⟩
  obtain ⟨ps, hps⟩ : ∃ ps, ps = sl (pcs a) := ⟨_, rfl⟩
  have h53 := split_ok a (by omega) ps hps
  rw [← hsub0] at h53
  have hpl : A.llen ps = (pcs a).length := by subst hA; rw [hps]; simp [AE.std, sl_len]
  by_cases h3 : (pcs a).length = 3
  · have hc3 : A.cmp .neq (A.llen ps) 3 = false := by rw [AE.c_neq hA, hpl, h3]; rfl
    obtain ⟨w0, m, w2, hw⟩ := len3 h3
    obtain ⟨g1, _, _, _⟩ := pcs_three hw
    have gsz : w0.size ≤ a.size ∧ w2.size ≤ a.size := by
      have : a.data.toList.length = _ := congrArg List.length g1
      rw [← size_data] at this
      simp only [List.length_append, List.length_cons] at this
      rw [← size_data, ← size_data, ← size_data] at this
      omega
    rw [hw] at hrd
    obtain ⟨n0, hn0⟩ : ∃ n, n = atV w0 := ⟨_, rfl⟩
    obtain ⟨n2, hn2⟩ : ∃ n, n = atV w2 := ⟨_, rfl⟩
    obtain ⟨kk, hkk⟩ : ∃ k, k = kOf m := ⟨_, rfl⟩
    obtain ⟨cb, hcb⟩ : ∃ c, c = decide (0 ≤ kOf m) := ⟨_, rfl⟩
    obtain ⟨w, hwl⟩ : ∃ w, w = wl := ⟨_, rfl⟩
    have h51 := words2_ok w hwl
    have h55 := index_ok m w hwl kk hkk
    have h57 := contains_ok m w hwl cb hcb
    have p0 : ps[0]? = some [.v (.string w0)] := by rw [hps]; exact sl_get _ 0 w0 (by rw [hw]; rfl)
    have p1 : ps[1]? = some [.v (.string m)] := by rw [hps]; exact sl_get _ 1 m (by rw [hw]; rfl)
    have p2 : ps[2]? = some [.v (.string w2)] := by rw [hps]; exact sl_get _ 2 w2 (by rw [hw]; rfl)
    simp only [lineP] at hrd
    by_cases hkk0 : 0 ≤ kOf m
    · have hc4 : A.bnot cb = false := by rw [AE.c_not hA, hcb, decide_eq_true hkk0]; rfl
      by_cases hok : atOk w0 = true ∧ atOk w2 = true
      · have h58a := atoi_yes w0 (by omega) hok.1 n0 hn0
        have h58b := atoi_yes w2 (by omega) hok.2 n2 hn2
        have hkr : kk < 6 := by
          rcases kOf_word m with h5 | ⟨_, h5, _⟩
          · omega
          · rw [hkk]; exact h5
        obtain ⟨x, hx⟩ : ∃ x : Fl, x = ⟨n0, kk, n2⟩ := ⟨_, rfl⟩
        obtain ⟨st, hst⟩ : ∃ st, st = textB [(⟨n0, kk, n2⟩ : Fl)] := ⟨_, rfl⟩
        obtain ⟨y0, y1⟩ := atV_bounds w0
        obtain ⟨y2, y3⟩ := atV_bounds w2
        have h34 := refScript_ok [(⟨n0, kk, n2⟩ : Fl)] (by show 1 < 2 ^ 30; decide) [[.v (.int .i64 n0), .v (.int .i64 kk), .v (.int .i64 n2)]] (by rw [fl_eq]; rfl) (fun x hx => by
          simp at hx; subst hx
          exact ⟨⟨by rw [hn0]; exact y0, by rw [hn0]; exact y1⟩, ⟨by rw [hn2]; exact y2, by rw [hn2]; exact y3⟩, by rw [hkk]; exact hkk0, hkr⟩) st hst
        have hlaw := line_law hw hkk0 n0 n2
        rw [← hkk, ← hst, ← hs'd] at hlaw
        have heq : st = s' ↔ dec n0 = w0 ∧ dec n2 = w2 := ⟨fun h => hlaw.1 (by rw [h]), fun h => ext_bytes (hlaw.2 h)⟩
        have hnum : (isNum w0 = true ∧ isNum w2 = true ∧ 0 ≤ kOf m) ↔ (0 ≤ n0 ∧ 0 ≤ n2 ∧ st = s') := by
          rw [heq]
          simp only [isNum, hok.1, hok.2, ← hn0, ← hn2, Bool.true_and, Bool.and_eq_true, decide_eq_true_eq]
          constructor
          · rintro ⟨⟨a, b⟩, ⟨c, d⟩, _⟩; exact ⟨a, c, b, d⟩
          · rintro ⟨a, c, b, d⟩; exact ⟨⟨a, b⟩, ⟨c, d⟩, hkk0⟩
        obtain ⟨o', ho'⟩ : ∃ o', o' = out ++ [(⟨n0, kk, n2⟩ : Fl)] := ⟨_, rfl⟩
        have hol : o'.length = out.length + 1 := by rw [ho']; simp
        have hno : ¬ (0 ≤ n0 ∧ 0 ≤ n2 ∧ st = s') → ([] : List (List AE.AV)) = es ∧ false = q := fun h => by
          rw [if_neg (fun h2 => h (hnum.1 h2))] at hrd
          exact hfail hrd
        have hno1 : A.cmp .lss n0 0 = true → ([] : List (List AE.AV)) = es ∧ false = q := fun h => hno fun h2 => absurd (AE.ltT hA h) (by omega)
        have hno2 : A.cmp .lss n2 0 = true → ([] : List (List AE.AV)) = es ∧ false = q := fun h => hno fun h2 => absurd (AE.ltT hA h) (by omega)
        have hno3 : A.scmp .neq st (A.ssub s 0 (A.bin .add .i64 k 1)) = true → ([] : List (List AE.AV)) = es ∧ false = q := fun h => hno fun h2 => by
          rw [hsub1, c_sneq hA, h2.2.2] at h; simp at h
        have hyes : A.cmp .lss n0 0 = false → A.cmp .lss n2 0 = false → A.scmp .neq st (A.ssub s 0 (A.bin .add .i64 k 1)) = false → rdR b o' = rr := fun h1 h2 h3 => by
          rw [hsub1, c_sneq hA] at h3
          rw [if_pos (hnum.2 ⟨AE.ltF hA h1, AE.ltF hA h2, by simpa using h3⟩)] at hrd
          rw [ho', hrd, hn0, hn2, hkk]
        have hgrow : ∀ z : List AE.AV, AE.GrowR (A.llen v) (A.llen [z]) 24 := fun z => by
          have h1 : A.llen [z] = 1 := by subst hA; rfl
          constructor <;> rw [h1, hvl] <;> omega
        have happ : A.lapp v [[.v (.int .i64 n0), .v (.int .i64 kk), .v (.int .i64 n2)]] = fl o' := by
          subst hA; rw [ho', hv, fl_eq, fl_eq, List.map_append]; rfl
        clear hrd hno hfail hlaw heq hnum
        repeat' (first | (refine X.go 9 _ _ ?_; cbv; (repeat (refine X.need True _ _ trivial ?_; refine X.go 9 _ _ ?_; cbv))) | (refine X.split _ _ _ _ _ (fun hc => ?_) (fun hc => ?_) <;> first | exact absurd (Eq.trans (Eq.symm (show _ = true by assumption)) hc) (by decide) | exact absurd (Eq.trans (Eq.symm (show _ = false by assumption)) hc) (by decide) | skip) | (refine X.calls [] h56 (by cbv) ?_ (by cbv) ?_; focus (cbv <;> ((repeat' apply And.intro) <;> first | rfl | trivial))) | refine X.need _ _ _ hcut0 ?_ | refine X.need _ _ _ hcut1 ?_ | (refine X.callsG [] h53 (by cbv) ?_ (by cbv) ?_; focus (cbv <;> ((repeat' apply And.intro) <;> first | rfl | trivial))) | (refine X.callsG [] h58a (by cbv) ?_ (by cbv) ?_; focus (cbv <;> ((repeat' apply And.intro) <;> first | rfl | trivial))) | (refine X.callsG [] h58b (by cbv) ?_ (by cbv) ?_; focus (cbv <;> ((repeat' apply And.intro) <;> first | rfl | trivial))) | refine X.draw _ _ _ (X.frzB 1 _ _ (by simp) (X.frzB 2 _ _ (by simp) (X.frzB 3 _ _ (by simp) (X.frzB 4 _ _ (by simp) ?_)))) | refine X.fork _ _ ?_ ?_ | (refine X.calls [] h51 (by cbv) ?_ (by cbv) (X.frz 1 _ _ (X.frz 2 _ _ (X.frz 3 _ _ (X.frz 4 _ _ ?_)))); focus (cbv <;> ((repeat' apply And.intro) <;> first | rfl | trivial))) | (refine X.calls [] h55 (by cbv) ?_ (by cbv) ?_; focus (cbv <;> ((repeat' apply And.intro) <;> first | rfl | trivial))) | (refine X.calls [] h57 (by cbv) ?_ (by cbv) ?_; focus (cbv <;> ((repeat' apply And.intro) <;> first | rfl | trivial))) | (refine X.callFrz _ _ _ _ _ 3 ?_; cbv; (refine X.callsG [] h34 (by cbv) ?_ (by cbv) ?_; focus (cbv <;> ((repeat' apply And.intro) <;> first | rfl | trivial)))) | (refine X.callFrz _ _ _ _ _ 4 ?_; cbv; (refine X.callsG [] h34 (by cbv) ?_ (by cbv) ?_; focus (cbv <;> ((repeat' apply And.intro) <;> first | rfl | trivial)))) | refine X.idx _ _ _ _ _ _ 0 _ p0 rfl ?_ | refine X.idx _ _ _ _ _ _ 1 _ p1 rfl ?_ | refine X.idx _ _ _ _ _ _ 2 _ p2 rfl ?_ | refine X.need _ _ _ (hgrow _) ?_)
        all_goals first
          | (have hw := hno1 (by assumption); refine X.ret _ (X.done rfl ?_); clear hB; cbv <;> ((repeat' apply And.intro) <;> first | exact hw.1.symm | exact hw.2 | trivial))
          | (have hw := hno2 (by assumption); refine X.ret _ (X.done rfl ?_); clear hB; cbv <;> ((repeat' apply And.intro) <;> first | exact hw.1.symm | exact hw.2 | trivial))
          | (have hw := hno3 (by assumption); refine X.ret _ (X.done rfl ?_); clear hB; cbv <;> ((repeat' apply And.intro) <;> first | exact hw.1.symm | exact hw.2 | trivial))
          | (refine hB ⟨(b, o'), by show b.size + o'.length ≤ 2000; omega, hyes (by assumption) (by assumption) (by assumption)⟩ _ (by show b.size < s.size; omega) ?_; clear hB; cbv; ((repeat' apply And.intro) <;> (try first | rfl | trivial)) <;> first | exact happ | exact hsub2)
      · have hno : ([] : List (List AE.AV)) = es ∧ false = q := by
          rw [if_neg] at hrd
          · exact hfail hrd
          · rintro ⟨h1, h2, _⟩
            simp only [isNum, Bool.and_eq_true] at h1 h2
            exact hok ⟨h1.1, h2.1⟩
        clear hB hfail hrd
        by_cases ho : atOk w0 = true
        · have h58a := atoi_yes w0 (by omega) ho n0 hn0
          have h58b := atoi_no w2 (by omega) (by cases h : atOk w2 with | false => rfl | true => exact absurd ⟨ho, h⟩ hok) n2 hn2
          repeat' (first | (refine X.go 9 _ _ ?_; cbv; (repeat (refine X.need True _ _ trivial ?_; refine X.go 9 _ _ ?_; cbv))) | (refine X.split _ _ _ _ _ (fun hc => ?_) (fun hc => ?_) <;> first | exact absurd (Eq.trans (Eq.symm (show _ = true by assumption)) hc) (by decide) | exact absurd (Eq.trans (Eq.symm (show _ = false by assumption)) hc) (by decide) | skip) | (refine X.calls [] h56 (by cbv) ?_ (by cbv) ?_; focus (cbv <;> ((repeat' apply And.intro) <;> first | rfl | trivial))) | refine X.need _ _ _ hcut0 ?_ | refine X.need _ _ _ hcut1 ?_ | (refine X.callsG [] h53 (by cbv) ?_ (by cbv) ?_; focus (cbv <;> ((repeat' apply And.intro) <;> first | rfl | trivial))) | (refine X.callsG [] h58a (by cbv) ?_ (by cbv) ?_; focus (cbv <;> ((repeat' apply And.intro) <;> first | rfl | trivial))) | (refine X.callsG [] h58b (by cbv) ?_ (by cbv) ?_; focus (cbv <;> ((repeat' apply And.intro) <;> first | rfl | trivial))) | refine X.draw _ _ _ (X.frzB 1 _ _ (by simp) (X.frzB 2 _ _ (by simp) (X.frzB 3 _ _ (by simp) (X.frzB 4 _ _ (by simp) ?_)))) | refine X.fork _ _ ?_ ?_ | (refine X.calls [] h51 (by cbv) ?_ (by cbv) (X.frz 1 _ _ (X.frz 2 _ _ (X.frz 3 _ _ (X.frz 4 _ _ ?_)))); focus (cbv <;> ((repeat' apply And.intro) <;> first | rfl | trivial))) | (refine X.calls [] h55 (by cbv) ?_ (by cbv) ?_; focus (cbv <;> ((repeat' apply And.intro) <;> first | rfl | trivial))) | (refine X.calls [] h57 (by cbv) ?_ (by cbv) ?_; focus (cbv <;> ((repeat' apply And.intro) <;> first | rfl | trivial))) | (refine X.callFrz _ _ _ _ _ 3 ?_; cbv; (refine X.callsG [] h34 (by cbv) ?_ (by cbv) ?_; focus (cbv <;> ((repeat' apply And.intro) <;> first | rfl | trivial)))) | (refine X.callFrz _ _ _ _ _ 4 ?_; cbv; (refine X.callsG [] h34 (by cbv) ?_ (by cbv) ?_; focus (cbv <;> ((repeat' apply And.intro) <;> first | rfl | trivial)))) | refine X.idx _ _ _ _ _ _ 0 _ p0 rfl ?_ | refine X.idx _ _ _ _ _ _ 1 _ p1 rfl ?_ | refine X.idx _ _ _ _ _ _ 2 _ p2 rfl ?_ | refine X.need _ _ _ (hgrow _) ?_)
          all_goals (refine X.ret _ (X.done rfl ?_); cbv <;> ((repeat' apply And.intro) <;> first | exact hno.1.symm | exact hno.2 | trivial))
        · have h58a := atoi_no w0 (by omega) (by simpa using ho) n0 hn0
          have h58b : AE.ACallG GG Tryd.prog 58 [] [.v (.string w2)] [] (.t [.v (.int .i64 n2), .any]) := atoi_any w2 (by omega) n2 hn2
          repeat' (first | (refine X.go 9 _ _ ?_; cbv; (repeat (refine X.need True _ _ trivial ?_; refine X.go 9 _ _ ?_; cbv))) | (refine X.split _ _ _ _ _ (fun hc => ?_) (fun hc => ?_) <;> first | exact absurd (Eq.trans (Eq.symm (show _ = true by assumption)) hc) (by decide) | exact absurd (Eq.trans (Eq.symm (show _ = false by assumption)) hc) (by decide) | skip) | (refine X.calls [] h56 (by cbv) ?_ (by cbv) ?_; focus (cbv <;> ((repeat' apply And.intro) <;> first | rfl | trivial))) | refine X.need _ _ _ hcut0 ?_ | refine X.need _ _ _ hcut1 ?_ | (refine X.callsG [] h53 (by cbv) ?_ (by cbv) ?_; focus (cbv <;> ((repeat' apply And.intro) <;> first | rfl | trivial))) | (refine X.callsG [] h58a (by cbv) ?_ (by cbv) ?_; focus (cbv <;> ((repeat' apply And.intro) <;> first | rfl | trivial))) | (refine X.callsG [] h58b (by cbv) ?_ (by cbv) ?_; focus (cbv <;> ((repeat' apply And.intro) <;> first | rfl | trivial))) | refine X.draw _ _ _ (X.frzB 1 _ _ (by simp) (X.frzB 2 _ _ (by simp) (X.frzB 3 _ _ (by simp) (X.frzB 4 _ _ (by simp) ?_)))) | refine X.fork _ _ ?_ ?_ | (refine X.calls [] h51 (by cbv) ?_ (by cbv) (X.frz 1 _ _ (X.frz 2 _ _ (X.frz 3 _ _ (X.frz 4 _ _ ?_)))); focus (cbv <;> ((repeat' apply And.intro) <;> first | rfl | trivial))) | (refine X.calls [] h55 (by cbv) ?_ (by cbv) ?_; focus (cbv <;> ((repeat' apply And.intro) <;> first | rfl | trivial))) | (refine X.calls [] h57 (by cbv) ?_ (by cbv) ?_; focus (cbv <;> ((repeat' apply And.intro) <;> first | rfl | trivial))) | (refine X.callFrz _ _ _ _ _ 3 ?_; cbv; (refine X.callsG [] h34 (by cbv) ?_ (by cbv) ?_; focus (cbv <;> ((repeat' apply And.intro) <;> first | rfl | trivial)))) | (refine X.callFrz _ _ _ _ _ 4 ?_; cbv; (refine X.callsG [] h34 (by cbv) ?_ (by cbv) ?_; focus (cbv <;> ((repeat' apply And.intro) <;> first | rfl | trivial)))) | refine X.idx _ _ _ _ _ _ 0 _ p0 rfl ?_ | refine X.idx _ _ _ _ _ _ 1 _ p1 rfl ?_ | refine X.idx _ _ _ _ _ _ 2 _ p2 rfl ?_ | refine X.need _ _ _ (hgrow _) ?_)
          all_goals (refine X.ret _ (X.done rfl ?_); cbv <;> ((repeat' apply And.intro) <;> first | exact hno.1.symm | exact hno.2 | trivial))
    · have hc4 : A.bnot cb = true := by rw [AE.c_not hA, hcb, decide_eq_false hkk0]; rfl
      have hno : ([] : List (List AE.AV)) = es ∧ false = q := by
        rw [if_neg (fun h => hkk0 h.2.2)] at hrd
        exact hfail hrd
      clear hB hfail hrd
      repeat' (first | (refine X.go 9 _ _ ?_; cbv; (repeat (refine X.need True _ _ trivial ?_; refine X.go 9 _ _ ?_; cbv))) | (refine X.split _ _ _ _ _ (fun hc => ?_) (fun hc => ?_) <;> first | exact absurd (Eq.trans (Eq.symm (show _ = true by assumption)) hc) (by decide) | exact absurd (Eq.trans (Eq.symm (show _ = false by assumption)) hc) (by decide) | skip) | (refine X.calls [] h56 (by cbv) ?_ (by cbv) ?_; focus (cbv <;> ((repeat' apply And.intro) <;> first | rfl | trivial))) | refine X.need _ _ _ hcut0 ?_ | (refine X.callsG [] h53 (by cbv) ?_ (by cbv) ?_; focus (cbv <;> ((repeat' apply And.intro) <;> first | rfl | trivial))) | refine X.draw _ _ _ ?_ | (refine X.calls [] h51 (by cbv) ?_ (by cbv) (X.frz 1 _ _ (X.frz 2 _ _ (X.frz 3 _ _ (X.frz 4 _ _ ?_)))); focus (cbv <;> ((repeat' apply And.intro) <;> first | rfl | trivial))) | (refine X.calls [] h57 (by cbv) ?_ (by cbv) ?_; focus (cbv <;> ((repeat' apply And.intro) <;> first | rfl | trivial))) | refine X.idx _ _ _ _ _ _ 1 _ p1 rfl ?_)
      all_goals (refine X.ret _ (X.done rfl ?_); cbv <;> ((repeat' apply And.intro) <;> first | exact hno.1.symm | exact hno.2 | trivial))
  · have hc3 : A.cmp .neq (A.llen ps) 3 = true := by rw [AE.c_neq hA, hpl]; simp; omega
    have hw := hfail (by
      rw [hrd]
      cases hL : lineP (pcs a) with
      | none => rfl
      | some x => obtain ⟨_, _, _, h5, _⟩ := lineP_some hL; exact absurd (by rw [h5]; rfl) h3)
    clear hB hfail
    repeat' (first | (refine X.go 9 _ _ ?_; cbv; (repeat (refine X.need True _ _ trivial ?_; refine X.go 9 _ _ ?_; cbv))) | (refine X.split _ _ _ _ _ (fun hc => ?_) (fun hc => ?_) <;> first | exact absurd (Eq.trans (Eq.symm (show _ = true by assumption)) hc) (by decide) | exact absurd (Eq.trans (Eq.symm (show _ = false by assumption)) hc) (by decide) | skip) | (refine X.calls [] h56 (by cbv) ?_ (by cbv) ?_; focus (cbv <;> ((repeat' apply And.intro) <;> first | rfl | trivial))) | refine X.need _ _ _ hcut0 ?_ | (refine X.callsG [] h53 (by cbv) ?_ (by cbv) ?_; focus (cbv <;> ((repeat' apply And.intro) <;> first | rfl | trivial))) | refine X.draw _ _ _ ?_)
    all_goals (refine X.ret _ (X.done rfl ?_); cbv <;> ((repeat' apply And.intro) <;> first | exact hw.1.symm | exact hw.2 | trivial))
end Go.Proofs.YtjbnffclpebkkaaDoor
