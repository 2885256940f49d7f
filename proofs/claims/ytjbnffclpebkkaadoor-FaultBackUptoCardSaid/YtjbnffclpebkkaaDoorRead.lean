/- Contract: Read returns the script of a text. -/
import Derived.Test.YtjbnffclpebkkaaDoorTexts
import Derived.Test.YtjbnffclpebkkaaDoorCheck
set_option linter.unusedVariables false
set_option linter.unusedSimpArgs false
namespace Go.Proofs.YtjbnffclpebkkaaDoor
open Go
noncomputable def readS (arms : Int) (s : ByteArray) : List Fl × Int :=
  if 2000 < s.size then ([], 2) else match rdR s [] with
    | none => ([], 15)
    | some l => if checkS arms l = 0 then (l, 0) else ([], checkS arms l)

theorem lineP_some {w : List ByteArray} {x : Fl} (h : lineP w = some x) : ∃ a m b, w = [a, m, b] ∧ isNum a = true ∧ isNum b = true ∧ 0 ≤ kOf m ∧ x = ⟨atV a, kOf m, atV b⟩ := by
  unfold lineP at h
  split at h
  · rename_i a m b
    split at h
    · rename_i hc; cases h; exact ⟨a, m, b, rfl, hc.1, hc.2.1, hc.2.2, rfl⟩
    · cases h
  · cases h
theorem cut_miss {l : List UInt8} (h : Lib.indexByte l 10 = -1) : Lib.cut l [10] = (l, [], false) := by
  rw [Lib.cut, Lib.index_one, if_neg (by omega)]
theorem cut_hit {l : List UInt8} {i : Nat} (h : Lib.indexByte l 10 = i) : Lib.cut l [10] = (l.take i, l.drop (i + 1), true) := by
  rw [Lib.cut, Lib.index_one, if_pos (by omega), h]; rfl
theorem size_data (s : ByteArray) : s.size = s.data.toList.length := Array.length_toList.symm
theorem len3 {α : Type} {l : List α} (h : l.length = 3) : ∃ a m b, l = [a, m, b] := by
  match l, h with
  | [a, m, b], _ => exact ⟨a, m, b, rfl⟩

set_option maxRecDepth 100000 in
set_option maxHeartbeats 0 in
theorem read_ok (s : ByteArray) (hs : s.size ≤ 2 ^ 30) (arms : Int) (es : List (List AE.AV)) (e : Int) (hes : es = fl (readS arms s).1) (he : e = (readS arms s).2) :
    AE.ACallG GG Tryd.prog 35 [] [.v (.string s), .v (.int .i64 arms)] [] (.t [.l 3 es, .v (.int .i64 e)]) := by
  refine AE.ACallG.of_walk (fn := Tryd.f35) (c := bodyOf Tryd.f35) GG_stays tabOK Tryd.func35 rfl rfl mixed fun A hA X => ?_
  have hz : fl [] = [] := by rw [fl_eq]; rfl
  (refine X.go 500 _ _ ?_; cbv)
  (refine X.split _ _ _ _ _ (fun hc => ?_) (fun hc => ?_) <;> first | exact absurd (Eq.trans (Eq.symm (show _ = true by assumption)) hc) (by decide) | exact absurd (Eq.trans (Eq.symm (show _ = false by assumption)) hc) (by decide) | skip)
  · have h1 : (2000 : Int) < s.size := by have := AE.gtT hA hc; subst hA; exact this
    have h2 : ([] : List (List AE.AV)) = es := by rw [hes, readS, if_pos (by omega), hz]
    have h3 : (2 : Int) = e := by rw [he, readS, if_pos (by omega)]
    (refine X.go 500 _ _ ?_; cbv)
    refine X.ret _ (X.done rfl ?_)
    cbv
    (repeat' apply And.intro) <;> first | exact h2.symm | exact h3 | trivial
  have h1 : ¬ 2000 < s.size := by
    have h5 : (s.size : Int) ≤ 2000 := by have := AE.gtF hA hc; subst hA; exact this
    omega
  obtain ⟨rr, hrr⟩ : ∃ rr, rr = rdR s [] := ⟨_, rfl⟩
  rw [readS, if_neg h1, ← hrr] at hes he
  (refine X.go 500 _ _ ?_; cbv)
  refine X.loopG _ _ _ (X.nilT 6 28 3 _ _ ?_)
  (refine X.go 500 _ _ ?_; cbv)
  refine X.carries (ι := { p : ByteArray × List Fl // p.1.size + p.2.length ≤ 2000 ∧ rdR p.1 p.2 = rr }) (fun p => [(0, .v (.string p.1.1)), (6, .r 0)]) (fun p => [.row 28 3 (fl p.1.2)]) (fun p => p.1.1.size) ⟨(s, []), by simp; omega, hrr.symm⟩ ?_ fun p B hB => ?_
  · cbv
    ((repeat' apply And.intro) <;> (try first | rfl | trivial)) <;> exact hz.symm
  obtain ⟨⟨s, out⟩, hl, hinv⟩ := p
  simp only at hl hinv
  obtain ⟨v, hv⟩ : ∃ v, v = fl out := ⟨_, rfl⟩
  simp only [← hv]
  have hvl : A.llen v = out.length := by subst hA; rw [hv]; simp [AE.std, fl_len]
  have hfail : rr = none → ([] : List (List AE.AV)) = es ∧ (15 : Int) = e := fun h => by rw [h] at hes he; exact ⟨by rw [hes, hz], by rw [he]⟩
  by_cases h0 : s.size = 0
  · have hs0 : A.scmp .neq s ⟨⟨[]⟩⟩ = false := by
      rw [c_sneq hA]
      have : s = ⟨⟨[]⟩⟩ := by cases s; rename_i d; congr; exact Array.eq_empty_of_size_eq_zero h0
      simp [this]
    have hr : rr = some out := by rw [← hinv, rdR_nil s h0]
    rw [hr] at hes he
    obtain ⟨c, hcc⟩ : ∃ c, c = checkS arms out := ⟨_, rfl⟩
    have h9 := check_ok out (by omega) arms v hv c hcc
    have hf1 : A.cmp .neq c 0 = true → ([] : List (List AE.AV)) = es ∧ c = e := fun h => by
      have h2 : c ≠ 0 := AE.neT hA h
      simp only at hes he
      rw [if_neg (by rw [← hcc]; exact h2)] at hes he
      exact ⟨by rw [hes, hz], by rw [he, hcc]⟩
    have hf2 : A.cmp .neq c 0 = false → v = es ∧ (0 : Int) = e := fun h => by
      have h2 : c = 0 := AE.neF hA h
      simp only at hes he
      rw [if_pos (by rw [← hcc]; exact h2)] at hes he
      exact ⟨by rw [hes, hv], he.symm⟩
    clear hB hfail
    (refine X.go 500 _ _ ?_; cbv)
    (refine X.split _ _ _ _ _ (fun hc => ?_) (fun hc => ?_) <;> first | exact absurd (Eq.trans (Eq.symm (show _ = true by assumption)) hc) (by decide) | exact absurd (Eq.trans (Eq.symm (show _ = false by assumption)) hc) (by decide) | skip)
    (refine X.go 500 _ _ ?_; cbv)
    refine X.callFrz _ _ _ _ _ 0 ?_
    cbv
    (refine X.calls [] h9 (by cbv) ?_ (by cbv) ?_; focus (cbv <;> ((repeat' apply And.intro) <;> first | rfl | trivial)))
    repeat' (first | (refine X.go 500 _ _ ?_; cbv) | (refine X.split _ _ _ _ _ (fun hc => ?_) (fun hc => ?_) <;> first | exact absurd (Eq.trans (Eq.symm (show _ = true by assumption)) hc) (by decide) | exact absurd (Eq.trans (Eq.symm (show _ = false by assumption)) hc) (by decide) | skip))
    all_goals first
      | (have hq := hf1 (by assumption); refine X.ret _ (X.done rfl ?_); cbv <;> ((repeat' apply And.intro) <;> first | exact hq.1.symm | exact hq.2 | trivial))
      | (have hq := hf2 (by assumption); refine X.ret _ (X.done rfl ?_); cbv <;> ((repeat' apply And.intro) <;> first | exact hq.1 | exact hq.2 | trivial))
  have hs1 : A.scmp .neq s ⟨⟨[]⟩⟩ = true := by
    rw [c_sneq hA]
    have : s ≠ ⟨⟨[]⟩⟩ := fun h => h0 (by rw [h]; rfl)
    simp [this]
  have hge := Lib.indexByte_ge s.data.toList 10
  by_cases hix : Lib.indexByte s.data.toList 10 = -1
  · have hcut := cut_miss hix
    obtain ⟨b, hb⟩ : ∃ b : ByteArray, b = ⟨(Lib.cut s.data.toList [10]).2.1.toArray⟩ := ⟨_, rfl⟩
    obtain ⟨c, hcc⟩ : ∃ c : Bool, c = (Lib.cut s.data.toList [10]).2.2 := ⟨_, rfl⟩
    have h52 := cut_ok s (by omega) s b c (by rw [hcut]) hb hcc
    obtain ⟨ps, hps⟩ : ∃ ps, ps = sl (pcs s) := ⟨_, rfl⟩
    have h53 := split_ok s (by omega) ps hps
    have hc1 : A.bnot c = true := by rw [AE.c_not hA, hcc, hcut]; rfl
    have hq := hfail (by rw [← hinv, rdR_miss s h0 hix])
    clear hB hfail
    repeat' (first | (refine X.go 500 _ _ ?_; cbv) | (refine X.split _ _ _ _ _ (fun hc => ?_) (fun hc => ?_) <;> first | exact absurd (Eq.trans (Eq.symm (show _ = true by assumption)) hc) (by decide) | exact absurd (Eq.trans (Eq.symm (show _ = false by assumption)) hc) (by decide) | skip) | (refine X.callsG [] h52 (by cbv) ?_ (by cbv) ?_; focus (cbv <;> ((repeat' apply And.intro) <;> first | rfl | trivial))) | (refine X.callsG [] h53 (by cbv) ?_ (by cbv) ?_; focus (cbv <;> ((repeat' apply And.intro) <;> first | rfl | trivial))))
    all_goals (refine X.ret _ (X.done rfl ?_); cbv <;> ((repeat' apply And.intro) <;> first | exact hq.1.symm | exact hq.2 | trivial))
  obtain ⟨i, hi⟩ : ∃ i : Nat, Lib.indexByte s.data.toList 10 = i := ⟨(Lib.indexByte s.data.toList 10).toNat, by omega⟩
  have hcut := cut_hit hi
  have hrd := rdR_hit s i hi out
  rw [hinv] at hrd
  obtain ⟨_, _, hilt⟩ := split_ix hi
  rw [← size_data] at hilt
  obtain ⟨a, ha⟩ : ∃ a : ByteArray, a = s.extract 0 i := ⟨_, rfl⟩
  obtain ⟨b, hb⟩ : ∃ b : ByteArray, b = s.extract (i + 1) s.size := ⟨_, rfl⟩
  obtain ⟨c, hcc⟩ : ∃ c : Bool, c = (Lib.cut s.data.toList [10]).2.2 := ⟨_, rfl⟩
  rw [← ha, ← hb] at hrd
  have hasz : a.size ≤ s.size := by rw [ha, ByteArray.size_extract]; omega
  have hbsz : b.size + 1 ≤ s.size := by rw [hb, ByteArray.size_extract]; omega
  have h52 := cut_ok s (by omega) a b c (by rw [hcut, ha]; exact ext_bytes (by rw [ext_take])) (by rw [hcut, hb]; exact ext_bytes (by rw [ext_drop])) hcc
  obtain ⟨ps, hps⟩ : ∃ ps, ps = sl (pcs a) := ⟨_, rfl⟩
  have h53 := split_ok a (by omega) ps hps
  have hc1 : A.bnot c = false := by rw [AE.c_not hA, hcc, hcut]; rfl
  have hpl : A.llen ps = (pcs a).length := by subst hA; rw [hps]; simp [AE.std, sl_len]
  by_cases h3 : (pcs a).length = 3
  · have hc3 : A.cmp .neq (A.llen ps) 3 = false := by rw [AE.c_neq hA, hpl, h3]; rfl
    obtain ⟨w0, m, w2, hw⟩ := len3 h3
    obtain ⟨g1, _, _, _⟩ := pcs_three hw
    have gsz : w0.size ≤ a.size ∧ w2.size ≤ a.size := by
      have : a.data.toList.length = _ := congrArg List.length g1
      rw [← size_data] at this
      simp only [List.length_append, List.length_cons] at this
      rw [← size_data, ← size_data, ← size_data] at this
      omega
    rw [hw] at hrd
    obtain ⟨n0, hn0⟩ : ∃ n, n = atV w0 := ⟨_, rfl⟩
    obtain ⟨n2, hn2⟩ : ∃ n, n = atV w2 := ⟨_, rfl⟩
    obtain ⟨b0, hb0⟩ : ∃ b, b = isNum w0 := ⟨_, rfl⟩
    obtain ⟨b2, hb2⟩ : ∃ b, b = isNum w2 := ⟨_, rfl⟩
    obtain ⟨k, hk⟩ : ∃ k, k = kOf m := ⟨_, rfl⟩
    obtain ⟨w, hwl⟩ : ∃ w, w = wl := ⟨_, rfl⟩
    have h54a := number_ok w0 (by omega) n0 hn0 b0 hb0
    have h54b := number_ok w2 (by omega) n2 hn2 b2 hb2
    have h38 := words_ok w hwl
    have h55 := index_ok m w hwl k hk
    have p0 : ps[0]? = some [.v (.string w0)] := by rw [hps]; exact sl_get _ 0 w0 (by rw [hw]; rfl)
    have p1 : ps[1]? = some [.v (.string m)] := by rw [hps]; exact sl_get _ 1 m (by rw [hw]; rfl)
    have p2 : ps[2]? = some [.v (.string w2)] := by rw [hps]; exact sl_get _ 2 w2 (by rw [hw]; rfl)
    simp only [lineP, ← hb0, ← hb2, ← hk, ← hn0, ← hn2] at hrd
    obtain ⟨o', ho'⟩ : ∃ o', o' = out ++ [(⟨n0, k, n2⟩ : Fl)] := ⟨_, rfl⟩
    have hol : o'.length = out.length + 1 := by rw [ho']; simp
    have hno : ¬ (b0 = true ∧ b2 = true ∧ 0 ≤ k) → ([] : List (List AE.AV)) = es ∧ (15 : Int) = e := fun h => by
      rw [if_neg h] at hrd
      exact hfail hrd
    have hno1 : A.bnot b0 = true → ([] : List (List AE.AV)) = es ∧ (15 : Int) = e := fun h => hno fun h2 => by rw [AE.c_not hA, h2.1] at h; cases h
    have hno2 : A.bnot b2 = true → ([] : List (List AE.AV)) = es ∧ (15 : Int) = e := fun h => hno fun h2 => by rw [AE.c_not hA, h2.2.1] at h; cases h
    have hno3 : A.cmp .lss k 0 = true → ([] : List (List AE.AV)) = es ∧ (15 : Int) = e := fun h => hno fun h2 => absurd (AE.ltT hA h) (by omega)
    have hyes : A.bnot b0 = false → A.bnot b2 = false → A.cmp .lss k 0 = false → rdR b o' = rr := fun h1 h2 h3 => by
      rw [ho']
      rw [AE.c_not hA] at h1 h2
      rw [if_pos ⟨by simpa using h1, by simpa using h2, AE.ltF hA h3⟩] at hrd
      exact hrd.symm
    have hgrow : ∀ z : List AE.AV, AE.GrowR (A.llen v) (A.llen [z]) 24 := fun z => by
      have h1 : A.llen [z] = 1 := by subst hA; rfl
      constructor <;> rw [h1, hvl] <;> omega
    have happ : A.lapp v [[.v (.int .i64 n0), .v (.int .i64 k), .v (.int .i64 n2)]] = fl o' := by
      subst hA; rw [ho', hv, fl_eq, fl_eq, List.map_append]; rfl
    clear hrd hno hfail
    repeat' (first | (refine X.go 500 _ _ ?_; cbv) | (refine X.split _ _ _ _ _ (fun hc => ?_) (fun hc => ?_) <;> first | exact absurd (Eq.trans (Eq.symm (show _ = true by assumption)) hc) (by decide) | exact absurd (Eq.trans (Eq.symm (show _ = false by assumption)) hc) (by decide) | skip) | (refine X.callsG [] h52 (by cbv) ?_ (by cbv) ?_; focus (cbv <;> ((repeat' apply And.intro) <;> first | rfl | trivial))) | (refine X.callsG [] h53 (by cbv) ?_ (by cbv) ?_; focus (cbv <;> ((repeat' apply And.intro) <;> first | rfl | trivial))) | (refine X.callsG [] h54a (by cbv) ?_ (by cbv) ?_; focus (cbv <;> ((repeat' apply And.intro) <;> first | rfl | trivial))) | (refine X.callsG [] h54b (by cbv) ?_ (by cbv) ?_; focus (cbv <;> ((repeat' apply And.intro) <;> first | rfl | trivial))) | refine X.draw _ _ _ ?_ | (refine X.calls [] h38 (by cbv) ?_ (by cbv) (X.frz 1 _ _ ?_); focus (cbv <;> ((repeat' apply And.intro) <;> first | rfl | trivial))) | (refine X.calls [] h55 (by cbv) ?_ (by cbv) ?_; focus (cbv <;> ((repeat' apply And.intro) <;> first | rfl | trivial))) | refine X.idx _ _ _ _ _ _ 0 _ p0 rfl ?_ | refine X.idx _ _ _ _ _ _ 1 _ p1 rfl ?_ | refine X.idx _ _ _ _ _ _ 2 _ p2 rfl ?_ | refine X.need _ _ _ (hgrow _) ?_)
    all_goals first
      | (have hq := hno1 (by assumption); refine X.ret _ (X.done rfl ?_); clear hB; cbv <;> ((repeat' apply And.intro) <;> first | exact hq.1.symm | exact hq.2 | trivial))
      | (have hq := hno2 (by assumption); refine X.ret _ (X.done rfl ?_); clear hB; cbv <;> ((repeat' apply And.intro) <;> first | exact hq.1.symm | exact hq.2 | trivial))
      | (have hq := hno3 (by assumption); refine X.ret _ (X.done rfl ?_); clear hB; cbv <;> ((repeat' apply And.intro) <;> first | exact hq.1.symm | exact hq.2 | trivial))
      | (refine hB ⟨(b, o'), by show b.size + o'.length ≤ 2000; omega, hyes (by assumption) (by assumption) (by assumption)⟩ _ (by show b.size < s.size; omega) ?_; clear hB; cbv; ((repeat' apply And.intro) <;> (try first | rfl | trivial)) <;> exact happ)
  · have hc3 : A.cmp .neq (A.llen ps) 3 = true := by rw [AE.c_neq hA, hpl]; simp; omega
    have hq := hfail (by
      rw [hrd]
      cases hL : lineP (pcs a) with
      | none => rfl
      | some x => obtain ⟨_, _, _, h5, _⟩ := lineP_some hL; exact absurd (by rw [h5]; rfl) h3)
    clear hB hfail
    repeat' (first | (refine X.go 500 _ _ ?_; cbv) | (refine X.split _ _ _ _ _ (fun hc => ?_) (fun hc => ?_) <;> first | exact absurd (Eq.trans (Eq.symm (show _ = true by assumption)) hc) (by decide) | exact absurd (Eq.trans (Eq.symm (show _ = false by assumption)) hc) (by decide) | skip) | (refine X.callsG [] h52 (by cbv) ?_ (by cbv) ?_; focus (cbv <;> ((repeat' apply And.intro) <;> first | rfl | trivial))) | (refine X.callsG [] h53 (by cbv) ?_ (by cbv) ?_; focus (cbv <;> ((repeat' apply And.intro) <;> first | rfl | trivial))))
    all_goals (refine X.ret _ (X.done rfl ?_); cbv <;> ((repeat' apply And.intro) <;> first | exact hq.1.symm | exact hq.2 | trivial))
end Go.Proofs.YtjbnffclpebkkaaDoor
