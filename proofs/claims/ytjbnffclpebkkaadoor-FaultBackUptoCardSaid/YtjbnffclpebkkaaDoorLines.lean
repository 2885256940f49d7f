/- The plain side of reading a script: lines, pieces between blanks, numbers; the program's test of a line is the reference's. -/
import Derived.Test.YtjbnffclpebkkaaDoorText
set_option linter.unusedVariables false
namespace Go.Proofs.YtjbnffclpebkkaaDoor
open Go
/-- A number of a text without leading zeros. -/
noncomputable def isNum (s : ByteArray) : Bool := atOk s && (decide (0 ≤ atV s) && decide (dec (atV s) = s))
/-- The place of a word among the words of the kinds, or -1. -/
def wix : List (List UInt8) → Nat → ByteArray → Int
  | [], _, _ => -1
  | x :: l, i, w => if w = ⟨x.toArray⟩ then i else wix l (i + 1) w
theorem wix_range : ∀ (l : List (List UInt8)) (i : Nat) (w : ByteArray), wix l i w = -1 ∨ ∃ j, j < l.length ∧ wix l i w = ((i + j : Nat) : Int) ∧ w = ⟨((l[j]?).getD []).toArray⟩
  | [], i, w => .inl rfl
  | x :: l, i, w => by
    rw [wix]
    split
    · rename_i h; exact .inr ⟨0, by simp, by simp, by simpa using h⟩
    · rcases wix_range l (i + 1) w with h | ⟨j, h1, h2, h3⟩
      · exact .inl h
      · exact .inr ⟨j + 1, by simpa using h1, by rw [h2]; congr 1; omega, by simpa using h3⟩
noncomputable def kOf (w : ByteArray) : Int := wix wordsL 0 w
theorem kOf_word (w : ByteArray) : kOf w = -1 ∨ (0 ≤ kOf w ∧ kOf w < 6 ∧ w = wordB (kOf w)) := by
  rcases wix_range wordsL 0 w with h | ⟨j, h1, h2, h3⟩
  · exact .inl h
  · have h6 : wordsL.length = 6 := rfl
    have e : kOf w = (j : Int) := by rw [kOf, h2]; simp
    refine .inr ⟨by omega, by omega, ?_⟩
    rw [e, wordB]
    simpa using h3
/-- A line's pieces as a fault. -/
noncomputable def lineP (w : List ByteArray) : Option Fl :=
  match w with
  | [a, m, b] => if isNum a = true ∧ isNum b = true ∧ 0 ≤ kOf m then some ⟨atV a, kOf m, atV b⟩ else none
  | _ => none

/- Pieces between blanks. -/
theorem ext_bytes {a b : ByteArray} (h : a.data.toList = b.data.toList) : a = b := by
  cases a; cases b; congr; exact Array.ext' h
theorem app_data (a b : ByteArray) : (a ++ b).data.toList = a.data.toList ++ b.data.toList := by simp
theorem ixb (s : ByteArray) : Lib.indexB s ⟨⟨[32]⟩⟩ = Lib.indexByte s.data.toList 32 := by
  rw [Lib.indexB]; exact Lib.index_one _ _
theorem notin_of_ix {l : List UInt8} {c : UInt8} (h : Lib.indexByte l c = -1) : c ∉ l := fun hm => by
  obtain ⟨i, hi, h2⟩ := List.getElem_of_mem hm
  exact Lib.indexByte_none h i (by rw [List.getElem?_eq_getElem hi, h2])
theorem split_ix {l : List UInt8} {c : UInt8} {i : Nat} (h : Lib.indexByte l c = i) : l = l.take i ++ c :: l.drop (i + 1) ∧ c ∉ l.take i ∧ i < l.length := by
  obtain ⟨h1, h2⟩ := Lib.indexByte_some h
  obtain ⟨h3, h4⟩ := List.getElem?_eq_some_iff.1 h1
  refine ⟨?_, fun hm => ?_, h3⟩
  · rw [← h4, ← List.drop_eq_getElem_cons h3, List.take_append_drop]
  · obtain ⟨j, hj, h5⟩ := List.getElem_of_mem hm
    have hj' : j < i := by simp at hj; omega
    refine h2 j hj' ?_
    rw [List.getElem_take] at h5
    rw [List.getElem?_eq_getElem (by omega), h5]
theorem pcs_miss {s : ByteArray} (h : Lib.indexByte s.data.toList 32 = -1) : pcs s = [s] := by
  rw [pcs_eq]; exact Lib.splitB_miss _ _ _ _ (by rw [ixb]; exact h)
theorem pcs_hit {s : ByteArray} {i : Nat} (h : Lib.indexByte s.data.toList 32 = i) : pcs s = s.extract 0 i :: pcs (s.extract (i + 1) s.size) := by
  have h1 : Lib.indexB s ⟨⟨[32]⟩⟩ = i := by rw [ixb]; exact h
  have h2 := Lib.countB_hit s ⟨⟨[32]⟩⟩ i (by decide) h1
  rw [pcs_eq, pcs_eq, h2, Nat.add_comm 1, Lib.splitB_hit _ _ _ _ i h1]
  rfl
theorem pcs_ne (s : ByteArray) : pcs s ≠ [] := by
  rcases Lib.indexB_cases s ⟨⟨[32]⟩⟩ with h | ⟨i, h, _⟩
  · rw [pcs_miss (by rw [← ixb]; exact h)]; simp
  · rw [pcs_hit (i := i) (by rw [← ixb]; exact h)]; simp
theorem ext_take (s : ByteArray) (i : Nat) : (s.extract 0 i).data.toList = s.data.toList.take i := by simp
theorem ext_drop (s : ByteArray) (i : Nat) : (s.extract i s.size).data.toList = s.data.toList.drop i := by
  exact Lib.extract_to_end s i
theorem pcs_cases (s : ByteArray) : (pcs s = [s] ∧ 32 ∉ s.data.toList) ∨ ∃ a r, pcs s = a :: pcs r ∧ s.data.toList = a.data.toList ++ 32 :: r.data.toList ∧ 32 ∉ a.data.toList := by
  have hg := Lib.indexByte_ge s.data.toList 32
  by_cases h : Lib.indexByte s.data.toList 32 = -1
  · exact .inl ⟨pcs_miss h, notin_of_ix h⟩
  · obtain ⟨i, hi⟩ : ∃ i : Nat, Lib.indexByte s.data.toList 32 = i := ⟨(Lib.indexByte s.data.toList 32).toNat, by omega⟩
    obtain ⟨h1, h2, h3⟩ := split_ix hi
    exact .inr ⟨_, _, pcs_hit hi, by rw [ext_take, ext_drop]; exact h1, by rw [ext_take]; exact h2⟩
theorem pcs_three {s a m b : ByteArray} (h : pcs s = [a, m, b]) : s.data.toList = a.data.toList ++ 32 :: (m.data.toList ++ 32 :: b.data.toList) ∧ 32 ∉ a.data.toList ∧ 32 ∉ m.data.toList ∧ 32 ∉ b.data.toList := by
  rcases pcs_cases s with ⟨h1, _⟩ | ⟨a', r, h1, h2, h3⟩
  · rw [h1] at h; simp at h
  rw [h1] at h
  simp only [List.cons.injEq] at h
  obtain ⟨rfl, h⟩ := h
  rcases pcs_cases r with ⟨h4, _⟩ | ⟨m', r', h4, h5, h6⟩
  · rw [h4] at h; simp at h
  rw [h4] at h
  simp only [List.cons.injEq] at h
  obtain ⟨rfl, h⟩ := h
  rcases pcs_cases r' with ⟨h7, h8⟩ | ⟨b', r'', h7, h9, h10⟩
  · rw [h7] at h
    simp only [List.cons.injEq, and_true] at h
    subst h
    exact ⟨by rw [h2, h5], h3, h6, h8⟩
  · rw [h7] at h
    simp only [List.cons.injEq] at h
    exact absurd h.2 (pcs_ne r'')
/-- What a line's pieces are, if one knows the line. -/
theorem pcs_of {s a m b : ByteArray} (h : s.data.toList = a.data.toList ++ 32 :: (m.data.toList ++ 32 :: b.data.toList)) (ha : 32 ∉ a.data.toList) (hm : 32 ∉ m.data.toList) (hb : 32 ∉ b.data.toList) : pcs s = [a, m, b] := by
  have cut : ∀ {x y u v : List UInt8}, x ++ 32 :: u = y ++ 32 :: v → 32 ∉ x → 32 ∉ y → x = y ∧ u = v := by
    intro x
    induction x with
    | nil => intro y u v h hx hy; cases y with
      | nil => simpa using h
      | cons c y => simp at h; exact absurd (by simp [← h.1]) hy
    | cons c x ih => intro y u v h hx hy; cases y with
      | nil => simp at h; exact absurd (by simp [h.1]) hx
      | cons d y =>
        simp only [List.cons_append, List.cons.injEq] at h
        obtain ⟨h1, h2⟩ := ih h.2 (fun h => hx (by simp [h])) (fun h => hy (by simp [h]))
        exact ⟨by rw [h.1, h1], h2⟩
  rcases pcs_cases s with ⟨_, h1⟩ | ⟨a', r, h1, h2, h3⟩
  · exact absurd (by rw [h]; simp) h1
  obtain ⟨e1, e2⟩ := cut (h2.symm.trans h) h3 ha
  rcases pcs_cases r with ⟨_, h4⟩ | ⟨m', r', h4, h5, h6⟩
  · exact absurd (by rw [e2]; simp) h4
  obtain ⟨e3, e4⟩ := cut (h5.symm.trans e2) h6 hm
  rcases pcs_cases r' with ⟨h7, _⟩ | ⟨b', r'', h7, h9, h10⟩
  · rw [h1, h4, h7, ext_bytes e1, ext_bytes e3, ext_bytes e4]
  · exact absurd (by rw [← e4, h9]; simp) hb
theorem cut32 {x y u v : List UInt8} (h : x ++ 32 :: u = y ++ 32 :: v) (hx : 32 ∉ x) (hy : 32 ∉ y) : x = y ∧ u = v := by
  induction x generalizing y with
  | nil => cases y with
    | nil => simpa using h
    | cons c y => simp at h; exact absurd (by simp [← h.1]) hy
  | cons c x ih => cases y with
    | nil => simp at h; exact absurd (by simp [h.1]) hx
    | cons d y =>
      simp only [List.cons_append, List.cons.injEq] at h
      obtain ⟨h1, h2⟩ := ih h.2 (fun h => hx (by simp [h])) (fun h => hy (by simp [h]))
      exact ⟨by rw [h.1, h1], h2⟩

/- Digits. -/
theorem digit_mem : ∀ (u : Nat), ∀ c ∈ Lib.decDigits u, 48 ≤ c.toNat ∧ c.toNat ≤ 57 := by
  intro u
  induction u using Nat.strongRecOn with
  | _ u ih =>
    intro c hc
    rw [Lib.decDigits] at hc
    have key : ∀ d, d < 10 → 48 ≤ (UInt8.ofNat (48 + d)).toNat ∧ (UInt8.ofNat (48 + d)).toNat ≤ 57 := fun d hd => by
      rw [UInt8.toNat_ofNat_of_lt' (by show 48 + d < 256; omega)]; omega
    split at hc
    · rename_i h; rw [List.mem_singleton.1 hc]; exact key u h
    · rename_i h
      rcases List.mem_append.1 hc with hc | hc
      · exact ih (u / 10) (by omega) c hc
      · rw [List.mem_singleton.1 hc]; exact key _ (Nat.mod_lt _ (by decide))
theorem dec_data (n : Int) : (dec n).data.toList = Lib.itoa n := by rw [dec_eq]
theorem dec_mem (n : Int) : ∀ c ∈ (dec n).data.toList, c.toNat = 45 ∨ (48 ≤ c.toNat ∧ c.toNat ≤ 57) := by
  intro c hc
  rw [dec_data, Lib.itoa] at hc
  split at hc
  · rcases List.mem_cons.1 hc with rfl | hc
    · exact .inl rfl
    · exact .inr (digit_mem _ c hc)
  · exact .inr (digit_mem _ c hc)
theorem dec_no (n : Int) (c : UInt8) (h : c.toNat < 45) : c ∉ (dec n).data.toList := fun hc => by
  rcases dec_mem n c hc with h1 | h1 <;> omega
theorem line_data (x : Fl) : (lineB x).data.toList = (dec x.t).data.toList ++ 32 :: ((wordB x.k).data.toList ++ 32 :: ((dec x.n).data.toList ++ [10])) := by
  simp only [lineB, app_data]
  show ((((_ ++ [32]) ++ _) ++ [32]) ++ _) ++ [10] = _
  simp
theorem text_one (x : Fl) : (textB [x]).data.toList = (lineB x).data.toList := by
  simp [textB]

/-- The reference's test of a line is the program's. -/
theorem line_law {s a m b : ByteArray} (h : pcs s = [a, m, b]) (hk : 0 ≤ kOf m) (u v : Int) : (textB [⟨u, kOf m, v⟩]).data.toList = s.data.toList ++ [10] ↔ dec u = a ∧ dec v = b := by
  obtain ⟨h1, h2, h3, h4⟩ := pcs_three h
  have hw : m = wordB (kOf m) := by
    rcases kOf_word m with h5 | ⟨_, _, h5⟩
    · omega
    · exact h5
  rw [text_one, line_data, h1]
  simp only
  rw [← hw]
  constructor
  · intro e
    rw [List.append_assoc, List.cons_append, List.append_assoc, List.cons_append] at e
    obtain ⟨e1, e2⟩ := cut32 e (dec_no u 32 (by decide)) h2
    have e3 := List.append_cancel_left e2
    simp only [List.cons.injEq, true_and] at e3
    exact ⟨ext_bytes e1, ext_bytes (List.append_cancel_right e3)⟩
  · rintro ⟨rfl, rfl⟩
    simp

/- The lines of a text. -/
noncomputable def rdF : Nat → List UInt8 → List Fl → Option (List Fl)
  | _, [], out => some out
  | 0, _ :: _, _ => none
  | n + 1, s, out =>
    if Lib.indexByte s 10 = -1 then none
    else match lineP (pcs ⟨(s.take (Lib.indexByte s 10).toNat).toArray⟩) with
      | none => none
      | some x => rdF n (s.drop ((Lib.indexByte s 10).toNat + 1)) (out ++ [x])
noncomputable def rdR (s : ByteArray) (out : List Fl) : Option (List Fl) := rdF s.size s.data.toList out
theorem rdF_more : ∀ (n m : Nat) (s : List UInt8) (out : List Fl), s.length ≤ n → n ≤ m → rdF m s out = rdF n s out
  | n, m, [], out, _, _ => by rw [rdF, rdF]
  | 0, m, c :: s, out, h, _ => by simp at h
  | n + 1, 0, c :: s, out, _, h => by omega
  | n + 1, m + 1, c :: s, out, h, h2 => by
    have e : ∀ k x, rdF m ((c :: s).drop (k + 1)) x = rdF n ((c :: s).drop (k + 1)) x := fun k x =>
      rdF_more n m _ x (by simp at h ⊢; omega) (by omega)
    rw [rdF, rdF]
    · split
      · rfl
      · split
        · rfl
        · exact e _ _
    · simp
    · simp
theorem rdR_nil (s : ByteArray) (hs : s.size = 0) (out : List Fl) : rdR s out = some out := by
  have : s.data.toList = [] := List.length_eq_zero_iff.1 (by simpa using hs)
  rw [rdR, this]; cases s.size <;> rfl
theorem rdR_miss (s : ByteArray) (hs : s.size ≠ 0) (h : Lib.indexByte s.data.toList 10 = -1) (out : List Fl) : rdR s out = none := by
  obtain ⟨n, hn⟩ : ∃ n, s.size = n + 1 := ⟨s.size - 1, by omega⟩
  rw [rdR, hn, rdF, if_pos h]
  intro h2
  exact hs (by rw [show s.size = s.data.toList.length from Array.length_toList.symm, h2]; rfl)
theorem rdR_hit (s : ByteArray) (i : Nat) (h : Lib.indexByte s.data.toList 10 = i) (out : List Fl) : rdR s out = match lineP (pcs (s.extract 0 i)) with | none => none | some x => rdR (s.extract (i + 1) s.size) (out ++ [x]) := by
  obtain ⟨_, _, h3⟩ := split_ix h
  have hsz : s.size = s.data.toList.length := by simp
  obtain ⟨n, hn⟩ : ∃ n, s.size = n + 1 := ⟨s.size - 1, by omega⟩
  have e0 : (⟨(s.data.toList.take i).toArray⟩ : ByteArray) = s.extract 0 i := ext_bytes (by simp)
  have e1 : (s.extract (i + 1) s.size).size = n - i := by rw [ByteArray.size_extract]; omega
  unfold rdR
  rw [show rdF s.size = rdF (n + 1) by rw [hn], rdF, if_neg (by omega), h]
  · simp only [Int.toNat_natCast]
    rw [e0]
    split
    · rfl
    · rw [e1, ext_drop]
      exact rdF_more (n - i) n _ _ (by simp; omega) (by omega)
  · intro h2; rw [h2] at h3; simp at h3
end Go.Proofs.YtjbnffclpebkkaaDoor
