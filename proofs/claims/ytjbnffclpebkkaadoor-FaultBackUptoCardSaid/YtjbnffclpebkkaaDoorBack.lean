/- FaultBack answers true, whatever it is called with. -/
import Derived.Test.YtjbnffclpebkkaaDoorRead
import Derived.Test.YtjbnffclpebkkaaDoorDown
import Derived.Test.YtjbnffclpebkkaaDoorConcat
set_option linter.unusedVariables false
set_option linter.unusedSimpArgs false
namespace Go.Proofs.YtjbnffclpebkkaaDoor
open Go

/- Small numbers as text and back. -/
theorem small_text : ∀ n : Fin 61, Lib.atoiAll (Lib.itoa ((n.val : Nat) : Int)) = .ok ((n.val : Nat) : Int) ∧ (Lib.itoa ((n.val : Nat) : Int)).length ≤ 2 := by decide +kernel
theorem small_num {n : Int} (h0 : 0 ≤ n) (h1 : n ≤ 60) : isNum (dec n) = true ∧ atV (dec n) = n ∧ (dec n).size ≤ 2 := by
  obtain ⟨k, rfl⟩ := Int.eq_ofNat_of_zero_le h0
  obtain ⟨h2, h3⟩ := small_text ⟨k, by omega⟩
  simp only at h2 h3
  have hv : atV (dec (k : Int)) = (k : Int) := by unfold atV; rw [dec_data, h2]
  have ho : atOk (dec (k : Int)) = true := by unfold atOk; rw [dec_data, h2]
  refine ⟨?_, hv, ?_⟩
  · rw [isNum, ho, hv]; simp
  · rw [size_data, dec_data]; exact h3
theorem kOf_wordB {k : Int} (h0 : 0 ≤ k) (h1 : k < 6) : kOf (wordB k) = k := by
  obtain ⟨j, rfl⟩ := Int.eq_ofNat_of_zero_le h0
  have hj : j < 6 := by omega
  match j, hj with
  | 0, _ => decide
  | 1, _ => decide
  | 2, _ => decide
  | 3, _ => decide
  | 4, _ => decide
  | 5, _ => decide
theorem word_no {k : Int} : (32 : UInt8) ∉ (wordB k).data.toList ∧ (10 : UInt8) ∉ (wordB k).data.toList := by
  have key : ∀ n : Nat, (32 : UInt8) ∉ ((wordsL[n]?).getD []) ∧ (10 : UInt8) ∉ ((wordsL[n]?).getD []) := fun n => by
    match n with
    | 0 | 1 | 2 | 3 | 4 | 5 => decide
    | n + 6 => simp [wordsL]
  exact key k.toNat
structure Neat (x : Fl) : Prop where
  t : 0 ≤ x.t ∧ x.t ≤ 60
  n : 0 ≤ x.n ∧ x.n ≤ 1
  k : 0 ≤ x.k ∧ x.k < 6
theorem Neat.size {x : Fl} (h : Neat x) : (lineB x).size ≤ 12 := by
  rw [line_size]
  have h1 := (small_num h.t.1 h.t.2).2.2
  have h2 := (small_num h.n.1 (by have := h.n.2; omega)).2.2
  have h3 := word_size x.k
  omega
theorem fold_app : ∀ (l : List Fl) (s : ByteArray), (l.foldl (fun s x => s ++ lineB x) s).data.toList = s.data.toList ++ (l.flatMap fun x => (lineB x).data.toList)
  | [], s => by simp
  | x :: l, s => by rw [List.foldl_cons, fold_app l, List.flatMap_cons, app_data, List.append_assoc]
theorem text_data (l : List Fl) : (textB l).data.toList = l.flatMap fun x => (lineB x).data.toList := by
  rw [textB, fold_app]; rfl
theorem text_app (l m : List Fl) : textB (l ++ m) = textB l ++ textB m := by
  apply ext_bytes
  rw [app_data, text_data, text_data, text_data, List.flatMap_append]
theorem text_small : ∀ l : List Fl, (∀ x ∈ l, Neat x) → (textB l).size ≤ 12 * l.length := by
  intro l h
  rw [size_data, text_data]
  induction l with
  | nil => simp
  | cons x l ih =>
    have h1 := (h x (by simp)).size
    rw [size_data] at h1
    have h2 := ih fun y hy => h y (by simp [hy])
    rw [List.flatMap_cons, List.length_append, List.length_cons]; omega
theorem cutc {c : UInt8} {x y u v : List UInt8} (h : x ++ c :: u = y ++ c :: v) (hx : c ∉ x) (hy : c ∉ y) : x = y ∧ u = v := by
  induction x generalizing y with
  | nil => cases y with
    | nil => simpa using h
    | cons d y => simp at h; exact absurd (by simp [← h.1]) hy
  | cons d x ih => cases y with
    | nil => simp at h; exact absurd (by simp [h.1]) hx
    | cons e y =>
      simp only [List.cons_append, List.cons.injEq] at h
      obtain ⟨h1, h2⟩ := ih h.2 (fun h => hx (by simp [h])) (fun h => hy (by simp [h]))
      exact ⟨by rw [h.1, h1], h2⟩
theorem ix_app {l m : List UInt8} {c : UInt8} (h : c ∉ l) : Lib.indexByte (l ++ c :: m) c = (l.length : Int) := by
  have hge := Lib.indexByte_ge (l ++ c :: m) c
  by_cases hm : Lib.indexByte (l ++ c :: m) c = -1
  · exact absurd (by simp) (notin_of_ix hm)
  · obtain ⟨i, hi⟩ : ∃ i : Nat, Lib.indexByte (l ++ c :: m) c = i := ⟨(Lib.indexByte (l ++ c :: m) c).toNat, by omega⟩
    obtain ⟨h1, h2, h3⟩ := split_ix hi
    obtain ⟨e1, _⟩ := cutc h1 h h2
    rw [hi]
    have := congrArg List.length e1
    rw [List.length_take, Nat.min_eq_left (by omega)] at this
    rw [this]
theorem read_text : ∀ (l : List Fl) (out : List Fl), (∀ x ∈ l, Neat x) → rdR (textB l) out = some (out ++ l)
  | [], out, _ => by rw [rdR_nil _ (by simp [textB])]; simp
  | x :: l, out, h => by
    have hx := h x (by simp)
    obtain ⟨a1, a2, _⟩ := small_num hx.t.1 hx.t.2
    obtain ⟨b1, b2, _⟩ := small_num hx.n.1 (by have := hx.n.2; omega)
    obtain ⟨p, hp⟩ : ∃ p : List UInt8, p = (dec x.t).data.toList ++ 32 :: ((wordB x.k).data.toList ++ 32 :: (dec x.n).data.toList) := ⟨_, rfl⟩
    have hdata : (textB (x :: l)).data.toList = p ++ 10 :: (textB l).data.toList := by
      rw [text_data, List.flatMap_cons, ← text_data, line_data, hp]; simp
    have hno : (10 : UInt8) ∉ p := by
      rw [hp]
      simp only [List.mem_append, List.mem_cons, not_or]
      exact ⟨dec_no _ 10 (by decide), by decide, word_no.2, by decide, dec_no _ 10 (by decide)⟩
    have hix : Lib.indexByte (textB (x :: l)).data.toList 10 = (p.length : Int) := by rw [hdata]; exact ix_app hno
    rw [rdR_hit _ p.length hix]
    have e1 : ((textB (x :: l)).extract 0 p.length).data.toList = p := by rw [ext_take, hdata]; simp
    have e2 : (textB (x :: l)).extract (p.length + 1) (textB (x :: l)).size = textB l := by
      apply ext_bytes; rw [ext_drop, hdata]
      rw [show p.length + 1 = p.length + 1 from rfl, List.drop_append]
      simp
    have e3 : pcs ((textB (x :: l)).extract 0 p.length) = [dec x.t, wordB x.k, dec x.n] :=
      pcs_of (by rw [e1, hp]) (dec_no _ 32 (by decide)) word_no.1 (dec_no _ 32 (by decide))
    have hk := kOf_wordB hx.k.1 hx.k.2
    rw [e3, lineP, if_pos ⟨a1, b1, by rw [hk]; exact hx.k.1⟩, e2]
    simp only
    rw [read_text l _ fun y hy => h y (by simp [hy]), a2, b2, hk]
    simp
/- Made scripts are valid for two controllers. -/
theorem lastK_eq (n t : Int) (l : List Fl) (h : ∀ x ∈ l, x.t ≤ t) : downF n t l = lastK n l := by
  have key : ∀ (l : List Fl) (b : Bool), (∀ x ∈ l, x.t ≤ t) → l.foldl (fun is x => if hit n t x then decide (x.k = 3) else is) b = l.foldl (fun is x => if x.n = n ∧ (x.k = 3 ∨ x.k = 4) then decide (x.k = 3) else is) b := by
    intro l
    induction l with
    | nil => intro b _; rfl
    | cons x l ih =>
      intro b h
      have hx := h x (by simp)
      simp only [List.foldl_cons]
      have e : (if hit n t x then decide (x.k = 3) else b) = (if x.n = n ∧ (x.k = 3 ∨ x.k = 4) then decide (x.k = 3) else b) := by
        unfold hit
        by_cases h1 : x.n = n <;> by_cases h2 : x.k = 3 <;> by_cases h3 : x.k = 4 <;> simp [h1, h2, h3, hx]
      rw [e]
      exact ih _ fun y hy => h y (by simp [hy])
  exact key l false h
theorem chkR_snoc (arms : Int) : ∀ (pre l : List Fl) (x : Fl), chkR arms pre l = 0 → bad arms (lastT (pre ++ l)) (downI x.n (pre ++ l)) x = 0 → chkR arms pre (l ++ [x]) = 0
  | pre, [], x, _, h => by
    rw [List.nil_append, chkR, if_pos (by simpa using h), chkR]
  | pre, y :: l, x, h0, h => by
    rw [chkR] at h0
    split at h0
    · rename_i hb
      rw [List.cons_append, chkR, if_pos hb]
      exact chkR_snoc arms (pre ++ [y]) l x h0 (by simpa using h)
    · rename_i hb; exact absurd h0 hb
theorem lastT_le {l : List Fl} {t : Int} (h0 : 0 ≤ t) (h : ∀ x ∈ l, x.t ≤ t) : lastT l ≤ t := by
  unfold lastT
  split
  · rename_i p hp; exact h p (List.mem_of_getLast? hp)
  · exact h0
structure Made (out : List Fl) (u : Int) : Prop where
  few : out.length ≤ 20
  tick : 0 ≤ u ∧ u ≤ 3 * out.length
  neat : ∀ x ∈ out, Neat x ∧ x.t ≤ u
  ok : chkR 2 [] out = 0
theorem scr_made : ∀ (l : List Int) (tick : Int) (out : List Fl), Made out tick → ∃ t, Made (scrL l tick out) t
  | a :: b :: c :: rest, tick, out, h => by
    rw [scrL]
    split
    · rename_i hlt
      have ha0 := Int.emod_nonneg a (show (4 : Int) ≠ 0 by decide)
      have ha1 := Int.emod_lt_of_pos a (show (0 : Int) < 4 by decide)
      have hc0 := Int.emod_nonneg c (show (2 : Int) ≠ 0 by decide)
      have hc1 := Int.emod_lt_of_pos c (show (0 : Int) < 2 by decide)
      have hb0 := Int.emod_nonneg b (show (6 : Int) ≠ 0 by decide)
      have hb1 := Int.emod_lt_of_pos b (show (0 : Int) < 6 by decide)
      have ht := h.tick
      have hdown : downF (c % 2) (tick + a % 4) out = lastK (c % 2) out := lastK_eq _ _ _ fun x hx => by have := (h.neat x hx).2; omega
      have hlast := lastT_le (t := tick) ht.1 fun x hx => (h.neat x hx).2
      refine scr_made rest (tick + a % 4) (out ++ [scrF tick out a b c]) ⟨by simp; omega, by simp; omega, fun x hx => ?_, chkR_snoc 2 [] out _ h.ok ?_⟩
      · rcases List.mem_append.1 hx with hx | hx
        · exact ⟨(h.neat x hx).1, by have := (h.neat x hx).2; omega⟩
        · simp at hx; subst hx
          refine ⟨⟨⟨by simp only [scrF]; omega, by simp only [scrF]; omega⟩, ⟨by simp only [scrF]; omega, by simp only [scrF]; omega⟩, ?_⟩, by simp only [scrF]; omega⟩
          simp only [scrF, scrK]
          constructor <;> (repeat' split) <;> omega
      · rw [List.nil_append]
        simp only [scrF, hdown, scrK, bad, downI]
        cases hd : lastK (c % 2) out <;> simp <;> (repeat' split) <;> first | rfl | omega
    · exact ⟨tick, h⟩
  | [], tick, out, h => ⟨tick, h⟩
  | [_], tick, out, h => ⟨tick, h⟩
  | [_, _], tick, out, h => ⟨tick, h⟩

set_option maxRecDepth 100000 in
set_option maxHeartbeats 0 in
theorem law7_ok (l m : List Int) (hl : l.length < 2 ^ 40) (hm : m.length < 2 ^ 40) (es fs : List (List AE.AV)) (he : es = il l) (hf : fs = il m) :
    AE.ACallG GG Tryd.prog 7 [] [.l 1 es, .l 1 fs] [] (.b true) := by
  refine AE.ACallG.of_walk (fn := Tryd.f7) (c := bodyOf Tryd.f7) GG_stays tabOK Tryd.func7 rfl rfl mixed fun A hA X => ?_
  obtain ⟨f, hF⟩ : ∃ f, f = scrL l 0 [] := ⟨_, rfl⟩
  obtain ⟨g, hG⟩ : ∃ g, g = scrL m 0 [] := ⟨_, rfl⟩
  have m0 : Made [] 0 := ⟨by decide, by decide, by simp, rfl⟩
  obtain ⟨t1, hf1⟩ := scr_made l 0 [] m0
  obtain ⟨t2, hg1⟩ := scr_made m 0 [] m0
  rw [← hF] at hf1
  rw [← hG] at hg1
  have nf : ∀ x ∈ f, Neat x := fun x hx => (hf1.neat x hx).1
  have ng : ∀ x ∈ g, Neat x := fun x hx => (hg1.neat x hx).1
  have nb : ∀ x ∈ f ++ g, Neat x := fun x hx => by
    rcases List.mem_append.1 hx with hx | hx
    · exact nf x hx
    · exact ng x hx
  have cf : checkS 2 f = 0 := by rw [checkS, if_neg (by have := hf1.few; omega)]; exact hf1.ok
  have cg : checkS 2 g = 0 := by rw [checkS, if_neg (by have := hg1.few; omega)]; exact hg1.ok
  have hf20 := hf1.few
  have hg20 := hg1.few
  have lf := text_small f nf
  have lg := text_small g ng
  have lb := text_small (f ++ g) nb
  rw [List.length_append] at lb
  obtain ⟨ff, hff⟩ : ∃ ff, ff = fl f := ⟨_, rfl⟩
  obtain ⟨gg, hgg⟩ : ∃ gg, gg = fl g := ⟨_, rfl⟩
  obtain ⟨bb, hbb⟩ : ∃ bb, bb = fl (f ++ g) := ⟨_, rfl⟩
  obtain ⟨ta, hta⟩ : ∃ t, t = textB f := ⟨_, rfl⟩
  obtain ⟨tb, htb⟩ : ∃ t, t = textB g := ⟨_, rfl⟩
  have tab : ta ++ tb = textB (f ++ g) := by rw [hta, htb, text_app]
  have k16a := script_ok l hl es he ff (by rw [hff, hF])
  have k16b := script_ok m hm fs hf gg (by rw [hgg, hG])
  have iso : ∀ (q : List Fl), (∀ x ∈ q, Neat x) → ∀ x ∈ q, ItoaG GG x.t ∧ ItoaG GG x.n := fun q hq x hx => by
    have := hq x hx
    exact ⟨itoaG _ (by have := this.t; omega) (by have := this.t; omega), itoaG _ (by have := this.n; omega) (by have := this.n; omega)⟩
  have k33a := writeG_ok GG_stays f (by omega) 2 ff hff (fun _ => iso f nf) ta 0 (by rw [writeS, if_pos cf, hta])
  have k33b := writeG_ok GG_stays g (by omega) 2 gg hgg (fun _ => iso g ng) tb 0 (by rw [writeS, if_pos cg, htb])
  have rf := read_text f [] nf
  have rb := read_text (f ++ g) [] nb
  rw [List.nil_append] at rf rb
  have k35a := read_ok ta (by rw [hta]; omega) 2 ff 0 (by rw [hff, readS, hta, if_neg (by omega), rf]; simp [cf]) (by rw [readS, hta, if_neg (by omega), rf]; simp [cf])
  obtain ⟨e2, hE2⟩ : ∃ e2, e2 = checkS 2 (f ++ g) := ⟨_, rfl⟩
  obtain ⟨ys, hys⟩ : ∃ ys, ys = fl (readS 2 (textB (f ++ g))).1 := ⟨_, rfl⟩
  have hye : (readS 2 (textB (f ++ g))).2 = e2 := by
    rw [readS, if_neg (by omega), rb, hE2]
    by_cases h : checkS 2 (f ++ g) = 0 <;> simp [h]
  obtain ⟨sab, hsab⟩ : ∃ s, s = A.cat ta tb := ⟨_, rfl⟩
  have hsab' : sab = textB (f ++ g) := by rw [hsab, ← tab]; subst hA; rfl
  have k35b := read_ok sab (by rw [hsab']; omega) 2 ys e2 (by rw [hsab']; exact hys) (by rw [hsab', hye])
  rw [hsab] at k35b
  obtain ⟨q18, hq18⟩ : ∃ q : Bool, q = true := ⟨_, rfl⟩
  have k18 := faultsFact_ok q18 hq18
  have cq : A.bnot q18 = false := by rw [AE.c_not hA, hq18]; rfl
  obtain ⟨q13, hq13⟩ : ∃ q : Bool, q = true := ⟨_, rfl⟩
  have k13a := equal_ok f f (by omega) ff ff hff hff q13 (by simp [hq13])
  have cq13 : A.bnot q13 = false := by rw [AE.c_not hA, hq13]; rfl
  have k37 := concat_ok f g (by omega) ff gg bb hff hgg hbb
  have k9 := check_ok (f ++ g) (by rw [List.length_append]; omega) 2 bb hbb e2 hE2
  have c0 : A.cmp .neq 0 0 = false := by subst hA; rfl
  have hfit : AE.SFit (A.slen ta) (A.slen tb) := ⟨by subst hA; show (ta.size : Int) + (tb.size : Int) ≤ _; rw [hta, htb]; omega⟩
  by_cases h0 : e2 = 0
  · have ce : A.cmp .neq e2 0 = false := by rw [AE.c_neq hA, h0]; rfl
    have ce2 : A.cmp .eql e2 0 = true := by rw [AE.c_eql hA, h0]; rfl
    have hyb : ys = bb := by rw [hys, hbb, readS, if_neg (by omega), rb]; simp [← hE2, h0]
    have k13b := equal_ok (f ++ g) (f ++ g) (by rw [List.length_append]; omega) ys bb (by rw [hyb, hbb]) hbb q13 (by simp [hq13])
    (refine X.go 500 _ _ ?_; cbv)
    (refine X.calls [] k16a (by cbv) ?_ (by cbv) ?_; focus (cbv <;> ((repeat' apply And.intro) <;> first | rfl | trivial)))
    (refine X.go 500 _ _ ?_; cbv)
    refine X.calls [] k16b (by cbv) ?_ (by cbv) (X.frz 0 _ _ (X.frz 1 _ _ ?_))
    · cbv
    repeat' (first | (refine X.go 500 _ _ ?_; cbv) | (refine X.split _ _ _ _ _ (fun hc => ?_) (fun hc => ?_) <;> first | exact absurd (Eq.trans (Eq.symm (show _ = true by assumption)) hc) (by decide) | exact absurd (Eq.trans (Eq.symm (show _ = false by assumption)) hc) (by decide) | skip) | refine X.need _ _ _ hfit ?_ | (refine X.callsG [] k33a (by cbv) ?_ (by cbv) ?_; focus (cbv <;> ((repeat' apply And.intro) <;> first | rfl | trivial))) | (refine X.callsG [] k33b (by cbv) ?_ (by cbv) ?_; focus (cbv <;> ((repeat' apply And.intro) <;> first | rfl | trivial))) | (refine X.callsG [] k35a (by cbv) ?_ (by cbv) ?_; focus (cbv <;> ((repeat' apply And.intro) <;> first | rfl | trivial))) | (refine X.callsG [] k35b (by cbv) ?_ (by cbv) ?_; focus (cbv <;> ((repeat' apply And.intro) <;> first | rfl | trivial))) | (refine X.calls [] k18 (by cbv) ?_ (by cbv) ?_; focus (cbv <;> ((repeat' apply And.intro) <;> first | rfl | trivial))) | (refine X.calls [] k13a (by cbv) ?_ (by cbv) ?_; focus (cbv <;> ((repeat' apply And.intro) <;> first | rfl | trivial))) | (refine X.callFrz _ _ _ _ _ 2 ?_; cbv; (refine X.calls [] k37 (by cbv) ?_ (by cbv) (X.frz 3 _ _ ?_); focus (cbv <;> ((repeat' apply And.intro) <;> first | rfl | trivial)))) | (refine X.calls [] k9 (by cbv) ?_ (by cbv) ?_; focus (cbv <;> ((repeat' apply And.intro) <;> first | rfl | trivial))) | (refine X.calls [] k13b (by cbv) ?_ (by cbv) ?_; focus (cbv <;> ((repeat' apply And.intro) <;> first | rfl | trivial))) | fail)
    all_goals (refine X.ret _ (X.done rfl ?_); cbv <;> ((repeat' apply And.intro) <;> first | exact hq13 | rfl | trivial))
  · have ce : A.cmp .neq e2 0 = true := by rw [AE.c_neq hA]; simp [h0]
    have ce2 : A.cmp .eql e2 e2 = true := by rw [AE.c_eql hA]; simp
    have hyn : ys = [] := by rw [hys, readS, if_neg (by omega), rb]; simp [← hE2, h0, fl_eq]
    have c3 : A.cmp .eql (A.llen ys) 0 = true := by subst hA; rw [hyn]; rfl
    (refine X.go 500 _ _ ?_; cbv)
    (refine X.calls [] k16a (by cbv) ?_ (by cbv) ?_; focus (cbv <;> ((repeat' apply And.intro) <;> first | rfl | trivial)))
    (refine X.go 500 _ _ ?_; cbv)
    refine X.calls [] k16b (by cbv) ?_ (by cbv) (X.frz 0 _ _ (X.frz 1 _ _ ?_))
    · cbv
    repeat' (first | (refine X.go 500 _ _ ?_; cbv) | (refine X.split _ _ _ _ _ (fun hc => ?_) (fun hc => ?_) <;> first | exact absurd (Eq.trans (Eq.symm (show _ = true by assumption)) hc) (by decide) | exact absurd (Eq.trans (Eq.symm (show _ = false by assumption)) hc) (by decide) | skip) | refine X.need _ _ _ hfit ?_ | (refine X.callsG [] k33a (by cbv) ?_ (by cbv) ?_; focus (cbv <;> ((repeat' apply And.intro) <;> first | rfl | trivial))) | (refine X.callsG [] k33b (by cbv) ?_ (by cbv) ?_; focus (cbv <;> ((repeat' apply And.intro) <;> first | rfl | trivial))) | (refine X.callsG [] k35a (by cbv) ?_ (by cbv) ?_; focus (cbv <;> ((repeat' apply And.intro) <;> first | rfl | trivial))) | (refine X.callsG [] k35b (by cbv) ?_ (by cbv) ?_; focus (cbv <;> ((repeat' apply And.intro) <;> first | rfl | trivial))) | (refine X.calls [] k18 (by cbv) ?_ (by cbv) ?_; focus (cbv <;> ((repeat' apply And.intro) <;> first | rfl | trivial))) | (refine X.calls [] k13a (by cbv) ?_ (by cbv) ?_; focus (cbv <;> ((repeat' apply And.intro) <;> first | rfl | trivial))) | (refine X.callFrz _ _ _ _ _ 2 ?_; cbv; (refine X.calls [] k37 (by cbv) ?_ (by cbv) (X.frz 3 _ _ ?_); focus (cbv <;> ((repeat' apply And.intro) <;> first | rfl | trivial)))) | (refine X.calls [] k9 (by cbv) ?_ (by cbv) ?_; focus (cbv <;> ((repeat' apply And.intro) <;> first | rfl | trivial))) | fail)
    all_goals (refine X.ret _ (X.done rfl ?_); cbv <;> ((repeat' apply And.intro) <;> first | exact c3 | exact hq18 | exact hq13 | rfl | trivial))
end Go.Proofs.YtjbnffclpebkkaaDoor
