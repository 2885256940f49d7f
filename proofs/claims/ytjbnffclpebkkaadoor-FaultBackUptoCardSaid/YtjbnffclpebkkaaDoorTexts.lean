/- Contract: the reference's Script returns the text of a script. -/
import Derived.Test.YtjbnffclpebkkaaDoorStrs2
set_option linter.unusedVariables false
set_option linter.unusedSimpArgs false
namespace Go.Proofs.YtjbnffclpebkkaaDoor
open Go
theorem words2_ok (es : List (List AE.AV)) (he : es = wl) : AE.ACall Tryd.prog 51 [] [] [.row 9 1 es] (.r 0) := by
  refine AE.ACall.of_walk (fn := Tryd.f51) (c := bodyOf Tryd.f51) tabOK Tryd.func51 rfl rfl mixed fun A hA X => ?_
  (refine X.go 500 _ _ ?_; cbv)
  (refine X.ret _ (X.done rfl ?_); cbv)
  ((repeat' apply And.intro) <;> (try first | rfl | trivial))
  rw [he, wl_eq]; rfl
theorem wl_at (k : Int) (h0 : 0 ≤ k) (h1 : k < 6) : wl[k.toNat]? = some [.v (.string (wordB k))] := by
  have hlt6 : k.toNat < 6 := by omega
  rw [wl_eq, wordB]
  generalize k.toNat = m at hlt6
  match m, hlt6 with
  | 0, _ | 1, _ | 2, _ | 3, _ | 4, _ | 5, _ => rfl
  | m + 6, h => omega
/-- Numbers of Go. -/
structure I64 (n : Int) : Prop where
  lo : -9223372036854775808 ≤ n
  hi : n ≤ 9223372036854775807
structure Sane (x : Fl) : Prop where
  t : I64 x.t
  n : I64 x.n
  k0 : 0 ≤ x.k
  k1 : x.k < 6
theorem Sane.size {x : Fl} (h : Sane x) : (lineB x).size ≤ 300 := by
  rw [line_size]
  have := word_size x.k
  have := dec_few x.t h.t.lo h.t.hi
  have := dec_few x.n h.n.lo h.n.hi
  omega

set_option maxRecDepth 100000 in
set_option maxHeartbeats 0 in
theorem refScript_ok (l : List Fl) (hl : l.length < 2 ^ 30) (es : List (List AE.AV)) (he : es = fl l) (hS : ∀ x ∈ l, Sane x) (s : ByteArray) (hs : s = textB l) :
    AE.ACallG GG Tryd.prog 34 [] [.l 3 es] [] (.v (.string s)) := by
  refine AE.ACallG.of_walk (fn := Tryd.f34) (c := bodyOf Tryd.f34) GG_stays tabOK Tryd.func34 rfl rfl mixed fun A hA X => ?_
  have hn : A.llen es = l.length := by subst hA; subst he; simp [AE.std, fl_len]
  obtain ⟨tx, htx⟩ : ∃ tx : Nat → ByteArray, ∀ i, tx i = textB (l.take i) := ⟨_, fun _ => rfl⟩
  have htl : ∀ i, i ≤ l.length → (tx i).size ≤ 300 * i := fun i hi => by rw [htx]; exact text_size l (fun x hx => (hS x hx).size) i hi
  (refine X.go 500 _ _ ?_; cbv)
  refine X.carries (ι := { i : Nat // i ≤ l.length }) (fun i => [(8, .v (.int .i64 i.1)), (3, .v (.string (tx i.1)))]) (fun i => []) (fun i => l.length - i.1) ⟨0, Nat.zero_le _⟩ ?_ fun i B hB => ?_
  · have htx0 : (⟨⟨[]⟩⟩ : ByteArray) = tx 0 := by rw [htx]; rfl
    cbv
    ((repeat' apply And.intro) <;> (try first | rfl | trivial)) <;> exact htx0
  obtain ⟨i, hi⟩ := i
  obtain ⟨t, ht⟩ : ∃ t, t = tx i := ⟨_, rfl⟩
  simp only [← ht]
  (refine X.go 500 _ _ ?_; cbv)
  (refine X.split _ _ _ _ _ (fun hc => ?_) (fun hc => ?_) <;> first | exact absurd (Eq.trans (Eq.symm (show _ = true by assumption)) hc) (by decide) | exact absurd (Eq.trans (Eq.symm (show _ = false by assumption)) hc) (by decide) | skip)
  · have hlt : i < l.length := AE.ltN hA hn hc
    obtain ⟨x, hx⟩ : ∃ x, x = l[i] := ⟨_, rfl⟩
    have hxm : x ∈ l := hx ▸ List.getElem_mem hlt
    have hge : es[i]? = some (fcells x) := by rw [he, fl_get l i hlt, hx]
    have hadd := AE.addN hA (show i < 2 ^ 62 by omega)
    have hSx := hS x hxm
    obtain ⟨dt, hdt⟩ : ∃ dt, dt = dec x.t := ⟨_, rfl⟩
    obtain ⟨dn, hdn⟩ : ∃ dn, dn = dec x.n := ⟨_, rfl⟩
    have hi1 := itoa_ok x.t hSx.t.lo hSx.t.hi dt hdt
    have hi2 := itoa_ok x.n hSx.n.lo hSx.n.hi dn hdn
    have hf1 := dec_few x.t hSx.t.lo hSx.t.hi
    have hf2 := dec_few x.n hSx.n.lo hSx.n.hi
    rw [← hdt] at hf1
    rw [← hdn] at hf2
    obtain ⟨wd, hwd⟩ : ∃ wd, wd = wordB x.k := ⟨_, rfl⟩
    have hwds : wd.size ≤ 5 := hwd ▸ word_size x.k
    obtain ⟨w, hw⟩ : ∃ w, w = wl := ⟨_, rfl⟩
    have hkn : x.k = ((x.k.toNat : Nat) : Int) := by have := hSx.k0; omega
    have hwk : w[x.k.toNat]? = some [.v (.string wd)] := by rw [hw, hwd]; exact wl_at _ hSx.k0 hSx.k1
    obtain ⟨kn, hkd⟩ : ∃ kn, kn = x.k.toNat := ⟨_, rfl⟩
    rw [← hkd] at hwk hkn
    have hfit : ∀ a b : ByteArray, a.size ≤ 2 ^ 62 → b.size ≤ 1000 → AE.SFit (A.slen a) (A.slen b) := fun a b h1 h2 => by
      subst hA; constructor; simp only [AE.std]; omega
    obtain ⟨s1, hs1⟩ : ∃ s1, s1 = A.cat dt ⟨⟨[32]⟩⟩ := ⟨_, rfl⟩
    obtain ⟨s2, hs2⟩ : ∃ s2, s2 = A.cat s1 wd := ⟨_, rfl⟩
    obtain ⟨s3, hs3⟩ : ∃ s3, s3 = A.cat s2 ⟨⟨[32]⟩⟩ := ⟨_, rfl⟩
    obtain ⟨s4, hs4⟩ : ∃ s4, s4 = A.cat s3 dn := ⟨_, rfl⟩
    obtain ⟨s5, hs5⟩ : ∃ s5, s5 = A.cat s4 ⟨⟨[10]⟩⟩ := ⟨_, rfl⟩
    have hz1 : s1.size ≤ 101 := by subst hA; rw [hs1]; show (dt ++ _).size ≤ _; rw [ByteArray.size_append]; have : (⟨⟨[32]⟩⟩ : ByteArray).size = 1 := rfl; omega
    have hz2 : s2.size ≤ 106 := by subst hA; rw [hs2]; show (s1 ++ _).size ≤ _; rw [ByteArray.size_append]; omega
    have hz3 : s3.size ≤ 107 := by subst hA; rw [hs3]; show (s2 ++ _).size ≤ _; rw [ByteArray.size_append]; have : (⟨⟨[32]⟩⟩ : ByteArray).size = 1 := rfl; omega
    have hz4 : s4.size ≤ 207 := by subst hA; rw [hs4]; show (s3 ++ _).size ≤ _; rw [ByteArray.size_append]; omega
    have hz5 : s5.size ≤ 208 := by subst hA; rw [hs5]; show (s4 ++ _).size ≤ _; rw [ByteArray.size_append]; have : (⟨⟨[10]⟩⟩ : ByteArray).size = 1 := rfl; omega
    have hline : s5 = lineB x := by subst hA; rw [hs5, hs4, hs3, hs2, hs1, hdt, hdn, hwd]; rfl
    have hft : t.size ≤ 2 ^ 62 := by rw [ht]; have := htl i hi; omega
    have hf1' := hfit dt ⟨⟨[32]⟩⟩ (by omega) (by decide)
    have hf2' := hfit s1 wd (by omega) (by omega)
    have hf3' := hfit s2 ⟨⟨[32]⟩⟩ (by omega) (by decide)
    have hf4' := hfit s3 dn (by omega) (by omega)
    have hf5' := hfit s4 ⟨⟨[10]⟩⟩ (by omega) (by decide)
    have hf6' := hfit t s5 hft (by omega)
    have happ : A.cat t s5 = tx (i + 1) := by subst hA; rw [ht, htx, htx, text_succ l i hlt, ← hx, hline]; rfl
    rw [hs5, hs4, hs3, hs2, hs1] at happ hf6'
    rw [hs1] at hf2'
    rw [hs2, hs1] at hf3'
    rw [hs3, hs2, hs1] at hf4'
    rw [hs4, hs3, hs2, hs1] at hf5'
    have h51 := words2_ok w hw
    (refine X.go 500 _ _ ?_; cbv)
    refine X.idx _ _ _ _ _ _ i _ hge rfl ?_
    repeat' (first | (refine X.go 500 _ _ ?_; cbv) | refine X.draw _ _ _ (X.frzB 0 _ _ (by simp) ?_) | refine X.draw _ _ _ ?_ | refine X.fork _ _ ?_ ?_ | (refine X.callsG [] hi1 (by cbv) ?_ (by cbv) ?_; focus (cbv <;> ((repeat' apply And.intro) <;> first | rfl | trivial))) | (refine X.callsG [] hi2 (by cbv) ?_ (by cbv) ?_; focus (cbv <;> ((repeat' apply And.intro) <;> first | rfl | trivial))) | (refine X.calls [] h51 (by cbv) ?_ (by cbv) (X.frz 1 _ _ ?_); focus (cbv <;> ((repeat' apply And.intro) <;> first | rfl | trivial))) | refine X.idx _ _ _ _ _ _ kn _ hwk hkn ?_ | refine X.need _ _ _ hf1' ?_ | refine X.need _ _ _ hf2' ?_ | refine X.need _ _ _ hf3' ?_ | refine X.need _ _ _ hf4' ?_ | refine X.need _ _ _ hf5' ?_ | refine X.need _ _ _ hf6' ?_)
    all_goals (refine hB ⟨i + 1, hlt⟩ _ (by show l.length - (i + 1) < l.length - i; omega) ?_; clear hB; cbv; ((repeat' apply And.intro) <;> (try first | rfl | trivial)) <;> first | exact hadd | exact happ)
  · have hge : i = l.length := by have := AE.geN hA hn hc; omega
    have hrz : t = s := by rw [ht, htx, hge, List.take_length, hs]
    (refine X.go 500 _ _ ?_; cbv)
    refine X.ret _ (X.done rfl ?_)
    cbv
    (repeat' apply And.intro) <;> first | exact hrz | trivial
end Go.Proofs.YtjbnffclpebkkaaDoor
