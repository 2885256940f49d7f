import Derived.Test.YtjbnffclpebkkaaRefNat
set_option linter.unusedVariables false
namespace Go.Proofs.Ytjbnffclpebkkaa
open Go

def sumStep (A : AE.Ari) (h b : Int) : Int := A.bin .mul .u64 (A.bin .xor .u64 h (A.conv .u64 b)) 1099511628211
theorem sumTo_ex : ∃ g : AE.Ari → List Int → Nat → Int, ∀ A bs i, g A bs i = (bs.take i).foldl (sumStep A) 14695981039346656037 := ⟨_, fun _ _ _ => rfl⟩
noncomputable def sumTo : AE.Ari → List Int → Nat → Int := sumTo_ex.choose
theorem sumTo_eq (A : AE.Ari) (bs : List Int) (i : Nat) : sumTo A bs i = (bs.take i).foldl (sumStep A) 14695981039346656037 := sumTo_ex.choose_spec A bs i
def bytesL (bs : List Int) : List (List AE.AV) := bs.map fun b => [.v (.int .u8 b)]
noncomputable def sumR (A : AE.Ari) (bs : List Int) : Int := A.bin .xor .u64 (sumTo A bs bs.length) (A.bin .shr .u64 (sumTo A bs bs.length) 29)

theorem sumTo_succ (A : AE.Ari) (bs : List Int) (i : Nat) (h : i < bs.length) : sumTo A bs (i + 1) = sumStep A (sumTo A bs i) bs[i] := by
  simp only [sumTo_eq]
  rw [List.take_add_one, List.getElem?_eq_getElem h, List.foldl_append]
  rfl

theorem sum_ok (bs : List Int) (hlen : bs.length < 2 ^ 62) : AE.ACall Try.prog 6 [] [.l 1 (bytesL bs)] [] (.v (.int .u64 (sumR AE.std bs))) := by
  obtain ⟨l, hl⟩ : ∃ l, l = bytesL bs := ⟨_, rfl⟩
  obtain ⟨r, hr⟩ : ∃ r, r = sumR AE.std bs := ⟨_, rfl⟩
  rw [← hl, ← hr]
  refine AE.ACall.of_walk (fn := Try.f6) (c := bodyOf Try.f6) tabOK Try.func6 rfl rfl mixed fun A hA X => ?_
  have hn : AE.std.llen l = bs.length := by subst hl; simp [AE.std, bytesL]
  refine X.go 500 _ _ ?_
  cbv
  refine X.carries (ι := { i : Nat // i ≤ bs.length }) (fun i => [(8, .v (.int .i64 i.1)), (3, .v (.int .u64 (sumTo A bs i.1)))]) (fun _ => []) (fun i => bs.length - i.1) ⟨0, Nat.zero_le _⟩ ?_ fun i B hB => ?_
  · cbv
    exact ⟨⟨rfl, congrArg (fun z => AE.AV.v (.int .u64 z)) (show (14695981039346656037 : Int) = sumTo A bs 0 by rw [sumTo_eq]; rfl), rfl, rfl, trivial⟩, trivial⟩
  · obtain ⟨i, hi⟩ := i
    refine X.go 500 _ _ ?_
    cbv
    refine X.split _ _ _ _ _ (fun hc => ?_) (fun hc => ?_)
    · have hlt : i < bs.length := by subst hA; simpa [AE.std, AE.cmpI, hn, hl, bytesL] using hc
      obtain ⟨b, hb⟩ : ∃ b, b = bs[i] := ⟨_, rfl⟩
      refine X.go 500 _ _ ?_
      cbv
      refine X.idx _ _ _ _ _ _ i [.v (.int .u8 b)] (by simp [hl, bytesL, hlt, hb]) rfl ?_
      refine X.go 500 _ _ ?_
      cbv
      refine hB ⟨i + 1, hlt⟩ _ (by show bs.length - (i + 1) < bs.length - i; omega) ?_
      cbv
      refine ⟨⟨rfl, ?_, rfl, ?_, trivial⟩, trivial⟩
      · refine congrArg (fun z => AE.AV.v (.int .u64 z)) (show _ = sumTo A bs (i + 1) from ?_)
        rw [sumTo_succ _ _ _ hlt, ← hb]; rfl
      · have : A.bin .add .i64 (i : Int) 1 = ((i + 1 : Nat) : Int) := by subst hA; rw [AE.std_add] <;> omega
        exact congrArg (fun z => AE.AV.v (.int .i64 z)) this
    · have hge : i = bs.length := by
        have : ¬ i < bs.length := by subst hA; simpa [AE.std, AE.cmpI, hn, hl, bytesL] using hc
        omega
      refine X.go 500 _ _ ?_
      cbv
      refine X.need _ _ _ (by decide) ?_
      refine X.go 500 _ _ ?_
      cbv
      refine X.ret _ ?_
      refine X.done rfl ?_
      cbv
      subst hA
      rw [hr, sumR, ← hge]; first | rfl | exact ⟨rfl, trivial⟩ | (show _ = _; rfl)

def ints (l : List UInt8) : List Int := l.map fun b => (b.toNat : Int)
theorem bytesL_ints (l : List UInt8) : bytesL (ints l) = bl l := by simp [bytesL, ints, bl_eq]
noncomputable def sumI (l : List UInt8) : Int := sumR AE.std (ints l)
theorem worldSum_ok (l : List UInt8) (hlen : l.length < 2 ^ 62) (vs : List (List AE.AV)) (hv : vs = bl l) (r : Int) (hr : r = sumI l) : AE.ACall Try.prog 6 [] [.l 1 vs] [] (.v (.int .u64 r)) := by
  have := sum_ok (ints l) (by simpa [ints] using hlen)
  rw [bytesL_ints, ← hv] at this
  rw [hr]; exact this

theorem sumTo_range (bs : List Int) (i : Nat) : 0 ≤ sumTo AE.std bs i ∧ sumTo AE.std bs i < 18446744073709551616 := by
  simp only [sumTo_eq]
  rcases List.eq_nil_or_concat (bs.take i) with h | ⟨m, x, h⟩
  · rw [h]; decide
  · rw [h, List.concat_eq_append, List.foldl_append]
    simp only [List.foldl_cons, List.foldl_nil, sumStep]
    show 0 ≤ IntKind.wrap .u64 _ ∧ IntKind.wrap .u64 _ < _
    rw [AE.wrap_u64]
    omega

theorem refSum_ok (l : List UInt8) (hlen : l.length < 2 ^ 62) (s : ByteArray) (hs : s = S l) (r : Int) (hr : r = sumI l) : AE.ACall Try.prog 7 [] [.v (.string s)] [] (.v (.int .u64 r)) := by
  refine AE.ACall.of_walk (fn := Try.f7) (c := bodyOf Try.f7) tabOK Try.func7 rfl rfl mixed fun A hA X => ?_
  have hsz : s.size = l.length := by rw [hs, S_size]
  have hn : A.slen s = l.length := by subst hA; rw [← hsz]; rfl
  obtain ⟨il, hildef⟩ : ∃ il, il = ints l := ⟨_, rfl⟩
  have hil : il.length = l.length := by rw [hildef]; simp [ints]
  refine X.go 500 _ _ ?_
  cbv
  refine X.carries (ι := { i : Nat // i ≤ l.length }) (fun i => [(7, .v (.int .i64 i.1)), (3, .v (.int .u64 (sumTo A il i.1)))]) (fun _ => []) (fun i => l.length - i.1) ⟨0, Nat.zero_le _⟩ ?_ fun i B hB => ?_
  · cbv <;> ((repeat' apply And.intro) <;> first | rfl | trivial | exact congrArg (fun z => AE.AV.v (.int .u64 z)) (show (14695981039346656037 : Int) = sumTo A il 0 by rw [sumTo_eq]; rfl))
  obtain ⟨i, hi⟩ := i
  obtain ⟨h0, hh0⟩ : ∃ h0, h0 = sumTo A il i := ⟨_, rfl⟩
  simp only [← hh0]
  refine X.go 500 _ _ ?_
  cbv
  refine X.split _ _ _ _ _ (fun hc => ?_) (fun hc => ?_)
  · have hlt : i < l.length := by
      have h5 : A.cmp .lss (i : Int) (A.slen s) = true := hc
      rw [hn] at h5
      have : (i : Int) < (l.length : Int) := by subst hA; simpa [AE.std, AE.cmpI] using h5
      omega
    obtain ⟨b, hb⟩ : ∃ b : Int, b = (l[i]).toNat := ⟨_, rfl⟩
    have hidx : A.sidx s (i : Int) = b := by
      subst hA; rw [hb, hs]
      show AE.bAt (S l) (i : Int) = _
      simp [AE.bAt, S_eq, hlt]
    have hin : AE.InR (i : Int) (A.slen s) := by rw [hn]; exact ⟨Int.natCast_nonneg _, by exact_mod_cast hlt⟩
    refine X.go 500 _ _ ?_
    cbv
    refine X.need _ _ _ hin ?_
    refine X.go 500 _ _ ?_
    cbv
    obtain ⟨h1, hh1⟩ : ∃ h1, h1 = sumTo A il (i + 1) := ⟨_, rfl⟩
    have hstep : A.bin .mul .u64 (A.bin .xor .u64 h0 (A.conv .u64 (A.sidx s (i : Int)))) 1099511628211 = h1 := by
      rw [hh1, sumTo_succ _ _ _ (by rw [hil]; exact hlt), hidx, ← hh0, sumStep]
      simp only [hildef, ints, List.getElem_map, hb]
    refine hB ⟨i + 1, hlt⟩ _ (by show l.length - (i + 1) < l.length - i; omega) ?_
    have hadd : A.bin .add .i64 (i : Int) 1 = ((i + 1 : Nat) : Int) := by subst hA; rw [AE.std_add] <;> omega
    cbv <;> ((repeat' apply And.intro) <;> first | rfl | trivial | exact congrArg (fun z => AE.AV.v (.int .i64 z)) hadd | exact congrArg (fun z => AE.AV.v (.int .u64 z)) (show _ = sumTo A il (i + 1) from hstep.trans hh1))
  have hge : i = l.length := by
    have h5 : A.cmp .lss (i : Int) (A.slen s) = false := hc
    rw [hn] at h5
    have : (l.length : Int) ≤ (i : Int) := by subst hA; simpa [AE.std, AE.cmpI] using h5
    omega
  refine X.go 500 _ _ ?_
  cbv
  refine X.need _ _ _ trivial ?_
  refine X.go 500 _ _ ?_
  cbv
  refine X.ret _ (X.done rfl ?_)
  cbv
  refine ⟨?_, trivial⟩
  have : A.bin .xor .u64 h0 (A.bin .quo .u64 h0 536870912) = r := by
    subst hA
    have hrg := sumTo_range il i
    rw [← hh0] at hrg
    have e : AE.std.bin .quo .u64 h0 536870912 = AE.std.bin .shr .u64 h0 29 := by
      show IntKind.wrap .u64 (Int.tdiv h0 536870912) = Int.fdiv h0 (2 ^ min (29 : Int).toNat 64)
      have e2 : (2 : Int) ^ min (29 : Int).toNat 64 = 536870912 := by decide
      rw [e2, AE.wrap_u64, Int.fdiv_eq_ediv_of_nonneg _ (by omega), Int.tdiv_eq_ediv_of_nonneg hrg.1]
      omega
    rw [e, hr, sumI, sumR, ← hildef, hh0, hge, hil]
  exact congrArg (fun z => AE.AV.v (.int .u64 z)) this
end Go.Proofs.Ytjbnffclpebkkaa
