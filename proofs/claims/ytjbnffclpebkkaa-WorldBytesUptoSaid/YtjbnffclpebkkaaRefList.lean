import Derived.Test.YtjbnffclpebkkaaRefParts
set_option linter.unusedVariables false
set_option maxRecDepth 4000
namespace Go.Proofs.Ytjbnffclpebkkaa
open Go


theorem list19_ok (l : List ArmS) (vs : List (List AE.AV)) (hv : vs = lsAv ArmS.av l) (fn : Nat) (hsum : (l.map ArmS.room).sum < 2 ^ 46) (hcount : l.length ≤ (l.map ArmS.room).sum) (hf : ∀ x ∈ l, (ArmS.L x).length ≤ ArmS.room x) (r : ByteArray) (hr : r = S (lsL ArmS.L l))
    (each : ∀ x ∈ l, ∀ r, r = S (ArmS.L x) → AE.ACall Try.prog fn [] [.a (ArmS.av x)] [] (.v (.string r))) :
    AE.ACall Try.prog 19 [] [.l 4 vs, .f fn []] [] (.v (.string r)) := by
  refine AE.ACall.of_walk (fn := Try.f19) (c := bodyOf Try.f19) tabOK Try.func19 rfl rfl mixed fun A hA X => ?_
  obtain ⟨z, hz⟩ : ∃ z : Int, z = l.length := ⟨_, rfl⟩
  have hn : A.llen vs = z := by subst hA; rw [hv, hz]; simp [AE.std, lsAv_eq]
  obtain ⟨pre, hpre⟩ : ∃ pre, pre = natL l.length := ⟨_, rfl⟩
  have hpl : pre.length ≤ 10 := by rw [hpre]; exact natL_len _ (by omega)
  have hpz : intL z = pre := by rw [hpre, intL, u64_nat hz (by omega)]
  obtain ⟨r0, hr0⟩ : ∃ r, r = S pre := ⟨_, rfl⟩
  refine X.go 500 _ _ ?_
  cbv
  refine X.calls [] (refNat_ok z r0 (by rw [hr0, hpz])) (by cbv) (by cbv <;> ((repeat' apply And.intro) <;> first | rfl | trivial | exact congrArg (fun z => AE.AV.v (.int .i64 z)) hn)) (by cbv) ?_
  refine X.go 500 _ _ ?_
  cbv
  refine X.carries (ι := { i : Nat // i ≤ l.length }) (fun i => [(13, .v (.int .i64 i.1)), (5, .v (.string (S (upG pre ArmS.L l i.1))))]) (fun i => []) (fun i => l.length - i.1) ⟨0, Nat.zero_le _⟩ ?_ fun i B hB => ?_
  · cbv
    (repeat' apply And.intro) <;> try first | rfl | trivial
    all_goals exact congrArg (fun z => AE.AV.v (.string z)) (show r0 = S (upG pre ArmS.L l 0) from hr0.trans (by rw [upG_zero]))
  obtain ⟨i, hi⟩ := i
  obtain ⟨g, hg⟩ : ∃ g, g = upG pre ArmS.L l i := ⟨_, rfl⟩
  obtain ⟨si, hsi⟩ : ∃ si, si = S g := ⟨_, rfl⟩
  simp only [← hg, ← hsi]
  refine X.go 500 _ _ ?_
  cbv
  refine X.split _ _ _ _ _ (fun hc => ?_) (fun hc => ?_)
  · have hlt : i < l.length := by
      have h5 : A.cmp .lss (i : Int) (A.llen vs) = true := hc
      rw [hn, hz] at h5
      have : (i : Int) < (l.length : Int) := by subst hA; simpa [AE.std, AE.cmpI] using h5
      omega
    obtain ⟨x, hx⟩ : ∃ x, x = l[i] := ⟨_, rfl⟩
    have hmem : x ∈ l := by rw [hx]; exact List.getElem_mem hlt
    have hroom2 := upG_room pre ArmS.L ArmS.room l hf i hlt
    rw [← hx, ← hg] at hroom2
    have hfx := hf x hmem
    obtain ⟨rx, hrx⟩ : ∃ rx, rx = S (ArmS.L x) := ⟨_, rfl⟩
    have hsucc : upG pre ArmS.L l (i + 1) = g ++ ArmS.L x := by rw [upG_succ _ _ _ _ hlt, ← hg, hx]
    have hcall := each x hmem rx hrx
    have hfit : AE.SFit (A.slen si) (A.slen rx) := by subst hA; constructor; simp only [AE.std, hsi, hrx, S_size]; omega
    obtain ⟨s2, hs2⟩ : ∃ s, s = S (upG pre ArmS.L l (i + 1)) := ⟨_, rfl⟩
    have ecat : A.cat si rx = s2 := by subst hA; rw [hs2, hsucc, hsi, hrx, ← S_app]; rfl
    refine X.go 500 _ _ ?_
    cbv
    refine X.idx _ _ _ _ _ _ i (ArmS.av x) (by rw [hv, hx]; simp [lsAv_eq, hlt]) rfl ?_
    have ecat2 : s2 = S (upG pre ArmS.L l (i + 1)) := hs2
    clear hx hrx hsucc hs2 hfx
    obtain ⟨xq, xv, power, holds⟩ := x
    simp only [ArmS.av] at hcall ⊢
    refine X.go 500 _ _ ?_
    cbv
    refine X.calls [] hcall (by cbv) (by cbv <;> ((repeat' apply And.intro) <;> first | rfl | trivial)) (by cbv) ?_
    refine X.go 500 _ _ ?_
    cbv
    refine X.need _ _ _ hfit ?_
    refine X.go 500 _ _ ?_
    cbv
    refine hB ⟨i + 1, hlt⟩ _ (by show l.length - (i + 1) < l.length - i; omega) ?_
    have hadd : A.bin .add .i64 (i : Int) 1 = ((i + 1 : Nat) : Int) := by subst hA; rw [AE.std_add] <;> omega
    cbv
    (repeat' apply And.intro) <;> try first | rfl | trivial | exact congrArg (fun z => AE.AV.v (.int .i64 z)) hadd
    all_goals exact congrArg (fun z => AE.AV.v (.string z)) (show A.cat si rx = S (upG pre ArmS.L l (i + 1)) from ecat.trans ecat2)
  have hge : i = l.length := by
    have h5 : A.cmp .lss (i : Int) (A.llen vs) = false := hc
    rw [hn, hz] at h5
    have : (l.length : Int) ≤ (i : Int) := by subst hA; simpa [AE.std, AE.cmpI] using h5
    omega
  have hfin : si = r := by rw [hsi, hg, hr, upG_end _ _ _ hge, lsL, hpre]
  subst hfin
  refine X.go 500 _ _ ?_
  cbv
  refine X.ret _ (X.done rfl ?_)
  cbv


theorem list20_ok (l : List Fr) (vs : List (List AE.AV)) (hv : vs = lsAv Fr.av l) (fn : Nat) (hsum : (l.map Fr.room).sum < 2 ^ 46) (hcount : l.length ≤ (l.map Fr.room).sum) (hf : ∀ x ∈ l, (Fr.L x).length ≤ Fr.room x) (r : ByteArray) (hr : r = S (lsL Fr.L l))
    (each : ∀ x ∈ l, ∀ r, r = S (Fr.L x) → AE.ACall Try.prog fn [] [.a (Fr.av x)] [] (.v (.string r))) :
    AE.ACall Try.prog 20 [] [.l 10 vs, .f fn []] [] (.v (.string r)) := by
  refine AE.ACall.of_walk (fn := Try.f20) (c := bodyOf Try.f20) tabOK Try.func20 rfl rfl mixed fun A hA X => ?_
  obtain ⟨z, hz⟩ : ∃ z : Int, z = l.length := ⟨_, rfl⟩
  have hn : A.llen vs = z := by subst hA; rw [hv, hz]; simp [AE.std, lsAv_eq]
  obtain ⟨pre, hpre⟩ : ∃ pre, pre = natL l.length := ⟨_, rfl⟩
  have hpl : pre.length ≤ 10 := by rw [hpre]; exact natL_len _ (by omega)
  have hpz : intL z = pre := by rw [hpre, intL, u64_nat hz (by omega)]
  obtain ⟨r0, hr0⟩ : ∃ r, r = S pre := ⟨_, rfl⟩
  refine X.go 500 _ _ ?_
  cbv
  refine X.calls [] (refNat_ok z r0 (by rw [hr0, hpz])) (by cbv) (by cbv <;> ((repeat' apply And.intro) <;> first | rfl | trivial | exact congrArg (fun z => AE.AV.v (.int .i64 z)) hn)) (by cbv) ?_
  refine X.go 500 _ _ ?_
  cbv
  refine X.carries (ι := { i : Nat // i ≤ l.length }) (fun i => [(13, .v (.int .i64 i.1)), (5, .v (.string (S (upG pre Fr.L l i.1))))]) (fun i => []) (fun i => l.length - i.1) ⟨0, Nat.zero_le _⟩ ?_ fun i B hB => ?_
  · cbv
    (repeat' apply And.intro) <;> try first | rfl | trivial
    all_goals exact congrArg (fun z => AE.AV.v (.string z)) (show r0 = S (upG pre Fr.L l 0) from hr0.trans (by rw [upG_zero]))
  obtain ⟨i, hi⟩ := i
  obtain ⟨g, hg⟩ : ∃ g, g = upG pre Fr.L l i := ⟨_, rfl⟩
  obtain ⟨si, hsi⟩ : ∃ si, si = S g := ⟨_, rfl⟩
  simp only [← hg, ← hsi]
  refine X.go 500 _ _ ?_
  cbv
  refine X.split _ _ _ _ _ (fun hc => ?_) (fun hc => ?_)
  · have hlt : i < l.length := by
      have h5 : A.cmp .lss (i : Int) (A.llen vs) = true := hc
      rw [hn, hz] at h5
      have : (i : Int) < (l.length : Int) := by subst hA; simpa [AE.std, AE.cmpI] using h5
      omega
    obtain ⟨x, hx⟩ : ∃ x, x = l[i] := ⟨_, rfl⟩
    have hmem : x ∈ l := by rw [hx]; exact List.getElem_mem hlt
    have hroom2 := upG_room pre Fr.L Fr.room l hf i hlt
    rw [← hx, ← hg] at hroom2
    have hfx := hf x hmem
    obtain ⟨rx, hrx⟩ : ∃ rx, rx = S (Fr.L x) := ⟨_, rfl⟩
    have hsucc : upG pre Fr.L l (i + 1) = g ++ Fr.L x := by rw [upG_succ _ _ _ _ hlt, ← hg, hx]
    have hcall := each x hmem rx hrx
    have hfit : AE.SFit (A.slen si) (A.slen rx) := by subst hA; constructor; simp only [AE.std, hsi, hrx, S_size]; omega
    obtain ⟨s2, hs2⟩ : ∃ s, s = S (upG pre Fr.L l (i + 1)) := ⟨_, rfl⟩
    have ecat : A.cat si rx = s2 := by subst hA; rw [hs2, hsucc, hsi, hrx, ← S_app]; rfl
    refine X.go 500 _ _ ?_
    cbv
    refine X.idx _ _ _ _ _ _ i (Fr.av x) (by rw [hv, hx]; simp [lsAv_eq, hlt]) rfl ?_
    have ecat2 : s2 = S (upG pre Fr.L l (i + 1)) := hs2
    clear hx hrx hsucc hs2 hfx
    obtain ⟨⟨⟨n1, a1, b1⟩, ⟨n2, a2, b2⟩⟩, half, ⟨n3, a3, b3⟩⟩ := x
    simp only [Fr.av, Q.avE, List.cons_append, List.nil_append] at hcall ⊢
    refine X.go 500 _ _ ?_
    cbv
    refine X.calls [] hcall (by cbv) (by cbv <;> ((repeat' apply And.intro) <;> first | rfl | trivial)) (by cbv) ?_
    refine X.go 500 _ _ ?_
    cbv
    refine X.need _ _ _ hfit ?_
    refine X.go 500 _ _ ?_
    cbv
    refine hB ⟨i + 1, hlt⟩ _ (by show l.length - (i + 1) < l.length - i; omega) ?_
    have hadd : A.bin .add .i64 (i : Int) 1 = ((i + 1 : Nat) : Int) := by subst hA; rw [AE.std_add] <;> omega
    cbv
    (repeat' apply And.intro) <;> try first | rfl | trivial | exact congrArg (fun z => AE.AV.v (.int .i64 z)) hadd
    all_goals exact congrArg (fun z => AE.AV.v (.string z)) (show A.cat si rx = S (upG pre Fr.L l (i + 1)) from ecat.trans ecat2)
  have hge : i = l.length := by
    have h5 : A.cmp .lss (i : Int) (A.llen vs) = false := hc
    rw [hn, hz] at h5
    have : (l.length : Int) ≤ (i : Int) := by subst hA; simpa [AE.std, AE.cmpI] using h5
    omega
  have hfin : si = r := by rw [hsi, hg, hr, upG_end _ _ _ hge, lsL, hpre]
  subst hfin
  refine X.go 500 _ _ ?_
  cbv
  refine X.ret _ (X.done rfl ?_)
  cbv


theorem list22_ok (l : List V2) (vs : List (List AE.AV)) (hv : vs = lsAv V2.av l) (fn : Nat) (hsum : (l.map V2.room).sum < 2 ^ 46) (hcount : l.length ≤ (l.map V2.room).sum) (hf : ∀ x ∈ l, (V2.L x).length ≤ V2.room x) (r : ByteArray) (hr : r = S (lsL V2.L l))
    (each : ∀ x ∈ l, ∀ r, r = S (V2.L x) → AE.ACall Try.prog fn [] [.a (V2.av x)] [] (.v (.string r))) :
    AE.ACall Try.prog 22 [] [.l 6 vs, .f fn []] [] (.v (.string r)) := by
  refine AE.ACall.of_walk (fn := Try.f22) (c := bodyOf Try.f22) tabOK Try.func22 rfl rfl mixed fun A hA X => ?_
  obtain ⟨z, hz⟩ : ∃ z : Int, z = l.length := ⟨_, rfl⟩
  have hn : A.llen vs = z := by subst hA; rw [hv, hz]; simp [AE.std, lsAv_eq]
  obtain ⟨pre, hpre⟩ : ∃ pre, pre = natL l.length := ⟨_, rfl⟩
  have hpl : pre.length ≤ 10 := by rw [hpre]; exact natL_len _ (by omega)
  have hpz : intL z = pre := by rw [hpre, intL, u64_nat hz (by omega)]
  obtain ⟨r0, hr0⟩ : ∃ r, r = S pre := ⟨_, rfl⟩
  refine X.go 500 _ _ ?_
  cbv
  refine X.calls [] (refNat_ok z r0 (by rw [hr0, hpz])) (by cbv) (by cbv <;> ((repeat' apply And.intro) <;> first | rfl | trivial | exact congrArg (fun z => AE.AV.v (.int .i64 z)) hn)) (by cbv) ?_
  refine X.go 500 _ _ ?_
  cbv
  refine X.carries (ι := { i : Nat // i ≤ l.length }) (fun i => [(13, .v (.int .i64 i.1)), (5, .v (.string (S (upG pre V2.L l i.1))))]) (fun i => []) (fun i => l.length - i.1) ⟨0, Nat.zero_le _⟩ ?_ fun i B hB => ?_
  · cbv
    (repeat' apply And.intro) <;> try first | rfl | trivial
    all_goals exact congrArg (fun z => AE.AV.v (.string z)) (show r0 = S (upG pre V2.L l 0) from hr0.trans (by rw [upG_zero]))
  obtain ⟨i, hi⟩ := i
  obtain ⟨g, hg⟩ : ∃ g, g = upG pre V2.L l i := ⟨_, rfl⟩
  obtain ⟨si, hsi⟩ : ∃ si, si = S g := ⟨_, rfl⟩
  simp only [← hg, ← hsi]
  refine X.go 500 _ _ ?_
  cbv
  refine X.split _ _ _ _ _ (fun hc => ?_) (fun hc => ?_)
  · have hlt : i < l.length := by
      have h5 : A.cmp .lss (i : Int) (A.llen vs) = true := hc
      rw [hn, hz] at h5
      have : (i : Int) < (l.length : Int) := by subst hA; simpa [AE.std, AE.cmpI] using h5
      omega
    obtain ⟨x, hx⟩ : ∃ x, x = l[i] := ⟨_, rfl⟩
    have hmem : x ∈ l := by rw [hx]; exact List.getElem_mem hlt
    have hroom2 := upG_room pre V2.L V2.room l hf i hlt
    rw [← hx, ← hg] at hroom2
    have hfx := hf x hmem
    obtain ⟨rx, hrx⟩ : ∃ rx, rx = S (V2.L x) := ⟨_, rfl⟩
    have hsucc : upG pre V2.L l (i + 1) = g ++ V2.L x := by rw [upG_succ _ _ _ _ hlt, ← hg, hx]
    have hcall := each x hmem rx hrx
    have hfit : AE.SFit (A.slen si) (A.slen rx) := by subst hA; constructor; simp only [AE.std, hsi, hrx, S_size]; omega
    obtain ⟨s2, hs2⟩ : ∃ s, s = S (upG pre V2.L l (i + 1)) := ⟨_, rfl⟩
    have ecat : A.cat si rx = s2 := by subst hA; rw [hs2, hsucc, hsi, hrx, ← S_app]; rfl
    refine X.go 500 _ _ ?_
    cbv
    refine X.idx _ _ _ _ _ _ i (V2.av x) (by rw [hv, hx]; simp [lsAv_eq, hlt]) rfl ?_
    have ecat2 : s2 = S (upG pre V2.L l (i + 1)) := hs2
    clear hx hrx hsucc hs2 hfx
    obtain ⟨⟨n1, a1, b1⟩, ⟨n2, a2, b2⟩⟩ := x
    simp only [V2.av, Q.avE, List.cons_append, List.nil_append] at hcall ⊢
    refine X.go 500 _ _ ?_
    cbv
    refine X.calls [] hcall (by cbv) (by cbv <;> ((repeat' apply And.intro) <;> first | rfl | trivial)) (by cbv) ?_
    refine X.go 500 _ _ ?_
    cbv
    refine X.need _ _ _ hfit ?_
    refine X.go 500 _ _ ?_
    cbv
    refine hB ⟨i + 1, hlt⟩ _ (by show l.length - (i + 1) < l.length - i; omega) ?_
    have hadd : A.bin .add .i64 (i : Int) 1 = ((i + 1 : Nat) : Int) := by subst hA; rw [AE.std_add] <;> omega
    cbv
    (repeat' apply And.intro) <;> try first | rfl | trivial | exact congrArg (fun z => AE.AV.v (.int .i64 z)) hadd
    all_goals exact congrArg (fun z => AE.AV.v (.string z)) (show A.cat si rx = S (upG pre V2.L l (i + 1)) from ecat.trans ecat2)
  have hge : i = l.length := by
    have h5 : A.cmp .lss (i : Int) (A.llen vs) = false := hc
    rw [hn, hz] at h5
    have : (l.length : Int) ≤ (i : Int) := by subst hA; simpa [AE.std, AE.cmpI] using h5
    omega
  have hfin : si = r := by rw [hsi, hg, hr, upG_end _ _ _ hge, lsL, hpre]
  subst hfin
  refine X.go 500 _ _ ?_
  cbv
  refine X.ret _ (X.done rfl ?_)
  cbv


theorem list24_ok (l : List Bool) (vs : List (List AE.AV)) (hv : vs = lsAv boolAv l) (fn : Nat) (hsum : (l.map bRoom).sum < 2 ^ 46) (hcount : l.length ≤ (l.map bRoom).sum) (hf : ∀ x ∈ l, (boolL x).length ≤ bRoom x) (r : ByteArray) (hr : r = S (lsL boolL l))
    (each : ∀ x ∈ l, ∀ r, r = S (boolL x) → AE.ACall Try.prog fn [] [.b x] [] (.v (.string r))) :
    AE.ACall Try.prog 24 [] [.l 1 vs, .f fn []] [] (.v (.string r)) := by
  refine AE.ACall.of_walk (fn := Try.f24) (c := bodyOf Try.f24) tabOK Try.func24 rfl rfl mixed fun A hA X => ?_
  obtain ⟨z, hz⟩ : ∃ z : Int, z = l.length := ⟨_, rfl⟩
  have hn : A.llen vs = z := by subst hA; rw [hv, hz]; simp [AE.std, lsAv_eq]
  obtain ⟨pre, hpre⟩ : ∃ pre, pre = natL l.length := ⟨_, rfl⟩
  have hpl : pre.length ≤ 10 := by rw [hpre]; exact natL_len _ (by omega)
  have hpz : intL z = pre := by rw [hpre, intL, u64_nat hz (by omega)]
  obtain ⟨r0, hr0⟩ : ∃ r, r = S pre := ⟨_, rfl⟩
  refine X.go 500 _ _ ?_
  cbv
  refine X.calls [] (refNat_ok z r0 (by rw [hr0, hpz])) (by cbv) (by cbv <;> ((repeat' apply And.intro) <;> first | rfl | trivial | exact congrArg (fun z => AE.AV.v (.int .i64 z)) hn)) (by cbv) ?_
  refine X.go 500 _ _ ?_
  cbv
  refine X.carries (ι := { i : Nat // i ≤ l.length }) (fun i => [(13, .v (.int .i64 i.1)), (5, .v (.string (S (upG pre boolL l i.1))))]) (fun i => []) (fun i => l.length - i.1) ⟨0, Nat.zero_le _⟩ ?_ fun i B hB => ?_
  · cbv
    (repeat' apply And.intro) <;> try first | rfl | trivial
    all_goals exact congrArg (fun z => AE.AV.v (.string z)) (show r0 = S (upG pre boolL l 0) from hr0.trans (by rw [upG_zero]))
  obtain ⟨i, hi⟩ := i
  obtain ⟨g, hg⟩ : ∃ g, g = upG pre boolL l i := ⟨_, rfl⟩
  obtain ⟨si, hsi⟩ : ∃ si, si = S g := ⟨_, rfl⟩
  simp only [← hg, ← hsi]
  refine X.go 500 _ _ ?_
  cbv
  refine X.split _ _ _ _ _ (fun hc => ?_) (fun hc => ?_)
  · have hlt : i < l.length := by
      have h5 : A.cmp .lss (i : Int) (A.llen vs) = true := hc
      rw [hn, hz] at h5
      have : (i : Int) < (l.length : Int) := by subst hA; simpa [AE.std, AE.cmpI] using h5
      omega
    obtain ⟨x, hx⟩ : ∃ x, x = l[i] := ⟨_, rfl⟩
    have hmem : x ∈ l := by rw [hx]; exact List.getElem_mem hlt
    have hroom2 := upG_room pre boolL bRoom l hf i hlt
    rw [← hx, ← hg] at hroom2
    have hfx := hf x hmem
    obtain ⟨rx, hrx⟩ : ∃ rx, rx = S (boolL x) := ⟨_, rfl⟩
    have hsucc : upG pre boolL l (i + 1) = g ++ boolL x := by rw [upG_succ _ _ _ _ hlt, ← hg, hx]
    have hcall := each x hmem rx hrx
    have hfit : AE.SFit (A.slen si) (A.slen rx) := by subst hA; constructor; simp only [AE.std, hsi, hrx, S_size]; omega
    obtain ⟨s2, hs2⟩ : ∃ s, s = S (upG pre boolL l (i + 1)) := ⟨_, rfl⟩
    have ecat : A.cat si rx = s2 := by subst hA; rw [hs2, hsucc, hsi, hrx, ← S_app]; rfl
    refine X.go 500 _ _ ?_
    cbv
    refine X.idx _ _ _ _ _ _ i (boolAv x) (by rw [hv, hx]; simp [lsAv_eq, hlt]) rfl ?_
    have ecat2 : s2 = S (upG pre boolL l (i + 1)) := hs2
    clear hx hrx hsucc hs2 hfx
    simp only [boolAv]
    refine X.go 500 _ _ ?_
    cbv
    refine X.calls [] hcall (by cbv) (by cbv <;> ((repeat' apply And.intro) <;> first | rfl | trivial)) (by cbv) ?_
    refine X.go 500 _ _ ?_
    cbv
    refine X.need _ _ _ hfit ?_
    refine X.go 500 _ _ ?_
    cbv
    refine hB ⟨i + 1, hlt⟩ _ (by show l.length - (i + 1) < l.length - i; omega) ?_
    have hadd : A.bin .add .i64 (i : Int) 1 = ((i + 1 : Nat) : Int) := by subst hA; rw [AE.std_add] <;> omega
    cbv
    (repeat' apply And.intro) <;> try first | rfl | trivial | exact congrArg (fun z => AE.AV.v (.int .i64 z)) hadd
    all_goals exact congrArg (fun z => AE.AV.v (.string z)) (show A.cat si rx = S (upG pre boolL l (i + 1)) from ecat.trans ecat2)
  have hge : i = l.length := by
    have h5 : A.cmp .lss (i : Int) (A.llen vs) = false := hc
    rw [hn, hz] at h5
    have : (l.length : Int) ≤ (i : Int) := by subst hA; simpa [AE.std, AE.cmpI] using h5
    omega
  have hfin : si = r := by rw [hsi, hg, hr, upG_end _ _ _ hge, lsL, hpre]
  subst hfin
  refine X.go 500 _ _ ?_
  cbv
  refine X.ret _ (X.done rfl ?_)
  cbv


theorem list15_ok (l : List Q) (vs : List (List AE.AV)) (hv : vs = lsAv Q.av l) (fn : Nat) (hsum : (l.map Q.room).sum < 2 ^ 46) (hcount : l.length ≤ (l.map Q.room).sum) (hf : ∀ x ∈ l, (Q.L x).length ≤ Q.room x) (r : ByteArray) (hr : r = S (lsL Q.L l))
    (each : ∀ x ∈ l, ∀ r, r = S (Q.L x) → AE.ACall Try.prog fn [] [.a (Q.av x)] [] (.v (.string r))) :
    AE.ACall Try.prog 15 [] [.l 3 vs, .f fn []] [] (.v (.string r)) := by
  refine AE.ACall.of_walk (fn := Try.f15) (c := bodyOf Try.f15) tabOK Try.func15 rfl rfl mixed fun A hA X => ?_
  obtain ⟨z, hz⟩ : ∃ z : Int, z = l.length := ⟨_, rfl⟩
  have hn : A.llen vs = z := by subst hA; rw [hv, hz]; simp [AE.std, lsAv_eq]
  obtain ⟨pre, hpre⟩ : ∃ pre, pre = natL l.length := ⟨_, rfl⟩
  have hpl : pre.length ≤ 10 := by rw [hpre]; exact natL_len _ (by omega)
  have hpz : intL z = pre := by rw [hpre, intL, u64_nat hz (by omega)]
  obtain ⟨r0, hr0⟩ : ∃ r, r = S pre := ⟨_, rfl⟩
  refine X.go 500 _ _ ?_
  cbv
  refine X.calls [] (refNat_ok z r0 (by rw [hr0, hpz])) (by cbv) (by cbv <;> ((repeat' apply And.intro) <;> first | rfl | trivial | exact congrArg (fun z => AE.AV.v (.int .i64 z)) hn)) (by cbv) ?_
  refine X.go 500 _ _ ?_
  cbv
  refine X.carries (ι := { i : Nat // i ≤ l.length }) (fun i => [(13, .v (.int .i64 i.1)), (5, .v (.string (S (upG pre Q.L l i.1))))]) (fun i => []) (fun i => l.length - i.1) ⟨0, Nat.zero_le _⟩ ?_ fun i B hB => ?_
  · cbv
    (repeat' apply And.intro) <;> try first | rfl | trivial
    all_goals exact congrArg (fun z => AE.AV.v (.string z)) (show r0 = S (upG pre Q.L l 0) from hr0.trans (by rw [upG_zero]))
  obtain ⟨i, hi⟩ := i
  obtain ⟨g, hg⟩ : ∃ g, g = upG pre Q.L l i := ⟨_, rfl⟩
  obtain ⟨si, hsi⟩ : ∃ si, si = S g := ⟨_, rfl⟩
  simp only [← hg, ← hsi]
  refine X.go 500 _ _ ?_
  cbv
  refine X.split _ _ _ _ _ (fun hc => ?_) (fun hc => ?_)
  · have hlt : i < l.length := by
      have h5 : A.cmp .lss (i : Int) (A.llen vs) = true := hc
      rw [hn, hz] at h5
      have : (i : Int) < (l.length : Int) := by subst hA; simpa [AE.std, AE.cmpI] using h5
      omega
    obtain ⟨x, hx⟩ : ∃ x, x = l[i] := ⟨_, rfl⟩
    have hmem : x ∈ l := by rw [hx]; exact List.getElem_mem hlt
    have hroom2 := upG_room pre Q.L Q.room l hf i hlt
    rw [← hx, ← hg] at hroom2
    have hfx := hf x hmem
    obtain ⟨rx, hrx⟩ : ∃ rx, rx = S (Q.L x) := ⟨_, rfl⟩
    have hsucc : upG pre Q.L l (i + 1) = g ++ Q.L x := by rw [upG_succ _ _ _ _ hlt, ← hg, hx]
    have hcall := each x hmem rx hrx
    have hfit : AE.SFit (A.slen si) (A.slen rx) := by subst hA; constructor; simp only [AE.std, hsi, hrx, S_size]; omega
    obtain ⟨s2, hs2⟩ : ∃ s, s = S (upG pre Q.L l (i + 1)) := ⟨_, rfl⟩
    have ecat : A.cat si rx = s2 := by subst hA; rw [hs2, hsucc, hsi, hrx, ← S_app]; rfl
    refine X.go 500 _ _ ?_
    cbv
    refine X.idx _ _ _ _ _ _ i (Q.av x) (by rw [hv, hx]; simp [lsAv_eq, hlt]) rfl ?_
    have ecat2 : s2 = S (upG pre Q.L l (i + 1)) := hs2
    clear hx hrx hsucc hs2 hfx
    obtain ⟨n1, a1, b1⟩ := x
    simp only [Q.avE] at hcall ⊢
    refine X.go 500 _ _ ?_
    cbv
    refine X.calls [] hcall (by cbv) (by cbv <;> ((repeat' apply And.intro) <;> first | rfl | trivial)) (by cbv) ?_
    refine X.go 500 _ _ ?_
    cbv
    refine X.need _ _ _ hfit ?_
    refine X.go 500 _ _ ?_
    cbv
    refine hB ⟨i + 1, hlt⟩ _ (by show l.length - (i + 1) < l.length - i; omega) ?_
    have hadd : A.bin .add .i64 (i : Int) 1 = ((i + 1 : Nat) : Int) := by subst hA; rw [AE.std_add] <;> omega
    cbv
    (repeat' apply And.intro) <;> try first | rfl | trivial | exact congrArg (fun z => AE.AV.v (.int .i64 z)) hadd
    all_goals exact congrArg (fun z => AE.AV.v (.string z)) (show A.cat si rx = S (upG pre Q.L l (i + 1)) from ecat.trans ecat2)
  have hge : i = l.length := by
    have h5 : A.cmp .lss (i : Int) (A.llen vs) = false := hc
    rw [hn, hz] at h5
    have : (l.length : Int) ≤ (i : Int) := by subst hA; simpa [AE.std, AE.cmpI] using h5
    omega
  have hfin : si = r := by rw [hsi, hg, hr, upG_end _ _ _ hge, lsL, hpre]
  subst hfin
  refine X.go 500 _ _ ?_
  cbv
  refine X.ret _ (X.done rfl ?_)
  cbv

end Go.Proofs.Ytjbnffclpebkkaa
