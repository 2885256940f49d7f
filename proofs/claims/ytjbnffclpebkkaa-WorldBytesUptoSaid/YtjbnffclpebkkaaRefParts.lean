import Derived.Test.YtjbnffclpebkkaaRefNat
set_option linter.unusedVariables false
set_option maxRecDepth 4000
namespace Go.Proofs.Ytjbnffclpebkkaa
open Go

theorem refText_ok (s r : ByteArray) (hs : s.size < 2 ^ 62) (hr : r = S (textL s)) : AE.ACall Try.prog 26 [] [.v (.string s)] [] (.v (.string r)) := by
  refine AE.ACall.of_walk (fn := Try.f26) (c := bodyOf Try.f26) tabOK Try.func26 rfl rfl mixed fun A hA X => ?_
  obtain ⟨z, hz⟩ : ∃ z : Int, z = s.size := ⟨_, rfl⟩
  have hn : A.slen s = z := by subst hA; rw [hz]; rfl
  obtain ⟨r1, hr1⟩ : ∃ r1, r1 = S (intL z) := ⟨_, rfl⟩
  have hl := intL_len z
  refine X.go 500 _ _ ?_
  cbv
  refine X.calls [] (refNat_ok z r1 hr1) (by cbv) (by cbv <;> ((repeat' apply And.intro) <;> first | rfl | trivial | exact congrArg (fun z => AE.AV.v (.int .i64 z)) hn)) (by cbv) ?_
  refine X.go 500 _ _ ?_
  cbv
  refine X.need _ _ _ (by subst hA; constructor; simp only [AE.std, hr1, S_size]; omega) ?_
  refine X.go 500 _ _ ?_
  cbv
  refine X.ret _ (X.done rfl ?_)
  cbv
  refine ⟨?_, trivial⟩
  have : A.cat r1 s = r := by
    subst hA; rw [hr, hr1]
    show S (intL z) ++ s = _
    conv => lhs; rw [← S_data s]
    rw [S_app, textL, intL, u64_nat hz (by omega)]
  exact congrArg (fun z => AE.AV.v (.string z)) this

theorem number_ok (q : Q) (neg : Bool) (num den r : ByteArray) (hq : q = ⟨neg, num, den⟩) (hroom : q.room < 2 ^ 46) (hr : r = S q.L) :
    AE.ACall Try.prog 16 [] [.a [.b neg, .v (.string num), .v (.string den)]] [] (.v (.string r)) := by
  have hrm : q.room = num.size + den.size + 30 := by rw [hq]; rfl
  have h1 := boolL_len neg
  have h2 := textL_len num (by omega)
  have h3 := textL_len den (by omega)
  refine AE.ACall.of_walk (fn := Try.f16) (c := bodyOf Try.f16) tabOK Try.func16 rfl rfl mixed fun A hA X => ?_
  obtain ⟨r1, hr1⟩ : ∃ r1, r1 = S (boolL neg) := ⟨_, rfl⟩
  obtain ⟨r2, hr2⟩ : ∃ r2, r2 = S (textL num) := ⟨_, rfl⟩
  obtain ⟨r3, hr3⟩ : ∃ r3, r3 = S (textL den) := ⟨_, rfl⟩
  obtain ⟨r12, hr12⟩ : ∃ r, r = A.cat r1 r2 := ⟨_, rfl⟩
  have e12 : r12 = S (boolL neg ++ textL num) := by subst hA; rw [hr12, hr1, hr2]; exact S_app _ _
  have e123 : A.cat r12 r3 = r := by subst hA; rw [hr, hq, e12, hr3, Q.L, ← List.append_assoc]; exact S_app _ _
  refine X.go 500 _ _ ?_
  cbv
  refine X.draw _ _ _ (X.frzB 0 _ _ (by simp) ?_)
  refine X.go 500 _ _ ?_
  cbv
  refine X.calls [] (truth_ok neg r1 hr1) (by cbv) (by cbv) (by cbv) ?_
  refine X.go 500 _ _ ?_
  cbv
  refine X.calls [] (refText_ok num r2 (by omega) hr2) (by cbv) (by cbv) (by cbv) ?_
  refine X.go 500 _ _ ?_
  cbv
  have f12 : AE.SFit (A.slen r1) (A.slen r2) := by subst hA; constructor; simp only [AE.std, hr1, hr2, S_size]; omega
  have f123 : AE.SFit (A.slen (A.cat r1 r2)) (A.slen r3) := by rw [← hr12, e12, hr3]; subst hA; constructor; simp only [AE.std, S_size, List.length_append]; omega
  refine X.need _ _ _ f12 ?_
  refine X.go 500 _ _ ?_
  cbv
  refine X.calls [] (refText_ok den r3 (by omega) hr3) (by cbv) (by cbv) (by cbv) ?_
  refine X.go 500 _ _ ?_
  cbv
  refine X.need _ _ _ f123 ?_
  refine X.go 500 _ _ ?_
  cbv
  refine X.ret _ (X.done rfl ?_)
  cbv
  refine ⟨?_, trivial⟩
  rw [hr12] at e123
  exact congrArg (fun z => AE.AV.v (.string z)) e123

theorem point_ok (v : V2) (n1 n2 : Bool) (a1 b1 a2 b2 r : ByteArray) (hv : v = ⟨⟨n1, a1, b1⟩, ⟨n2, a2, b2⟩⟩) (hroom : v.room < 2 ^ 46) (hr : r = S v.L) :
    AE.ACall Try.prog 23 [] [.a [.b n1, .v (.string a1), .v (.string b1), .b n2, .v (.string a2), .v (.string b2)]] [] (.v (.string r)) := by
  obtain ⟨q1, hq1⟩ : ∃ q1 : Q, q1 = ⟨n1, a1, b1⟩ := ⟨_, rfl⟩
  obtain ⟨q2, hq2⟩ : ∃ q2 : Q, q2 = ⟨n2, a2, b2⟩ := ⟨_, rfl⟩
  rw [← hq1, ← hq2] at hv
  have hrm : v.room = q1.room + q2.room := by rw [hv]; rfl
  have h1 := q1.L_len (by omega)
  have h2 := q2.L_len (by omega)
  refine AE.ACall.of_walk (fn := Try.f23) (c := bodyOf Try.f23) tabOK Try.func23 rfl rfl mixed fun A hA X => ?_
  obtain ⟨r1, hr1⟩ : ∃ r1, r1 = S q1.L := ⟨_, rfl⟩
  obtain ⟨r2, hr2⟩ : ∃ r2, r2 = S q2.L := ⟨_, rfl⟩
  have e12 : A.cat r1 r2 = r := by subst hA; rw [hr, hv, hr1, hr2, V2.L]; exact S_app _ _
  have f12 : AE.SFit (A.slen r1) (A.slen r2) := by subst hA; constructor; simp only [AE.std, hr1, hr2, S_size]; omega
  refine X.go 500 _ _ ?_
  cbv
  refine X.draw _ _ _ (X.frzB 0 _ _ (by simp) ?_)
  refine X.go 500 _ _ ?_
  cbv
  refine X.calls [] (number_ok q1 n1 a1 b1 r1 hq1 (by omega) hr1) (by cbv) (by cbv) (by cbv) ?_
  refine X.go 500 _ _ ?_
  cbv
  refine X.calls [] (number_ok q2 n2 a2 b2 r2 hq2 (by omega) hr2) (by cbv) (by cbv) (by cbv) ?_
  refine X.go 500 _ _ ?_
  cbv
  refine X.need _ _ _ f12 ?_
  refine X.go 500 _ _ ?_
  cbv
  refine X.ret _ (X.done rfl ?_)
  cbv
  refine ⟨?_, trivial⟩
  exact congrArg (fun z => AE.AV.v (.string z)) e12

theorem placed_ok (f : Fr) (n1 n2 half n3 : Bool) (a1 b1 a2 b2 a3 b3 r : ByteArray) (hf : f = ⟨⟨⟨n1, a1, b1⟩, ⟨n2, a2, b2⟩⟩, half, ⟨n3, a3, b3⟩⟩) (hroom : f.room < 2 ^ 46) (hr : r = S f.L) :
    AE.ACall Try.prog 21 [] [.a [.b n1, .v (.string a1), .v (.string b1), .b n2, .v (.string a2), .v (.string b2), .b half, .b n3, .v (.string a3), .v (.string b3)]] [] (.v (.string r)) := by
  obtain ⟨v, hv⟩ : ∃ v : V2, v = ⟨⟨n1, a1, b1⟩, ⟨n2, a2, b2⟩⟩ := ⟨_, rfl⟩
  obtain ⟨q, hq⟩ : ∃ q : Q, q = ⟨n3, a3, b3⟩ := ⟨_, rfl⟩
  rw [← hv, ← hq] at hf
  have hrm : f.room = v.room + q.room + 10 := by rw [hf]; rfl
  have h1 := v.L_len (by omega)
  have h2 := q.L_len (by omega)
  have h3 := boolL_len half
  refine AE.ACall.of_walk (fn := Try.f21) (c := bodyOf Try.f21) tabOK Try.func21 rfl rfl mixed fun A hA X => ?_
  obtain ⟨r1, hr1⟩ : ∃ r1, r1 = S v.L := ⟨_, rfl⟩
  obtain ⟨r2, hr2⟩ : ∃ r2, r2 = S (boolL half) := ⟨_, rfl⟩
  obtain ⟨r3, hr3⟩ : ∃ r3, r3 = S q.L := ⟨_, rfl⟩
  have e12 : A.cat r1 r2 = S (v.L ++ boolL half) := by subst hA; rw [hr1, hr2]; exact S_app _ _
  have e123 : A.cat (A.cat r1 r2) r3 = r := by rw [e12]; subst hA; rw [hr, hf, hr3, Fr.L, ← List.append_assoc]; exact S_app _ _
  have f12 : AE.SFit (A.slen r1) (A.slen r2) := by subst hA; constructor; simp only [AE.std, hr1, hr2, S_size]; omega
  have f123 : AE.SFit (A.slen (A.cat r1 r2)) (A.slen r3) := by rw [e12, hr3]; subst hA; constructor; simp only [AE.std, S_size, List.length_append]; omega
  refine X.go 500 _ _ ?_
  cbv
  refine X.draw _ _ _ (X.frzB 0 _ _ (by simp) ?_)
  refine X.go 500 _ _ ?_
  cbv
  refine X.calls [] (point_ok v n1 n2 a1 b1 a2 b2 r1 hv (by omega) hr1) (by cbv) (by cbv) (by cbv) ?_
  refine X.go 500 _ _ ?_
  cbv
  refine X.calls [] (truth_ok half r2 hr2) (by cbv) (by cbv) (by cbv) ?_
  refine X.go 500 _ _ ?_
  cbv
  refine X.need _ _ _ f12 ?_
  refine X.go 500 _ _ ?_
  cbv
  refine X.calls [] (number_ok q n3 a3 b3 r3 hq (by omega) hr3) (by cbv) (by cbv) (by cbv) ?_
  refine X.go 500 _ _ ?_
  cbv
  refine X.need _ _ _ f123 ?_
  refine X.go 500 _ _ ?_
  cbv
  refine X.ret _ (X.done rfl ?_)
  cbv
  refine ⟨?_, trivial⟩
  exact congrArg (fun z => AE.AV.v (.string z)) e123
end Go.Proofs.Ytjbnffclpebkkaa
