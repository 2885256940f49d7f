import Derived.Test.YtjbnffclpebkkaaRefList
set_option linter.unusedVariables false
set_option maxRecDepth 4000
namespace Go.Proofs.Ytjbnffclpebkkaa
open Go

theorem each_number (l : List Q) (h : (l.map Q.room).sum < 2 ^ 46) : ∀ x ∈ l, ∀ r, r = S (Q.L x) → AE.ACall Try.prog 16 [] [.a (Q.av x)] [] (.v (.string r)) := by
  intro x hx r hr
  have := mem_le Q.room l x hx
  obtain ⟨n, a, b⟩ := x
  exact number_ok ⟨n, a, b⟩ n a b r rfl (by omega) hr
theorem numbers_ok (l : List Q) (vs : List (List AE.AV)) (hv : vs = qsAv l) (h : (l.map Q.room).sum < 2 ^ 46) (r : ByteArray) (hr : r = S (qsL l)) : AE.ACall Try.prog 15 [] [.l 3 vs, .f 16 []] [] (.v (.string r)) :=
  list15_ok l vs (hv.trans (by rw [qsAv_eq, lsAv_eq])) 16 h (len_le Q.room l (fun x _ => by simp only [Q.room]; omega)) (fun x hx => x.L_len (by have := mem_le Q.room l x hx; omega)) r hr (each_number l h)

theorem armsFn_ok (x : ArmS) (xq xv : List Q) (power : Bool) (holds : Int) (hx : x = ⟨xq, xv, power, holds⟩) (vq vv : List (List AE.AV)) (hvq : vq = qsAv xq) (hvv : vv = qsAv xv) (hroom : x.room < 2 ^ 46) (r : ByteArray) (hr : r = S x.L) :
    AE.ACall Try.prog 14 [] [.a [.l 3 vq, .l 3 vv, .b power, .v (.int .i64 holds)]] [] (.v (.string r)) := by
  have hrm : x.room = qsRoom xq + qsRoom xv + 20 := by rw [hx]; rfl
  have h1 := qsL_len xq (by omega)
  have h2 := qsL_len xv (by omega)
  have h3 := boolL_len power
  have h4 := intL_len (holds + 1)
  have c3 : (xq.map Q.room).sum + 10 = qsRoom xq := rfl
  have c4 : (xv.map Q.room).sum + 10 = qsRoom xv := rfl
  refine AE.ACall.of_walk (fn := Try.f14) (c := bodyOf Try.f14) tabOK Try.func14 rfl rfl mixed fun A hA X => ?_
  obtain ⟨r1, hr1⟩ : ∃ r1, r1 = S (qsL xq) := ⟨_, rfl⟩
  obtain ⟨r2, hr2⟩ : ∃ r2, r2 = S (qsL xv) := ⟨_, rfl⟩
  obtain ⟨r3, hr3⟩ : ∃ r3, r3 = S (boolL power) := ⟨_, rfl⟩
  obtain ⟨r4, hr4⟩ : ∃ r4, r4 = S (intL (holds + 1)) := ⟨_, rfl⟩
  have e12 : A.cat r1 r2 = S (qsL xq ++ qsL xv) := by subst hA; rw [hr1, hr2]; exact S_app _ _
  have e123 : A.cat (A.cat r1 r2) r3 = S (qsL xq ++ qsL xv ++ boolL power) := by rw [e12]; subst hA; rw [hr3]; exact S_app _ _
  have e1234 : A.cat (A.cat (A.cat r1 r2) r3) r4 = r := by
    rw [e123]; subst hA; rw [hr, hx, hr4]
    show S _ ++ S _ = _
    rw [S_app]; simp only [ArmS.L, List.append_assoc]
  have f12 : AE.SFit (A.slen r1) (A.slen r2) := by subst hA; constructor; simp only [AE.std, hr1, hr2, S_size]; omega
  have f123 : AE.SFit (A.slen (A.cat r1 r2)) (A.slen r3) := by rw [e12, hr3]; subst hA; constructor; simp only [AE.std, S_size, List.length_append]; omega
  have f1234 : AE.SFit (A.slen (A.cat (A.cat r1 r2) r3)) (A.slen r4) := by rw [e123, hr4]; subst hA; constructor; simp only [AE.std, S_size, List.length_append]; omega
  refine X.go 500 _ _ ?_
  cbv
  refine X.draw _ _ _ (X.frzB 0 _ _ (by simp) ?_)
  refine X.go 500 _ _ ?_
  cbv
  refine X.calls [] (numbers_ok xq vq hvq (by omega) r1 hr1) (by cbv) (by cbv <;> ((repeat' apply And.intro) <;> first | rfl | trivial)) (by cbv) ?_
  refine X.go 500 _ _ ?_
  cbv
  refine X.calls [] (numbers_ok xv vv hvv (by omega) r2 hr2) (by cbv) (by cbv <;> ((repeat' apply And.intro) <;> first | rfl | trivial)) (by cbv) ?_
  refine X.go 500 _ _ ?_
  cbv
  refine X.need _ _ _ f12 ?_
  refine X.go 500 _ _ ?_
  cbv
  refine X.calls [] (truth_ok power r3 hr3) (by cbv) (by cbv <;> ((repeat' apply And.intro) <;> first | rfl | trivial)) (by cbv) ?_
  refine X.go 500 _ _ ?_
  cbv
  refine X.need _ _ _ f123 ?_
  refine X.go 500 _ _ ?_
  cbv
  refine X.calls [] (refNat_ok (A.bin .add .i64 holds 1) r4 (by subst hA; rw [hr4, intL, intL, add1_u64])) (by cbv) (by cbv <;> ((repeat' apply And.intro) <;> first | rfl | trivial)) (by cbv) ?_
  refine X.go 500 _ _ ?_
  cbv
  refine X.need _ _ _ f1234 ?_
  refine X.go 500 _ _ ?_
  cbv
  refine X.ret _ (X.done rfl ?_)
  cbv
  refine ⟨?_, trivial⟩
  exact congrArg (fun z => AE.AV.v (.string z)) e1234

theorem refBytes_ok (s : StS) (hroom : s.room < 2 ^ 45) (va vp vw vo : List (List AE.AV)) (tick : Int) (ht : tick = s.tick) (hva : va = lsAv ArmS.av s.arms) (hvp : vp = lsAv Fr.av s.parts) (hvw : vw = lsAv V2.av s.people) (hvo : vo = lsAv boolAv s.opens) (r : ByteArray) (hr : r = S s.L) :
    AE.ACall Try.prog 5 [] [.a [.v (.int .i64 tick), .l 4 va, .l 10 vp, .l 6 vw, .l 1 vo]] [] (.v (.string r)) := by
  obtain ⟨tick', arms, parts, people, opens⟩ := s
  simp only at ht hva hvp hvw hvo
  simp only [StS.room] at hroom
  have hla := len_le ArmS.room arms (fun x _ => by simp only [ArmS.room]; omega)
  have hlp := len_le Fr.room parts (fun x _ => by simp only [Fr.room]; omega)
  have hlw := len_le V2.room people (fun x _ => by simp only [V2.room, Q.room]; omega)
  have hlo := len_le bRoom opens (fun x _ => by simp only [bRoom]; omega)
  have hfa : ∀ x ∈ arms, (ArmS.L x).length ≤ ArmS.room x := fun x hx => x.L_len (by have := mem_le ArmS.room arms x hx; omega)
  have hfp : ∀ x ∈ parts, (Fr.L x).length ≤ Fr.room x := fun x hx => x.L_len (by have := mem_le Fr.room parts x hx; omega)
  have hfw : ∀ x ∈ people, (V2.L x).length ≤ V2.room x := fun x hx => x.L_len (by have := mem_le V2.room people x hx; omega)
  have hfo : ∀ x ∈ opens, (boolL x).length ≤ bRoom x := fun x hx => boolL_len x
  have lsL_len : ∀ {α : Type} (f : α → List UInt8) (ρ : α → Nat) (l : List α), (∀ x ∈ l, (f x).length ≤ ρ x) → l.length < 2 ^ 46 → (lsL f l).length ≤ 10 + (l.map ρ).sum := by
    intro α f ρ l h1 h2
    have := flat_le f ρ l h1
    have := natL_len l.length (by omega)
    rw [lsL, List.length_append]; omega
  have hsa := lsL_len ArmS.L ArmS.room arms hfa (by omega)
  have hsp := lsL_len Fr.L Fr.room parts hfp (by omega)
  have hsw := lsL_len V2.L V2.room people hfw (by omega)
  have hso := lsL_len boolL bRoom opens hfo (by omega)
  have hnt := intL_len tick
  refine AE.ACall.of_walk (fn := Try.f5) (c := bodyOf Try.f5) tabOK Try.func5 rfl rfl mixed fun A hA X => ?_
  obtain ⟨r0, hr0⟩ : ∃ r, r = S (intL tick) := ⟨_, rfl⟩
  obtain ⟨r1, hr1⟩ : ∃ r, r = S (lsL ArmS.L arms) := ⟨_, rfl⟩
  obtain ⟨r2, hr2⟩ : ∃ r, r = S (lsL Fr.L parts) := ⟨_, rfl⟩
  obtain ⟨r3, hr3⟩ : ∃ r, r = S (lsL V2.L people) := ⟨_, rfl⟩
  obtain ⟨r4, hr4⟩ : ∃ r, r = S (lsL boolL opens) := ⟨_, rfl⟩
  have e1 : A.cat r0 r1 = S (intL tick ++ lsL ArmS.L arms) := by subst hA; rw [hr0, hr1]; exact S_app _ _
  have e2 : A.cat (A.cat r0 r1) r2 = S (intL tick ++ lsL ArmS.L arms ++ lsL Fr.L parts) := by rw [e1]; subst hA; rw [hr2]; exact S_app _ _
  have e3 : A.cat (A.cat (A.cat r0 r1) r2) r3 = S (intL tick ++ lsL ArmS.L arms ++ lsL Fr.L parts ++ lsL V2.L people) := by rw [e2]; subst hA; rw [hr3]; exact S_app _ _
  have e4 : A.cat (A.cat (A.cat (A.cat r0 r1) r2) r3) r4 = r := by
    rw [e3]; subst hA; rw [hr, hr4]
    show S _ ++ S _ = _
    rw [S_app, ht]; rfl
  have f1 : AE.SFit (A.slen r0) (A.slen r1) := by subst hA; constructor; simp only [AE.std, hr0, hr1, S_size]; omega
  have f2 : AE.SFit (A.slen (A.cat r0 r1)) (A.slen r2) := by rw [e1, hr2]; subst hA; constructor; simp only [AE.std, S_size, List.length_append]; omega
  have f3 : AE.SFit (A.slen (A.cat (A.cat r0 r1) r2)) (A.slen r3) := by rw [e2, hr3]; subst hA; constructor; simp only [AE.std, S_size, List.length_append]; omega
  have f4 : AE.SFit (A.slen (A.cat (A.cat (A.cat r0 r1) r2) r3)) (A.slen r4) := by rw [e3, hr4]; subst hA; constructor; simp only [AE.std, S_size, List.length_append]; omega
  refine X.go 500 _ _ ?_
  cbv
  refine X.draw _ _ _ (X.frzB 0 _ _ (by simp) ?_)
  refine X.go 500 _ _ ?_
  cbv
  refine X.calls [] (refNat_ok tick r0 hr0) (by cbv) (by cbv <;> ((repeat' apply And.intro) <;> first | rfl | trivial)) (by cbv) ?_
  refine X.go 500 _ _ ?_
  cbv
  refine X.calls [] (list19_ok arms va hva 14 (by omega) hla hfa r1 hr1 (fun x hx r hr => by
    have := mem_le ArmS.room arms x hx
    obtain ⟨xq, xv, power, holds⟩ := x
    exact armsFn_ok ⟨xq, xv, power, holds⟩ xq xv power holds rfl _ _ rfl rfl (by omega) r hr)) (by cbv) (by cbv <;> ((repeat' apply And.intro) <;> first | rfl | trivial)) (by cbv) ?_
  refine X.go 500 _ _ ?_
  cbv
  refine X.need _ _ _ f1 ?_
  refine X.go 500 _ _ ?_
  cbv
  refine X.calls [] (list20_ok parts vp hvp 21 (by omega) hlp hfp r2 hr2 (fun x hx r hr => by
    have := mem_le Fr.room parts x hx
    obtain ⟨⟨⟨n1, a1, b1⟩, ⟨n2, a2, b2⟩⟩, half, ⟨n3, a3, b3⟩⟩ := x
    exact placed_ok _ n1 n2 half n3 a1 b1 a2 b2 a3 b3 r rfl (by omega) hr)) (by cbv) (by cbv <;> ((repeat' apply And.intro) <;> first | rfl | trivial)) (by cbv) ?_
  refine X.go 500 _ _ ?_
  cbv
  refine X.need _ _ _ f2 ?_
  refine X.go 500 _ _ ?_
  cbv
  refine X.calls [] (list22_ok people vw hvw 23 (by omega) hlw hfw r3 hr3 (fun x hx r hr => by
    have := mem_le V2.room people x hx
    obtain ⟨⟨n1, a1, b1⟩, ⟨n2, a2, b2⟩⟩ := x
    exact point_ok _ n1 n2 a1 b1 a2 b2 r rfl (by omega) hr)) (by cbv) (by cbv <;> ((repeat' apply And.intro) <;> first | rfl | trivial)) (by cbv) ?_
  refine X.go 500 _ _ ?_
  cbv
  refine X.need _ _ _ f3 ?_
  refine X.go 500 _ _ ?_
  cbv
  refine X.calls [] (list24_ok opens vo hvo 17 (by omega) hlo hfo r4 hr4 (fun x hx r hr => truth_ok x r hr)) (by cbv) (by cbv <;> ((repeat' apply And.intro) <;> first | rfl | trivial)) (by cbv) ?_
  refine X.go 500 _ _ ?_
  cbv
  refine X.need _ _ _ f4 ?_
  refine X.go 500 _ _ ?_
  cbv
  refine X.ret _ (X.done rfl ?_)
  cbv
  refine ⟨?_, trivial⟩
  exact congrArg (fun z => AE.AV.v (.string z)) e4
end Go.Proofs.Ytjbnffclpebkkaa
