import Derived.Test.YtjbnffclpebkkaaRefBytes
import Derived.Test.YtjbnffclpebkkaaSum
set_option linter.unusedVariables false
set_option maxRecDepth 4000
namespace Go.Proofs.Ytjbnffclpebkkaa
open Go

theorem StS.L_len (s : StS) (hroom : s.room < 2 ^ 45) : s.L.length ≤ s.room := by
  obtain ⟨tick, arms, parts, people, opens⟩ := s
  simp only [StS.room] at hroom ⊢
  have hla := len_le ArmS.room arms (fun x _ => by simp only [ArmS.room]; omega)
  have hlp := len_le Fr.room parts (fun x _ => by simp only [Fr.room]; omega)
  have hlw := len_le V2.room people (fun x _ => by simp only [V2.room, Q.room]; omega)
  have hlo := len_le bRoom opens (fun x _ => by simp only [bRoom]; omega)
  have hfa : ∀ x ∈ arms, (ArmS.L x).length ≤ ArmS.room x := fun x hx => x.L_len (by have := mem_le ArmS.room arms x hx; omega)
  have hfp : ∀ x ∈ parts, (Fr.L x).length ≤ Fr.room x := fun x hx => x.L_len (by have := mem_le Fr.room parts x hx; omega)
  have hfw : ∀ x ∈ people, (V2.L x).length ≤ V2.room x := fun x hx => x.L_len (by have := mem_le V2.room people x hx; omega)
  have hfo : ∀ x ∈ opens, (boolL x).length ≤ bRoom x := fun x hx => boolL_len x
  have lsL_len : ∀ {α : Type} (f : α → List UInt8) (ρ : α → Nat) (l : List α), (∀ x ∈ l, (f x).length ≤ ρ x) → l.length < 2 ^ 46 → (lsL f l).length ≤ 10 + (l.map ρ).sum := by
    intro α f ρ l h1 h2
    have := flat_le f ρ l h1
    have := natL_len l.length (by omega)
    rw [lsL, List.length_append]; omega
  have hsa := lsL_len ArmS.L ArmS.room arms hfa (by omega)
  have hsp := lsL_len Fr.L Fr.room parts hfp (by omega)
  have hsw := lsL_len V2.L V2.room people hfw (by omega)
  have hso := lsL_len boolL bRoom opens hfo (by omega)
  have hnt := intL_len tick
  simp only [StS.L, List.length_append]
  omega

theorem digest_ok (s : StS) (hroom : s.room < 2 ^ 45) (va vp vw vo : List (List AE.AV)) (tick : Int) (ht : tick = s.tick) (hva : va = lsAv ArmS.av s.arms) (hvp : vp = lsAv Fr.av s.parts) (hvw : vw = lsAv V2.av s.people) (hvo : vo = lsAv boolAv s.opens) (r : Int) (hr : r = sumI s.L) :
    AE.ACall Try.prog 8 [] [.a [.v (.int .i64 tick), .l 4 va, .l 10 vp, .l 6 vw, .l 1 vo]] [] (.v (.int .u64 r)) := by
  have hl := s.L_len hroom
  refine AE.ACall.of_walk (fn := Try.f8) (c := bodyOf Try.f8) tabOK Try.func8 rfl rfl mixed fun A hA X => ?_
  obtain ⟨out, hout⟩ : ∃ out, out = bl s.L := ⟨_, rfl⟩
  refine X.go 500 _ _ ?_
  cbv
  refine X.calls [] (bytes_ok s hroom va vp vw vo out tick ht hva hvp hvw hvo hout) (by cbv) (by cbv <;> ((repeat' apply And.intro) <;> first | rfl | trivial)) (by cbv) ?_
  refine X.go 500 _ _ ?_
  cbv
  refine X.calls [] (worldSum_ok s.L (by omega) out hout r hr) (by cbv) (by cbv <;> ((repeat' apply And.intro) <;> first | rfl | trivial)) (by cbv) ?_
  refine X.go 500 _ _ ?_
  cbv
  refine X.ret _ (X.done rfl ?_)
  cbv

theorem law_ok (s : StS) (hroom : s.room < 2 ^ 45) (va vp vw vo : List (List AE.AV)) (tick : Int) (ht : tick = s.tick) (hva : va = lsAv ArmS.av s.arms) (hvp : vp = lsAv Fr.av s.parts) (hvw : vw = lsAv V2.av s.people) (hvo : vo = lsAv boolAv s.opens)
    (b : List UInt8) (hb : b.length < 2 ^ 62) (vb : List (List AE.AV)) (hvb : vb = bl b) :
    AE.ACall Try.prog 3 [] [.a [.v (.int .i64 tick), .l 4 va, .l 10 vp, .l 6 vw, .l 1 vo], .l 1 vb] [] (.b true) := by
  have hl := s.L_len hroom
  refine AE.ACall.of_walk (fn := Try.f3) (c := bodyOf Try.f3) tabOK Try.func3 rfl rfl mixed fun A hA X => ?_
  obtain ⟨out, hout⟩ : ∃ out, out = bl s.L := ⟨_, rfl⟩
  obtain ⟨rs, hrs⟩ : ∃ r, r = S s.L := ⟨_, rfl⟩
  obtain ⟨bs, hbs⟩ : ∃ r, r = S b := ⟨_, rfl⟩
  obtain ⟨d1, hd1⟩ : ∃ r, r = sumI s.L := ⟨_, rfl⟩
  obtain ⟨d2, hd2⟩ : ∃ r, r = sumI b := ⟨_, rfl⟩
  obtain ⟨z0, hz0⟩ : ∃ z0 : StS, z0 = ⟨0, [], [], [], []⟩ := ⟨_, rfl⟩
  have hz0L : z0.L = [0, 0, 0, 0, 0] := by
    rw [hz0]
    have h0 : natL 0 = [0] := by unfold natL; rfl
    simp [StS.L, intL, lsL, h0]
  obtain ⟨o0, ho0⟩ : ∃ o, o = bl z0.L := ⟨_, rfl⟩
  have heq : ∀ x, A.scmp .eql x x = true := by intro x; subst hA; simp [AE.std, AE.cmpS]
  have hieq : ∀ x, A.cmp .eql x x = true := by intro x; subst hA; simp [AE.std, AE.cmpI]
  refine X.go 500 _ _ ?_
  cbv
  refine X.draw _ _ _ (X.frzB 0 _ _ (by simp) ?_)
  refine X.go 500 _ _ ?_
  cbv
  refine X.calls [] (bytes_ok z0 (by rw [hz0]; decide) [] [] [] [] o0 0 (by rw [hz0]) (by rw [hz0, lsAv_eq]; rfl) (by rw [hz0, lsAv_eq]; rfl) (by rw [hz0, lsAv_eq]; rfl) (by rw [hz0, lsAv_eq]; rfl) ho0) (by cbv) (by cbv <;> ((repeat' apply And.intro) <;> first | rfl | trivial)) (by cbv) ?_
  refine X.go 500 _ _ ?_
  cbv
  refine X.str _ _ _ _ (S [0, 0, 0, 0, 0]) (by rw [S_bytes, ho0, hz0L]) ?_
  have hS0 : S [0, 0, 0, 0, 0] = ⟨#[0, 0, 0, 0, 0]⟩ := by simp [S_eq]
  rw [hS0]
  refine X.go 500 _ _ ?_
  cbv
  refine X.split _ _ _ _ _ (fun _ => ?_) (fun hc => absurd ((heq _).symm.trans hc) (by decide))
  refine X.go 500 _ _ ?_
  cbv
  refine X.calls [] (bytes_ok s hroom va vp vw vo out tick ht hva hvp hvw hvo hout) (by cbv) (by cbv <;> ((repeat' apply And.intro) <;> first | rfl | trivial)) (by cbv) ?_
  refine X.go 500 _ _ ?_
  cbv
  refine X.str _ _ _ _ rs (by rw [hrs, S_bytes, hout]) ?_
  refine X.go 500 _ _ ?_
  cbv
  refine X.calls [] (refBytes_ok s hroom va vp vw vo tick ht hva hvp hvw hvo rs hrs) (by cbv) (by cbv <;> ((repeat' apply And.intro) <;> first | rfl | trivial)) (by cbv) ?_
  refine X.go 500 _ _ ?_
  cbv
  refine X.split _ _ _ _ _ (fun _ => ?_) (fun hc => absurd ((heq _).symm.trans hc) (by decide))
  refine X.go 500 _ _ ?_
  cbv
  refine X.str _ _ _ _ bs (by rw [hbs, S_bytes, hvb]) ?_
  refine X.go 500 _ _ ?_
  cbv
  refine X.calls [] (worldSum_ok b hb vb hvb d2 hd2) (by cbv) (by cbv <;> ((repeat' apply And.intro) <;> first | rfl | trivial)) (by cbv) ?_
  refine X.go 500 _ _ ?_
  cbv
  refine X.calls [] (refSum_ok b hb bs hbs d2 hd2) (by cbv) (by cbv <;> ((repeat' apply And.intro) <;> first | rfl | trivial)) (by cbv) ?_
  refine X.go 500 _ _ ?_
  cbv
  refine X.split _ _ _ _ _ (fun _ => ?_) (fun hc => absurd ((hieq _).symm.trans hc) (by decide))
  refine X.go 500 _ _ ?_
  cbv
  refine X.calls [] (digest_ok s hroom va vp vw vo tick ht hva hvp hvw hvo d1 hd1) (by cbv) (by cbv <;> ((repeat' apply And.intro) <;> first | rfl | trivial)) (by cbv) ?_
  refine X.go 500 _ _ ?_
  cbv
  refine X.calls [] (refBytes_ok s hroom va vp vw vo tick ht hva hvp hvw hvo rs hrs) (by cbv) (by cbv <;> ((repeat' apply And.intro) <;> first | rfl | trivial)) (by cbv) ?_
  refine X.go 500 _ _ ?_
  cbv
  refine X.calls [] (refSum_ok s.L (by omega) rs hrs d1 hd1) (by cbv) (by cbv <;> ((repeat' apply And.intro) <;> first | rfl | trivial)) (by cbv) ?_
  refine X.go 500 _ _ ?_
  cbv
  refine X.ret _ (X.done rfl ?_)
  cbv
  refine ⟨?_, trivial⟩
  exact congrArg AE.AV.b (hieq d1)
end Go.Proofs.Ytjbnffclpebkkaa
