/- Contracts: gantmake.poly, arm. -/
import Derived.Test.YthadehkggddgoaaGreatDoorZMake
set_option maxRecDepth 100000
set_option maxHeartbeats 0
set_option linter.unusedVariables false
set_option linter.unusedSectionVars false
set_option linter.unusedSimpArgs false
namespace Go.Proofs.YthadehkggddgoaaGreatDoor
open Go Go.Num
theorem makeAtE {x y X Y : Int} (hx : x = X) (hy : y = Y) (bx : -(2 ^ 50) ≤ X ∧ X ≤ 2 ^ 50) (by_ : -(2 ^ 50) ≤ Y ∧ Y ≤ 2 ^ 50) (r : V2) (hr : r = atM X Y) : AE.ACall Tryz.prog 139 [] [.v (.int .i64 x), .v (.int .i64 y)] [] (.a r.c) := by
  subst hx; subst hy; exact makeAt_ok _ _ bx by_ r hr
theorem makeOfE {x d X D : Int} (hx : x = X) (hd : d = D) (bx : -(2 ^ 50) ≤ X ∧ X ≤ 2 ^ 50) (bd : 1 ≤ D ∧ D ≤ 2 ^ 50) (r : Q) (hr : r = Q.of (mkRat X D.toNat)) : AE.ACall Tryz.prog 19 [] [.v (.int .i64 x), .v (.int .i64 d)] [] (.a r.c) := by
  subst hx; subst hd; exact makeOf_ok _ _ bx bd r hr
theorem nextE {n N : Int} (hn : n = N) (l : List Int) (hl : l.length < 2 ^ 40) (bn : N ≤ 2 ^ 40) {a : Int} {l' : List Int} (h : nextM N l = (a, l')) (e e' : List (List AE.AV)) (he : e = lsAv numC l) (he' : e' = lsAv numC l') : AE.ACall Tryz.prog 135 [.box [.l 1 e] 188] [.p 0 0, .v (.int .i64 n)] [.box [.l 1 e'] 188] (.v (.int .i64 a)) := by
  subst hn; exact next_ok l hl n bn e e' he (by rw [he', h]) a (by rw [h])
theorem next_bd {n : Int} {l l' : List Int} {a : Int} (h : nextM n l = (a, l')) (hn : 0 < n) : 0 ≤ a ∧ a < n ∧ l'.length ≤ l.length := by
  have h1 := nextM_rng n l
  have h2 := nextM_len n l
  rw [h] at h1 h2
  simp only at h1 h2
  exact ⟨h1.1, by omega, h2⟩
section
variable {A : AE.Ari} (hA : A = AE.std)
include hA
theorem zadd {x y X Y : Int} (hx : x = X) (hy : y = Y) (h : -(2 ^ 60) ≤ X + Y ∧ X + Y ≤ 2 ^ 60) : A.bin .add .i64 x y = X + Y := by subst hA; subst hx; subst hy; exact AE.std_add (by omega) (by omega)
theorem zsub {x y X Y : Int} (hx : x = X) (hy : y = Y) (h : -(2 ^ 60) ≤ X - Y ∧ X - Y ≤ 2 ^ 60) : A.bin .sub .i64 x y = X - Y := by subst hA; subst hx; subst hy; exact AE.std_sub (by omega) (by omega)
theorem zmul {x y X Y : Int} (hx : x = X) (hy : y = Y) (h : -(2 ^ 60) ≤ X * Y ∧ X * Y ≤ 2 ^ 60) : A.bin .mul .i64 x y = X * Y := by subst hA; subst hx; subst hy; exact AE.wrap_i64 (by omega) (by omega)
theorem zneg {x X : Int} (hx : x = X) (h : -(2 ^ 60) ≤ X ∧ X ≤ 2 ^ 60) : A.un .neg .i64 x = -X := by subst hx; exact wrap_small hA (by omega)
end
def polyM (l0 : List Int) : List V2 × List Int :=
  match nextM 6 l0 with
  | (a, l1) => match nextM 6 l1 with
    | (b, l2) => match nextM 4 l2 with
      | (c, l3) =>
        if c = 0 then ([atM (-(1 + a)) (-(1 + b)), atM (1 + a) (-(1 + b)), atM (1 + a) (1 + b), atM (-(1 + a)) (1 + b)], l3)
        else if c = 1 then match nextM (2 * (1 + a) + 1) l3 with
          | (d, l4) => ([atM (-(1 + a)) (-(1 + b)), atM (1 + a) (-(1 + b)), atM (d - (1 + a)) (1 + b)], l4)
        else if c = 2 then ([atM (-(1 + a) - 1) (-(1 + b) - 1), atM (1 + a) (-(1 + b) - 1), atM (1 + a + 1) (-(1 + b)), atM (1 + a + 1) (1 + b), atM (-(1 + a) - 1) (1 + b)], l3)
        else ([atM (-(1 + a)) 0, atM 0 (-(1 + b)), atM (1 + a) 0, atM 0 (1 + b)], l3)
theorem makePoly_ok (l0 : List Int) (hl : l0.length < 2 ^ 40) (e0 er : List (List AE.AV)) (he0 : e0 = lsAv numC l0) (her : er = lsAv numC (polyM l0).2) (es : List (List AE.AV)) (hes : es = lsAv V2.c (polyM l0).1) : AE.ACall Tryz.prog 138 [.box [.l 1 e0] 188] [.p 0 0] [.box [.l 1 er] 188] (.l 6 es) := by
  refine AE.ACall.of_walk (fn := Tryz.f138) (c := bodyOf Tryz.f138) tabOK Tryz.func138 rfl rfl mixed fun A hA X => ?_
  obtain ⟨a, l1, h1⟩ : ∃ a l, nextM 6 l0 = (a, l) := ⟨_, _, rfl⟩
  obtain ⟨b, l2, h2⟩ : ∃ a l, nextM 6 l1 = (a, l) := ⟨_, _, rfl⟩
  obtain ⟨c, l3, h3⟩ : ∃ a l, nextM 4 l2 = (a, l) := ⟨_, _, rfl⟩
  have b1 := next_bd h1 (by decide)
  have b2 := next_bd h2 (by decide)
  have b3 := next_bd h3 (by decide)
  obtain ⟨e1, he1⟩ : ∃ e, e = lsAv numC l1 := ⟨_, rfl⟩
  obtain ⟨e2, he2⟩ : ∃ e, e = lsAv numC l2 := ⟨_, rfl⟩
  obtain ⟨e3, he3⟩ : ∃ e, e = lsAv numC l3 := ⟨_, rfl⟩
  have n1 := nextE (n := 6) rfl l0 hl (by decide) h1 e0 e1 he0 he1
  have n2 := nextE (n := 6) rfl l1 (by omega) (by decide) h2 e1 e2 he1 he2
  have n3 := nextE (n := 4) rfl l2 (by omega) (by decide) h3 e2 e3 he2 he3
  have w1 : A.bin .add .i64 1 a = 1 + a := zadd hA rfl rfl (by omega)
  have w2 : A.bin .add .i64 1 b = 1 + b := zadd hA rfl rfl (by omega)
  have m1 := zneg hA w1 (by omega)
  have m2 := zneg hA w2 (by omega)
  have hp : polyM l0 = if c = 0 then ([atM (-(1 + a)) (-(1 + b)), atM (1 + a) (-(1 + b)), atM (1 + a) (1 + b), atM (-(1 + a)) (1 + b)], l3)
        else if c = 1 then (match nextM (2 * (1 + a) + 1) l3 with
          | (d, l4) => ([atM (-(1 + a)) (-(1 + b)), atM (1 + a) (-(1 + b)), atM (d - (1 + a)) (1 + b)], l4))
        else if c = 2 then ([atM (-(1 + a) - 1) (-(1 + b) - 1), atM (1 + a) (-(1 + b) - 1), atM (1 + a + 1) (-(1 + b)), atM (1 + a + 1) (1 + b), atM (-(1 + a) - 1) (1 + b)], l3)
        else ([atM (-(1 + a)) 0, atM 0 (-(1 + b)), atM (1 + a) 0, atM 0 (1 + b)], l3) := by
    simp only [polyM, h1, h2, h3]
  by_cases hc0 : c = 0
  · rw [hp, if_pos hc0] at her hes
    have c1 : A.cmp .eql c 0 = true := by rw [AE.c_eql hA]; exact decide_eq_true hc0
    obtain ⟨p1, i1⟩ : ∃ p, p = atM (-(1 + a)) (-(1 + b)) := ⟨_, rfl⟩
    obtain ⟨p2, i2⟩ : ∃ p, p = atM (1 + a) (-(1 + b)) := ⟨_, rfl⟩
    obtain ⟨p3, i3⟩ : ∃ p, p = atM (1 + a) (1 + b) := ⟨_, rfl⟩
    obtain ⟨p4, i4⟩ : ∃ p, p = atM (-(1 + a)) (1 + b) := ⟨_, rfl⟩
    have k1 := makeAtE m1 m2 (by omega) (by omega) p1 i1
    have k2 := makeAtE w1 m2 (by omega) (by omega) p2 i2
    have k3 := makeAtE w1 w2 (by omega) (by omega) p3 i3
    have k4 := makeAtE m1 w2 (by omega) (by omega) p4 i4
    have f1 : [p1.c, p2.c, p3.c, p4.c] = es := by rw [hes, lsAv_eq, ← i1, ← i2, ← i3, ← i4]; rfl
    have f2 : e3 = er := by rw [he3, her]
    (repeat' (first | (refine X.g ?_; cbv) | refine X.splitT ?_ | refine X.splitF ?_ | refine X.sp (fun hc => ?_) (fun hc => ?_) | refine X.needT ?_ | (refine X.calls [0] n1 ?_ ?_ ?_ ?_; (focus (cbv; done)); (focus (cbv <;> (and_intros <;> first | rfl | trivial))); (focus (cbv; done))) | (refine X.calls [0] n2 ?_ ?_ ?_ ?_; (focus (cbv; done)); (focus (cbv <;> (and_intros <;> first | rfl | trivial))); (focus (cbv; done))) | (refine X.calls [0] n3 ?_ ?_ ?_ ?_; (focus (cbv; done)); (focus (cbv <;> (and_intros <;> first | rfl | trivial))); (focus (cbv; done))) | refine X.callsA [] k1 ?_ | refine X.callsA [] k2 ?_ | refine X.callsA [] k3 ?_ | refine X.callsA [] k4 ?_))
    all_goals (refine X.ret _ (X.frz 1 _ _ (X.done rfl ?_)); cbv <;> (and_intros <;> first | exact f1 | exact f2 | rfl | trivial))
  have c1 : A.cmp .eql c 0 = false := by rw [AE.c_eql hA]; exact decide_eq_false hc0
  by_cases hc1 : c = 1
  · obtain ⟨d, l4, h4⟩ : ∃ x l, nextM (2 * (1 + a) + 1) l3 = (x, l) := ⟨_, _, rfl⟩
    have b4 := next_bd h4 (by omega)
    obtain ⟨e4, he4⟩ : ∃ e, e = lsAv numC l4 := ⟨_, rfl⟩
    rw [hp, if_neg hc0, if_pos hc1, h4] at her hes
    simp only at her hes
    have c2 : A.cmp .eql c 1 = true := by rw [AE.c_eql hA]; exact decide_eq_true hc1
    have w3 := zadd hA (zmul hA (x := 2) rfl w1 (by omega)) (y := 1) rfl (by omega)
    have n4 := nextE w3 l3 (by omega) (by omega) h4 e3 e4 he3 he4
    have w4 := zsub hA (x := d) rfl w1 (by omega)
    obtain ⟨p1, i1⟩ : ∃ p, p = atM (-(1 + a)) (-(1 + b)) := ⟨_, rfl⟩
    obtain ⟨p2, i2⟩ : ∃ p, p = atM (1 + a) (-(1 + b)) := ⟨_, rfl⟩
    obtain ⟨p3, i3⟩ : ∃ p, p = atM (d - (1 + a)) (1 + b) := ⟨_, rfl⟩
    have k1 := makeAtE m1 m2 (by omega) (by omega) p1 i1
    have k2 := makeAtE w1 m2 (by omega) (by omega) p2 i2
    have k3 := makeAtE w4 w2 (by omega) (by omega) p3 i3
    have f1 : [p1.c, p2.c, p3.c] = es := by rw [hes, lsAv_eq, ← i1, ← i2, ← i3]; rfl
    have f2 : e4 = er := by rw [he4, her]
    (repeat' (first | (refine X.g ?_; cbv) | refine X.splitT ?_ | refine X.splitF ?_ | refine X.sp (fun hc => ?_) (fun hc => ?_) | refine X.needT ?_ | (refine X.calls [0] n1 ?_ ?_ ?_ ?_; (focus (cbv; done)); (focus (cbv <;> (and_intros <;> first | rfl | trivial))); (focus (cbv; done))) | (refine X.calls [0] n2 ?_ ?_ ?_ ?_; (focus (cbv; done)); (focus (cbv <;> (and_intros <;> first | rfl | trivial))); (focus (cbv; done))) | (refine X.calls [0] n3 ?_ ?_ ?_ ?_; (focus (cbv; done)); (focus (cbv <;> (and_intros <;> first | rfl | trivial))); (focus (cbv; done))) | (refine X.calls [0] n4 ?_ ?_ ?_ ?_; (focus (cbv; done)); (focus (cbv <;> (and_intros <;> first | rfl | trivial))); (focus (cbv; done))) | refine X.callsA [] k1 ?_ | refine X.callsA [] k2 ?_ | refine X.callsA [] k3 ?_))
    all_goals (refine X.ret _ (X.frz 1 _ _ (X.done rfl ?_)); cbv <;> (and_intros <;> first | exact f1 | exact f2 | rfl | trivial))
  have c2 : A.cmp .eql c 1 = false := by rw [AE.c_eql hA]; exact decide_eq_false hc1
  by_cases hc2 : c = 2
  · rw [hp, if_neg hc0, if_neg hc1, if_pos hc2] at her hes
    have c3 : A.cmp .eql c 2 = true := by rw [AE.c_eql hA]; exact decide_eq_true hc2
    have m3 := zsub hA m1 (y := 1) rfl (by omega)
    have m4 := zsub hA m2 (y := 1) rfl (by omega)
    have w3 := zadd hA w1 (y := 1) rfl (by omega)
    obtain ⟨p1, i1⟩ : ∃ p, p = atM (-(1 + a) - 1) (-(1 + b) - 1) := ⟨_, rfl⟩
    obtain ⟨p2, i2⟩ : ∃ p, p = atM (1 + a) (-(1 + b) - 1) := ⟨_, rfl⟩
    obtain ⟨p3, i3⟩ : ∃ p, p = atM (1 + a + 1) (-(1 + b)) := ⟨_, rfl⟩
    obtain ⟨p4, i4⟩ : ∃ p, p = atM (1 + a + 1) (1 + b) := ⟨_, rfl⟩
    obtain ⟨p5, i5⟩ : ∃ p, p = atM (-(1 + a) - 1) (1 + b) := ⟨_, rfl⟩
    have k1 := makeAtE m3 m4 (by omega) (by omega) p1 i1
    have k2 := makeAtE w1 m4 (by omega) (by omega) p2 i2
    have k3 := makeAtE w3 m2 (by omega) (by omega) p3 i3
    have k4 := makeAtE w3 w2 (by omega) (by omega) p4 i4
    have k5 := makeAtE m3 w2 (by omega) (by omega) p5 i5
    have f1 : [p1.c, p2.c, p3.c, p4.c, p5.c] = es := by rw [hes, lsAv_eq, ← i1, ← i2, ← i3, ← i4, ← i5]; rfl
    have f2 : e3 = er := by rw [he3, her]
    (repeat' (first | (refine X.g ?_; cbv) | refine X.splitT ?_ | refine X.splitF ?_ | refine X.sp (fun hc => ?_) (fun hc => ?_) | refine X.needT ?_ | (refine X.calls [0] n1 ?_ ?_ ?_ ?_; (focus (cbv; done)); (focus (cbv <;> (and_intros <;> first | rfl | trivial))); (focus (cbv; done))) | (refine X.calls [0] n2 ?_ ?_ ?_ ?_; (focus (cbv; done)); (focus (cbv <;> (and_intros <;> first | rfl | trivial))); (focus (cbv; done))) | (refine X.calls [0] n3 ?_ ?_ ?_ ?_; (focus (cbv; done)); (focus (cbv <;> (and_intros <;> first | rfl | trivial))); (focus (cbv; done))) | refine X.callsA [] k1 ?_ | refine X.callsA [] k2 ?_ | refine X.callsA [] k3 ?_ | refine X.callsA [] k4 ?_ | refine X.callsA [] k5 ?_))
    all_goals (refine X.ret _ (X.frz 1 _ _ (X.done rfl ?_)); cbv <;> (and_intros <;> first | exact f1 | exact f2 | rfl | trivial))
  · rw [hp, if_neg hc0, if_neg hc1, if_neg hc2] at her hes
    have c3 : A.cmp .eql c 2 = false := by rw [AE.c_eql hA]; exact decide_eq_false hc2
    obtain ⟨p1, i1⟩ : ∃ p, p = atM (-(1 + a)) 0 := ⟨_, rfl⟩
    obtain ⟨p2, i2⟩ : ∃ p, p = atM 0 (-(1 + b)) := ⟨_, rfl⟩
    obtain ⟨p3, i3⟩ : ∃ p, p = atM (1 + a) 0 := ⟨_, rfl⟩
    obtain ⟨p4, i4⟩ : ∃ p, p = atM 0 (1 + b) := ⟨_, rfl⟩
    have k1 := makeAtE m1 (y := 0) rfl (by omega) (by omega) p1 i1
    have k2 := makeAtE (x := 0) rfl m2 (by omega) (by omega) p2 i2
    have k3 := makeAtE w1 (y := 0) rfl (by omega) (by omega) p3 i3
    have k4 := makeAtE (x := 0) rfl w2 (by omega) (by omega) p4 i4
    have f1 : [p1.c, p2.c, p3.c, p4.c] = es := by rw [hes, lsAv_eq, ← i1, ← i2, ← i3, ← i4]; rfl
    have f2 : e3 = er := by rw [he3, her]
    (repeat' (first | (refine X.g ?_; cbv) | refine X.splitT ?_ | refine X.splitF ?_ | refine X.sp (fun hc => ?_) (fun hc => ?_) | refine X.needT ?_ | (refine X.calls [0] n1 ?_ ?_ ?_ ?_; (focus (cbv; done)); (focus (cbv <;> (and_intros <;> first | rfl | trivial))); (focus (cbv; done))) | (refine X.calls [0] n2 ?_ ?_ ?_ ?_; (focus (cbv; done)); (focus (cbv <;> (and_intros <;> first | rfl | trivial))); (focus (cbv; done))) | (refine X.calls [0] n3 ?_ ?_ ?_ ?_; (focus (cbv; done)); (focus (cbv <;> (and_intros <;> first | rfl | trivial))); (focus (cbv; done))) | refine X.callsA [] k1 ?_ | refine X.callsA [] k2 ?_ | refine X.callsA [] k3 ?_ | refine X.callsA [] k4 ?_))
    all_goals (refine X.ret _ (X.frz 1 _ _ (X.done rfl ?_)); cbv <;> (and_intros <;> first | exact f1 | exact f2 | rfl | trivial))
end Go.Proofs.YthadehkggddgoaaGreatDoor
