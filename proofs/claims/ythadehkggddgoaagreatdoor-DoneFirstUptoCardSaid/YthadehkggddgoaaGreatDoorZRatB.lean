/- Contracts: rat.Of, Sign, Neg, Abs, Mul, Add, Sub, Div, Cmp, Min, Max, Small. -/
import Derived.Test.YthadehkggddgoaaGreatDoorZRat
set_option linter.unusedVariables false
set_option linter.unusedSimpArgs false
namespace Go.Proofs.YthadehkggddgoaaGreatDoor
open Go Go.Num
theorem shareG {A : AE.Ari} {P : Program} {T : AE.Tab} {fn : Func} {n0 : Nat} {own' : List AE.OB} {res : AE.AV} {GG : (Nat → Option Obj) → Prop} (X : AE.Walk A P T fn n0 own' res GG) {s0 s : AE.Stop} (h : X.G s → X.G s0) (h2 : X.G s) : X.G s0 := h h2
theorem mkRat_one (z : Int) : mkRat z 1 = (z : Rat) := by
  show mkRat z 1 = Rat.ofInt z
  have := Rat.mkRat_self (Rat.ofInt z)
  exact this
theorem enc_mul_size (x y : Nat) : (enc (x * y)).size ≤ (enc x).size + (enc y).size := enc_size.2 (mul_lt_pow (enc_size.1 (Nat.le_refl _)) (enc_size.1 (Nat.le_refl _)))
theorem enc_add_size (x y : Nat) : (enc (x + y)).size ≤ max (enc x).size (enc y).size + 1 := by
  have h1 := enc_size.1 (Nat.le_max_left (enc x).size (enc y).size)
  have h2 := enc_size.1 (Nat.le_max_right (enc x).size (enc y).size)
  rw [enc_size, Nat.pow_succ]; omega
set_option maxRecDepth 100000 in
set_option maxHeartbeats 0 in
theorem ratOf_ok (n : Int) (h1 : -2 ^ 63 ≤ n) (h2 : n < 2 ^ 63) (r : Q) (hr : r = Q.of (n : Rat)) : AE.ACallG GG Tryz.prog 76 [] [.v (.int .i64 n)] [] (.a r.c) := by
  refine AE.ACallG.of_walk (fn := Tryz.f76) (c := bodyOf Tryz.f76) GG_stays tabOK Tryz.func76 rfl rfl mixed fun A hA X => ?_
  obtain ⟨s1, hs1⟩ : ∃ s1, s1 = enc 1 := ⟨_, rfl⟩
  have hone := enc_one
  by_cases h : 0 ≤ n
  · have c1 : A.cmp .geq n 0 = true := by rw [AE.c_geq hA]; simpa using h
    obtain ⟨s, hs⟩ : ∃ s, s = enc n.toNat := ⟨_, rfl⟩
    have k1 := natOf_ok n h2 s hs
    have hz : s.size ≤ 8 := by rw [hs, enc_size]; omega
    have k2 := made_ok false n.toNat 1 (by decide) s s1 hs hs1 (by omega) (by rw [hs1, enc_one]; decide) r (by rw [hr, mkRat_one]; congr 2; show _ = ((n.toNat : Nat) : Int); omega)
    rw [hs1, enc_one] at k2
    (repeat' (first | (refine X.go 500 _ _ ?_; cbv) | (first | refine X.splitT ?_ | refine X.splitF ?_ | refine X.split _ _ _ _ _ (fun hc => ?_) (fun hc => ?_)) | refine X.callsA [] k1 ?_ | refine X.callsGA [] k2 ?_ | refine X.need _ _ _ trivial ?_ | fail))
    all_goals (refine X.ret _ (X.done rfl ?_); cbv <;> ((repeat' apply And.intro) <;> first | rfl | trivial))
  · have c1 : A.cmp .geq n 0 = false := by rw [AE.c_geq hA]; simpa using h
    obtain ⟨m, hm⟩ : ∃ m : Int, m = -(n + 1) := ⟨_, rfl⟩
    have e1 : A.un .neg .i64 (A.bin .add .i64 n 1) = m := by
      subst hA
      rw [AE.std_add (by omega) (by omega), hm]
      exact (AE.wrap_i64 (n := 0 - (n + 1)) (by omega) (by omega)).trans (by omega)
    obtain ⟨s, hs⟩ : ∃ s, s = enc m.toNat := ⟨_, rfl⟩
    obtain ⟨t, ht⟩ : ∃ s, s = enc (m.toNat + 1) := ⟨_, rfl⟩
    have k1 := natOf_ok m (by omega) s hs
    have hz : s.size ≤ 8 := by rw [hs, enc_size]; omega
    have k3 := add_ok s s1 (by omega) (by rw [hs1, enc_one]; decide) t (by rw [ht, hs, hs1, bv_enc, bv_enc])
    have hz2 : t.size ≤ 9 := by rw [ht, enc_size]; omega
    have k2 := made_ok true (m.toNat + 1) 1 (by decide) t s1 ht hs1 (by omega) (by rw [hs1, enc_one]; decide) r (by rw [hr, mkRat_one]; congr 2; show _ = -((m.toNat + 1 : Nat) : Int); omega)
    rw [hs1, enc_one] at k2 k3
    rw [← e1] at k1
    (repeat' (first | (refine X.go 500 _ _ ?_; cbv) | (first | refine X.splitT ?_ | refine X.splitF ?_ | refine X.split _ _ _ _ _ (fun hc => ?_) (fun hc => ?_)) | refine X.callsA [] k1 ?_ | refine X.callsA [] k3 ?_ | refine X.callsGA [] k2 ?_ | refine X.need _ _ _ trivial ?_ | fail))
    all_goals (refine X.ret _ (X.done rfl ?_); cbv <;> ((repeat' apply And.intro) <;> first | rfl | trivial))
set_option maxRecDepth 100000 in
set_option maxHeartbeats 0 in
theorem sign_ok (q : Q) (h : q.sz ≤ 2 ^ 34) (r : Int) (hr : r = sgnR q.v) : AE.ACallG GG Tryz.prog 24 [] [.a q.c] [] (.v (.int .i64 r)) := by
  refine AE.ACallG.of_walk (fn := Tryz.f24) (c := bodyOf Tryz.f24) GG_stays tabOK Tryz.func24 rfl rfl mixed fun A hA X => ?_
  obtain ⟨f, hf⟩ : ∃ f, f = Q.of q.v := ⟨_, rfl⟩
  have k1 := fit_ok q h f hf
  by_cases h0 : q.v = 0
  · have c1 : A.scmp .eql f.num ⟨⟨[]⟩⟩ = true := by rw [c_seql hA, hf, decide_eq_true (Q.num_nil.2 h0)]
    have e1 : 0 = r := by rw [hr, sgnR, if_pos h0]
    (repeat' (first | (refine X.go 500 _ _ ?_; cbv) | (first | refine X.splitT ?_ | refine X.splitF ?_ | refine X.split _ _ _ _ _ (fun hc => ?_) (fun hc => ?_)) | refine X.callsGA [] k1 ?_ | refine X.need _ _ _ trivial ?_ | fail))
    all_goals (refine X.ret _ (X.done rfl ?_); cbv <;> ((repeat' apply And.intro) <;> first | exact e1 | rfl | trivial))
  have c1 : A.scmp .eql f.num ⟨⟨[]⟩⟩ = false := by rw [c_seql hA, hf, decide_eq_false (fun h => h0 (Q.num_nil.1 h))]
  by_cases hn : q.v < 0
  · have c2 : f.neg = true := by rw [hf]; exact neg_lt_zero.2 hn
    have e1 : -1 = r := by rw [hr, sgnR, if_neg h0, if_pos hn]
    (repeat' (first | (refine X.go 500 _ _ ?_; cbv) | (first | refine X.splitT ?_ | refine X.splitF ?_ | refine X.split _ _ _ _ _ (fun hc => ?_) (fun hc => ?_)) | refine X.callsGA [] k1 ?_ | refine X.need _ _ _ trivial ?_ | fail))
    all_goals (refine X.ret _ (X.done rfl ?_); cbv <;> ((repeat' apply And.intro) <;> first | exact e1 | rfl | trivial))
  · have c2 : f.neg = false := by rw [hf]; rw [← Bool.not_eq_true]; exact fun h => hn (neg_lt_zero.1 h)
    have e1 : 1 = r := by rw [hr, sgnR, if_neg h0, if_neg hn]
    (repeat' (first | (refine X.go 500 _ _ ?_; cbv) | (first | refine X.splitT ?_ | refine X.splitF ?_ | refine X.split _ _ _ _ _ (fun hc => ?_) (fun hc => ?_)) | refine X.callsGA [] k1 ?_ | refine X.need _ _ _ trivial ?_ | fail))
    all_goals (refine X.ret _ (X.done rfl ?_); cbv <;> ((repeat' apply And.intro) <;> first | exact e1 | rfl | trivial))
set_option maxRecDepth 100000 in
set_option maxHeartbeats 0 in
theorem ratNeg_ok (q : Q) (h : q.sz ≤ 2 ^ 34) (r : Q) (hr : r = Q.of (-q.v)) : AE.ACallG GG Tryz.prog 97 [] [.a q.c] [] (.a r.c) := by
  refine AE.ACallG.of_walk (fn := Tryz.f97) (c := bodyOf Tryz.f97) GG_stays tabOK Tryz.func97 rfl rfl mixed fun A hA X => ?_
  obtain ⟨f, hf⟩ : ∃ f, f = Q.of q.v := ⟨_, rfl⟩
  have k1 := fit_ok q h f hf
  rw [of_neg, ← hf] at hr
  have e2 : f.num = r.num := by rw [hr]
  have e3 : f.den = r.den := by rw [hr]
  cases hn : f.neg
  · have c1 : A.bnot f.neg = true := by rw [AE.c_not hA, hn]; rfl
    have e1 : A.scmp .neq f.num ⟨⟨[]⟩⟩ = r.neg := by rw [hr, c_sneq hA, hn]; simp
    (repeat' (first | (refine X.go 500 _ _ ?_; cbv) | (first | refine X.splitT ?_ | refine X.splitF ?_ | refine X.split _ _ _ _ _ (fun hc => ?_) (fun hc => ?_)) | refine X.callsGA [] k1 ?_ | refine X.need _ _ _ trivial ?_ | fail))
    all_goals (refine X.ret _ (X.done rfl ?_); cbv <;> ((repeat' apply And.intro) <;> first | exact e1 | exact e2 | exact e3 | rfl | trivial))
  · have c1 : A.bnot f.neg = false := by rw [AE.c_not hA, hn]; rfl
    have e1 : false = r.neg := by rw [hr, hn]; rfl
    (repeat' (first | (refine X.go 500 _ _ ?_; cbv) | (first | refine X.splitT ?_ | refine X.splitF ?_ | refine X.split _ _ _ _ _ (fun hc => ?_) (fun hc => ?_)) | refine X.callsGA [] k1 ?_ | refine X.need _ _ _ trivial ?_ | fail))
    all_goals (refine X.ret _ (X.done rfl ?_); cbv <;> ((repeat' apply And.intro) <;> first | exact e1 | exact e2 | exact e3 | rfl | trivial))
set_option maxRecDepth 100000 in
set_option maxHeartbeats 0 in
theorem ratAbs_ok (q : Q) (h : q.sz ≤ 2 ^ 34) (r : Q) (hr : r = Q.of (absR q.v)) : AE.ACallG GG Tryz.prog 34 [] [.a q.c] [] (.a r.c) := by
  refine AE.ACallG.of_walk (fn := Tryz.f34) (c := bodyOf Tryz.f34) GG_stays tabOK Tryz.func34 rfl rfl mixed fun A hA X => ?_
  obtain ⟨f, hf⟩ : ∃ f, f = Q.of q.v := ⟨_, rfl⟩
  have k1 := fit_ok q h f hf
  rw [of_abs, ← hf] at hr
  have e1 : false = r.neg := by rw [hr]
  have e2 : f.num = r.num := by rw [hr]
  have e3 : f.den = r.den := by rw [hr]
  (repeat' (first | (refine X.go 500 _ _ ?_; cbv) | (first | refine X.splitT ?_ | refine X.splitF ?_ | refine X.split _ _ _ _ _ (fun hc => ?_) (fun hc => ?_)) | refine X.callsGA [] k1 ?_ | refine X.need _ _ _ trivial ?_ | fail))
  all_goals (refine X.ret _ (X.done rfl ?_); cbv <;> ((repeat' apply And.intro) <;> first | exact e1 | exact e2 | exact e3 | rfl | trivial))
set_option maxRecDepth 100000 in
set_option maxHeartbeats 0 in
theorem ratMul_ok (a b : Q) (h1 : a.sz ≤ 2 ^ 32) (h2 : b.sz ≤ 2 ^ 32) (r : Q) (hr : r = Q.of (a.v * b.v)) : AE.ACallG GG Tryz.prog 69 [] [.a a.c, .a b.c] [] (.a r.c) := by
  refine AE.ACallG.of_walk (fn := Tryz.f69) (c := bodyOf Tryz.f69) GG_stays tabOK Tryz.func69 rfl rfl mixed fun A hA X => ?_
  obtain ⟨f, hf⟩ : ∃ f, f = Q.of a.v := ⟨_, rfl⟩
  obtain ⟨g, hg⟩ : ∃ f, f = Q.of b.v := ⟨_, rfl⟩
  have k1 := fit_ok a (by omega) f hf
  have k2 := fit_ok b (by omega) g hg
  have ra := a.rs
  have rb := b.rs
  have hz : ∀ {x : Rat} {q : Q}, q.sz ≤ 2 ^ 32 → rs x ≤ q.sz + 1 → (enc x.num.natAbs).size ≤ 2 ^ 32 + 1 ∧ (enc x.den).size ≤ 2 ^ 32 + 1 := fun h1 h2 => ⟨Nat.le_trans (rs_num _) (by omega), Nat.le_trans (rs_den _) (by omega)⟩
  obtain ⟨za1, za2⟩ := hz h1 ra
  obtain ⟨zb1, zb2⟩ := hz h2 rb
  obtain ⟨n, hn⟩ : ∃ n, n = enc (a.v.num.natAbs * b.v.num.natAbs) := ⟨_, rfl⟩
  obtain ⟨d, hd⟩ : ∃ n, n = enc (a.v.den * b.v.den) := ⟨_, rfl⟩
  have fn : f.num = enc a.v.num.natAbs := by rw [hf]; rfl
  have fd : f.den = enc a.v.den := by rw [hf]; rfl
  have gn : g.num = enc b.v.num.natAbs := by rw [hg]; rfl
  have gd : g.den = enc b.v.den := by rw [hg]; rfl
  have k3 := natMul_ok f.num g.num (by rw [fn]; omega) (by rw [gn]; omega) n (by rw [hn, fn, gn, bv_enc, bv_enc])
  have k4 := natMul_ok f.den g.den (by rw [fd]; omega) (by rw [gd]; omega) d (by rw [hd, fd, gd, bv_enc, bv_enc])
  have hneg : A.bcmp .neq f.neg g.neg = (f.neg != g.neg) := AE.c_bne hA _ _
  have k5 := made_ok (A.bcmp .neq f.neg g.neg) (a.v.num.natAbs * b.v.num.natAbs) (a.v.den * b.v.den) (Nat.mul_ne_zero a.v.den_nz b.v.den_nz) n d hn hd
    (by rw [hn]; exact Nat.le_trans (enc_mul_size _ _) (by omega)) (by rw [hd]; exact Nat.le_trans (enc_mul_size _ _) (by omega)) r (by rw [hneg, sg_mul2, hf, hg, sg_num, sg_num, mul_mk rfl, hr])
  (refine X.go 500 _ _ ?_; cbv)
  refine X.drawX _ _ _ (by kernel_rfl) ?_
  (repeat' (first | (refine X.go 500 _ _ ?_; cbv) | (first | refine X.splitT ?_ | refine X.splitF ?_ | refine X.split _ _ _ _ _ (fun hc => ?_) (fun hc => ?_)) | refine X.need _ _ _ trivial ?_ | refine X.fork _ _ ?_ ?_ | refine X.callsGA [] k1 ?_ | refine X.callsGA [] k2 ?_ | fail))
  all_goals refine X.drawX _ _ _ (by kernel_rfl) (X.frzB 0 _ _ (Nat.zero_le _) (X.frzB 1 _ _ (Nat.zero_le _) ?_))
  all_goals (repeat' (first | (refine X.go 500 _ _ ?_; cbv) | (first | refine X.splitT ?_ | refine X.splitF ?_ | refine X.split _ _ _ _ _ (fun hc => ?_) (fun hc => ?_)) | refine X.need _ _ _ trivial ?_ | refine X.callsA [] k3 ?_ | refine X.callsA [] k4 ?_ | refine X.callsGA [] k5 ?_ | fail))
  all_goals (refine X.ret _ (X.done rfl ?_); cbv <;> ((repeat' apply And.intro) <;> first | rfl | trivial))
end Go.Proofs.YthadehkggddgoaaGreatDoor
