/- Contracts: rat.zero, Good, fit, made, signed. -/
import Derived.Test.YthadehkggddgoaaGreatDoorZGcd
import Derived.Test.YthadehkggddgoaaGreatDoorZAdd
import Derived.Test.YthadehkggddgoaaGreatDoorZMul
import Derived.Test.YthadehkggddgoaaGreatDoorZData
set_option linter.unusedVariables false
set_option linter.unusedSimpArgs false
namespace Go.Proofs.YthadehkggddgoaaGreatDoor
open Go Go.Num
theorem zero_ok (r : Q) (hr : r = Q.of 0) : AE.ACall Tryz.prog 152 [] [] [] (.a r.c) := by
  refine AE.ACall.of_walk (fn := Tryz.f152) (c := bodyOf Tryz.f152) tabOK Tryz.func152 rfl rfl mixed fun A hA X => ?_
  have e1 : false = r.neg := by rw [hr, Q.of_zero]
  have e2 : (⟨⟨[]⟩⟩ : ByteArray) = r.num := by rw [hr, Q.of_zero]
  have e3 : (⟨⟨[1]⟩⟩ : ByteArray) = r.den := by rw [hr, Q.of_zero]
  (repeat' (first | (refine X.go 500 _ _ ?_; cbv) | (first | refine X.splitT ?_ | refine X.splitF ?_ | refine X.split _ _ _ _ _ (fun hc => ?_) (fun hc => ?_)) | refine X.need _ _ _ trivial ?_ | fail))
  all_goals (refine X.ret _ (X.done rfl ?_); cbv <;> ((repeat' apply And.intro) <;> first | exact e1 | exact e2 | exact e3 | rfl | trivial))
theorem ba_cons {s : ByteArray} (h : s ≠ ⟨⟨[]⟩⟩) : ∃ b l, s.data.toList = b :: l := by
  cases hl : s.data.toList with
  | nil => exact absurd (ba_ext (by rw [hl])) h
  | cons b l => exact ⟨b, l, rfl⟩
theorem bv_cons {s : ByteArray} {b : UInt8} {l : List UInt8} (h : s.data.toList = b :: l) (hb : b ≠ 0) : bv s ≠ 0 := by
  rw [bv, h]
  have := val_ge (l := l) hb
  have := Nat.pow_pos (n := l.length) (show 0 < 256 by decide)
  omega
set_option maxRecDepth 100000 in
set_option maxHeartbeats 0 in
theorem good_ok (q : Q) (h : q.sz ≤ 2 ^ 34) (r : Bool) (hr : r = decide q.Good) : AE.ACallG GG Tryz.prog 62 [] [.a q.c] [] (.b r) := by
  have h1 := Q.le1 h
  have h2 := Q.le2 h
  obtain ⟨neg, num, den⟩ := q
  simp only [Q.c] at h1 h2 ⊢
  refine AE.ACallG.of_walk (fn := Tryz.f62) (c := bodyOf Tryz.f62) GG_stays tabOK Tryz.func62 rfl rfl mixed fun A hA X => ?_
  have hbad : ¬ (Q.Good ⟨neg, num, den⟩) → false = r := fun h => by rw [hr, decide_eq_false h]
  obtain ⟨g, hg⟩ : ∃ g, g = enc (Nat.gcd (bv num) (bv den)) := ⟨_, rfl⟩
  have k1 := gcd_ok num den h1 h2 g hg
  have hgood : Nat.gcd (bv num) (bv den) = 1 → (num.data.toList.head? ≠ some 0) → (den.data.toList.head? ≠ some 0) → bv den ≠ 0 → (bv num = 0 → neg = false) → true = r := fun a b c d e => by rw [hr, decide_eq_true (show Q.Good ⟨neg, num, den⟩ from ⟨b, c, d, e, a⟩)]
  by_cases hd0 : den = ⟨⟨[]⟩⟩
  · have d1 : A.scmp .eql den ⟨⟨[]⟩⟩ = true := by rw [c_seql hA, decide_eq_true hd0]
    have hb := hbad fun h => by obtain ⟨_, _, h, _⟩ := h; rw [hd0] at h; exact h rfl
    (repeat' (first | (refine X.go 500 _ _ ?_; cbv) | (first | refine X.splitT ?_ | refine X.splitF ?_ | refine X.split _ _ _ _ _ (fun hc => ?_) (fun hc => ?_)) | refine X.need _ _ _ trivial ?_ | fail))
    all_goals (refine X.ret _ (X.done rfl ?_); cbv <;> ((repeat' apply And.intro) <;> first | exact hb | rfl | trivial))
  have d1 : A.scmp .eql den ⟨⟨[]⟩⟩ = false := by rw [c_seql hA, decide_eq_false hd0]
  obtain ⟨b, l, hl⟩ := ba_cons hd0
  have ib : A.sidx den 0 = b.toNat := by subst hA; exact bAt_get (i := 0) (by rw [hl]; rfl)
  have inb : AE.InR 0 (A.slen den) := ⟨by omega, by rw [slen hA, ← size_data, hl]; simp⟩
  by_cases hb0 : b = 0
  · have d2 : A.cmp .eql (A.sidx den 0) 0 = true := by rw [AE.c_eql hA, ib, hb0]; rfl
    have hb := hbad fun h => by obtain ⟨_, h, _⟩ := h; exact h (by rw [hl, hb0]; rfl)
    (repeat' (first | (refine X.go 500 _ _ ?_; cbv) | (first | refine X.splitT ?_ | refine X.splitF ?_ | refine X.split _ _ _ _ _ (fun hc => ?_) (fun hc => ?_)) | refine X.need _ _ _ inb ?_ | refine X.need _ _ _ trivial ?_ | fail))
    all_goals (refine X.ret _ (X.done rfl ?_); cbv <;> ((repeat' apply And.intro) <;> first | exact hb | rfl | trivial))
  have d2 : A.cmp .eql (A.sidx den 0) 0 = false := by
    rw [AE.c_eql hA, ib]; simp; intro h2; exact hb0 (UInt8.toNat_inj.1 (by simpa using h2))
  have hden : den.data.toList.head? ≠ some 0 := by rw [hl]; simpa using hb0
  have hden0 : bv den ≠ 0 := bv_cons hl hb0
  have hone : den = ⟨⟨[1]⟩⟩ ↔ bv den = 1 := by
    rw [← enc_one]; exact ⟨fun h => by rw [h, bv_enc], fun h => by rw [← enc_bv hden, h]⟩
  have hg1 : A.scmp .eql g ⟨⟨[1]⟩⟩ = decide (Nat.gcd (bv num) (bv den) = 1) := by
    rw [c_seql hA, hg, ← enc_one]; congr 1; exact propext ⟨fun h => enc_inj h, fun h => by rw [h]⟩
  by_cases hn0 : num = ⟨⟨[]⟩⟩
  · have n1 : A.scmp .eql num ⟨⟨[]⟩⟩ = true := by rw [c_seql hA, decide_eq_true hn0]
    have n2 : A.scmp .neq num ⟨⟨[]⟩⟩ = false := by rw [c_sneq hA, decide_eq_true hn0]; rfl
    have hv0 : bv num = 0 := by rw [hn0]; rfl
    have hnum : num.data.toList.head? ≠ some 0 := by rw [hn0]; simp
    by_cases hneg : neg = true
    · have hb := hbad fun h => by obtain ⟨_, _, _, h, _⟩ := h; have := h hv0; simp only at this; rw [hneg] at this; cases this
      (repeat' (first | (refine X.go 500 _ _ ?_; cbv) | (first | refine X.splitT ?_ | refine X.splitF ?_ | refine X.split _ _ _ _ _ (fun hc => ?_) (fun hc => ?_)) | refine X.need _ _ _ inb ?_ | refine X.need _ _ _ trivial ?_ | fail))
      all_goals (refine X.ret _ (X.done rfl ?_); cbv <;> ((repeat' apply And.intro) <;> first | exact hb | rfl | trivial))
    have hneg' : neg = false := by simpa using hneg
    by_cases ho : den = ⟨⟨[1]⟩⟩
    · have o1 : A.scmp .neq den ⟨⟨[1]⟩⟩ = false := by rw [c_sneq hA, decide_eq_true ho]; rfl
      have o2 : A.scmp .eql den ⟨⟨[1]⟩⟩ = true := by rw [c_seql hA, decide_eq_true ho]
      have hb := hgood (by rw [hone.1 ho, Nat.gcd_one_right]) hnum hden hden0 (fun _ => hneg')
      (repeat' (first | (refine X.go 500 _ _ ?_; cbv) | (first | refine X.splitT ?_ | refine X.splitF ?_ | refine X.split _ _ _ _ _ (fun hc => ?_) (fun hc => ?_)) | refine X.need _ _ _ inb ?_ | refine X.need _ _ _ trivial ?_ | fail))
      all_goals (refine X.ret _ (X.done rfl ?_); cbv <;> ((repeat' apply And.intro) <;> first | exact hb | rfl | trivial))
    · have o1 : A.scmp .neq den ⟨⟨[1]⟩⟩ = true := by rw [c_sneq hA, decide_eq_false ho]; rfl
      have hb := hbad fun h => by obtain ⟨_, _, _, _, h⟩ := h; simp only at h; rw [hv0, Nat.gcd_zero_left] at h; exact ho (hone.2 h)
      (repeat' (first | (refine X.go 500 _ _ ?_; cbv) | (first | refine X.splitT ?_ | refine X.splitF ?_ | refine X.split _ _ _ _ _ (fun hc => ?_) (fun hc => ?_)) | refine X.need _ _ _ inb ?_ | refine X.need _ _ _ trivial ?_ | fail))
      all_goals (refine X.ret _ (X.done rfl ?_); cbv <;> ((repeat' apply And.intro) <;> first | exact hb | rfl | trivial))
  have n1 : A.scmp .eql num ⟨⟨[]⟩⟩ = false := by rw [c_seql hA, decide_eq_false hn0]
  have n2 : A.scmp .neq num ⟨⟨[]⟩⟩ = true := by rw [c_sneq hA, decide_eq_false hn0]; rfl
  obtain ⟨c, l2, hl2⟩ := ba_cons hn0
  have ic : A.sidx num 0 = c.toNat := by subst hA; exact bAt_get (i := 0) (by rw [hl2]; rfl)
  have inc : AE.InR 0 (A.slen num) := ⟨by omega, by rw [slen hA, ← size_data, hl2]; simp⟩
  by_cases hc0 : c = 0
  · have d3 : A.cmp .eql (A.sidx num 0) 0 = true := by rw [AE.c_eql hA, ic, hc0]; rfl
    have hb := hbad fun h => by obtain ⟨h, _⟩ := h; exact h (by rw [hl2, hc0]; rfl)
    (repeat' (first | (refine X.go 500 _ _ ?_; cbv) | (first | refine X.splitT ?_ | refine X.splitF ?_ | refine X.split _ _ _ _ _ (fun hc => ?_) (fun hc => ?_)) | refine X.need _ _ _ inb ?_ | refine X.need _ _ _ inc ?_ | refine X.need _ _ _ trivial ?_ | fail))
    all_goals (refine X.ret _ (X.done rfl ?_); cbv <;> ((repeat' apply And.intro) <;> first | exact hb | rfl | trivial))
  have d3 : A.cmp .eql (A.sidx num 0) 0 = false := by
    rw [AE.c_eql hA, ic]; simp; intro h2; exact hc0 (UInt8.toNat_inj.1 (by simpa using h2))
  have hnum : num.data.toList.head? ≠ some 0 := by rw [hl2]; simpa using hc0
  have hnum0 : bv num ≠ 0 := bv_cons hl2 hc0
  by_cases ho : den = ⟨⟨[1]⟩⟩
  · have o2 : A.scmp .eql den ⟨⟨[1]⟩⟩ = true := by rw [c_seql hA, decide_eq_true ho]
    have hb := hgood (by rw [hone.1 ho, Nat.gcd_one_right]) hnum hden hden0 (fun h => absurd h hnum0)
    (repeat' (first | (refine X.go 500 _ _ ?_; cbv) | (first | refine X.splitT ?_ | refine X.splitF ?_ | refine X.split _ _ _ _ _ (fun hc => ?_) (fun hc => ?_)) | refine X.need _ _ _ inb ?_ | refine X.need _ _ _ inc ?_ | refine X.need _ _ _ trivial ?_ | fail))
    all_goals (refine X.ret _ (X.done rfl ?_); cbv <;> ((repeat' apply And.intro) <;> first | exact hb | rfl | trivial))
  · have o2 : A.scmp .eql den ⟨⟨[1]⟩⟩ = false := by rw [c_seql hA, decide_eq_false ho]
    have hb : A.scmp .eql g ⟨⟨[1]⟩⟩ = r := by
      rw [hg1, hr]
      congr 1
      exact propext ⟨fun h => ⟨hnum, hden, hden0, fun h => absurd h hnum0, h⟩, fun h => h.2.2.2.2⟩
    (repeat' (first | (refine X.go 500 _ _ ?_; cbv) | (first | refine X.splitT ?_ | refine X.splitF ?_ | refine X.split _ _ _ _ _ (fun hc => ?_) (fun hc => ?_)) | refine X.need _ _ _ inb ?_ | refine X.need _ _ _ inc ?_ | refine X.callsGA [] k1 ?_ | refine X.need _ _ _ trivial ?_ | fail))
    all_goals (refine X.ret _ (X.done rfl ?_); cbv <;> ((repeat' apply And.intro) <;> first | exact hb | rfl | trivial))
theorem fit_eq (q : Q) : (if q.Good then q else Q.of 0) = Q.of q.v := by
  split
  · rename_i h; exact (Q.of_v h).symm
  · rename_i h; rw [Q.v_bad h]
set_option maxRecDepth 100000 in
set_option maxHeartbeats 0 in
theorem fit_ok (q : Q) (h : q.sz ≤ 2 ^ 34) (r : Q) (hr : r = Q.of q.v) : AE.ACallG GG Tryz.prog 70 [] [.a q.c] [] (.a r.c) := by
  refine AE.ACallG.of_walk (fn := Tryz.f70) (c := bodyOf Tryz.f70) GG_stays tabOK Tryz.func70 rfl rfl mixed fun A hA X => ?_
  obtain ⟨g, hg⟩ : ∃ g, g = decide q.Good := ⟨_, rfl⟩
  have k1 := good_ok q h g hg
  rw [← fit_eq] at hr
  by_cases hq : q.Good
  · have c1 : g = true := by rw [hg, decide_eq_true hq]
    have c2 : A.bnot g = false := by rw [AE.c_not hA, c1]; rfl
    rw [if_pos hq] at hr
    subst hr
    (repeat' (first | (refine X.go 500 _ _ ?_; cbv) | (first | refine X.splitT ?_ | refine X.splitF ?_ | refine X.split _ _ _ _ _ (fun hc => ?_) (fun hc => ?_)) | refine X.callsGA [] k1 ?_ | refine X.need _ _ _ trivial ?_ | fail))
    all_goals (refine X.ret _ (X.done rfl ?_); cbv <;> ((repeat' apply And.intro) <;> first | rfl | trivial))
  · have c1 : g = false := by rw [hg, decide_eq_false hq]
    have c2 : A.bnot g = true := by rw [AE.c_not hA, c1]; rfl
    rw [if_neg hq] at hr
    have k2 := zero_ok r hr
    (repeat' (first | (refine X.go 500 _ _ ?_; cbv) | (first | refine X.splitT ?_ | refine X.splitF ?_ | refine X.split _ _ _ _ _ (fun hc => ?_) (fun hc => ?_)) | refine X.callsGA [] k1 ?_ | refine X.callsA [] k2 ?_ | refine X.need _ _ _ trivial ?_ | fail))
    all_goals (refine X.ret _ (X.done rfl ?_); cbv <;> ((repeat' apply And.intro) <;> first | rfl | trivial))
set_option maxRecDepth 100000 in
set_option maxHeartbeats 0 in
theorem made_ok (neg : Bool) (n d : Nat) (hd : d ≠ 0) (sn sd : ByteArray) (hn : sn = enc n) (hsd : sd = enc d) (h1 : sn.size ≤ 2 ^ 34) (h2 : sd.size ≤ 2 ^ 34) (r : Q) (hr : r = Q.of (mkRat (sg neg n) d)) : AE.ACallG GG Tryz.prog 72 [] [.b neg, .v (.string sn), .v (.string sd)] [] (.a r.c) := by
  refine AE.ACallG.of_walk (fn := Tryz.f72) (c := bodyOf Tryz.f72) GG_stays tabOK Tryz.func72 rfl rfl mixed fun A hA X => ?_
  by_cases h0 : n = 0
  · have c1 : A.scmp .eql sn ⟨⟨[]⟩⟩ = true := by rw [c_seql hA, hn, decide_eq_true (enc_nil.2 h0)]
    have k := zero_ok r (by rw [hr, h0, made_zero])
    (repeat' (first | (refine X.go 500 _ _ ?_; cbv) | (first | refine X.splitT ?_ | refine X.splitF ?_ | refine X.split _ _ _ _ _ (fun hc => ?_) (fun hc => ?_)) | refine X.callsA [] k ?_ | refine X.need _ _ _ trivial ?_ | fail))
    all_goals (refine X.ret _ (X.done rfl ?_); cbv <;> ((repeat' apply And.intro) <;> first | rfl | trivial))
  have c1 : A.scmp .eql sn ⟨⟨[]⟩⟩ = false := by rw [c_seql hA, hn, decide_eq_false (fun h => h0 (enc_nil.1 h))]
  rw [← made_red neg hd h0] at hr
  by_cases ho : d = 1
  · have c2 : A.scmp .neq sd ⟨⟨[1]⟩⟩ = false := by rw [c_sneq hA, hsd, ho, enc_one, decide_eq_true rfl]; rfl
    have hgd : Nat.gcd n d = 1 := by rw [ho]; exact Nat.gcd_one_right n
    have e2 : sn = r.num := by rw [hr, hn]; show _ = enc (n / _); rw [hgd, Nat.div_one]
    have e3 : sd = r.den := by rw [hr, hsd]; show _ = enc (d / _); rw [hgd, Nat.div_one]
    have e1 : neg = r.neg := by rw [hr]
    (repeat' (first | (refine X.go 500 _ _ ?_; cbv) | (first | refine X.splitT ?_ | refine X.splitF ?_ | refine X.split _ _ _ _ _ (fun hc => ?_) (fun hc => ?_)) | refine X.need _ _ _ trivial ?_ | fail))
    all_goals (refine X.ret _ (X.done rfl ?_); cbv <;> ((repeat' apply And.intro) <;> first | exact e1 | exact e2 | exact e3 | rfl | trivial))
  have c2 : A.scmp .neq sd ⟨⟨[1]⟩⟩ = true := by rw [c_sneq hA, hsd, ← enc_one, decide_eq_false (fun h => ho (enc_inj h))]; rfl
  obtain ⟨G, hG⟩ : ∃ G, G = Nat.gcd n d := ⟨_, rfl⟩
  obtain ⟨g, hg⟩ : ∃ g, g = enc G := ⟨_, rfl⟩
  have k1 := gcd_ok sn sd h1 h2 g (by rw [hg, hG, hn, hsd, bv_enc, bv_enc])
  have hG0 : G ≠ 0 := by rw [hG]; exact Nat.ne_of_gt (Nat.gcd_pos_of_pos_right _ (Nat.pos_of_ne_zero hd))
  by_cases hg1 : G = 1
  · have c3 : A.scmp .neq g ⟨⟨[1]⟩⟩ = false := by rw [c_sneq hA, hg, hg1, enc_one, decide_eq_true rfl]; rfl
    have e2 : sn = r.num := by rw [hr, hn]; show _ = enc (n / _); rw [← hG, hg1, Nat.div_one]
    have e3 : sd = r.den := by rw [hr, hsd]; show _ = enc (d / _); rw [← hG, hg1, Nat.div_one]
    have e1 : neg = r.neg := by rw [hr]
    (repeat' (first | (refine X.go 500 _ _ ?_; cbv) | (first | refine X.splitT ?_ | refine X.splitF ?_ | refine X.split _ _ _ _ _ (fun hc => ?_) (fun hc => ?_)) | refine X.callsGA [] k1 ?_ | refine X.need _ _ _ trivial ?_ | fail))
    all_goals (refine X.ret _ (X.done rfl ?_); cbv <;> ((repeat' apply And.intro) <;> first | exact e1 | exact e2 | exact e3 | rfl | trivial))
  · have c3 : A.scmp .neq g ⟨⟨[1]⟩⟩ = true := by rw [c_sneq hA, hg, ← enc_one, decide_eq_false (fun h => hg1 (enc_inj h))]; rfl
    have hgs : g.size ≤ 2 ^ 34 := by
      have h3 : g.size ≤ sd.size := by
        rw [hg, enc_size]
        exact Nat.lt_of_le_of_lt (by rw [hG]; exact Nat.gcd_le_right _ (Nat.pos_of_ne_zero hd)) (enc_size.1 (by rw [← hsd]; exact Nat.le_refl _))
      omega
    have e2 : enc (n / G) = r.num := by rw [hr, hG]
    have e3 : enc (d / G) = r.den := by rw [hr, hG]
    have e1 : neg = r.neg := by rw [hr]
    obtain ⟨u, hu⟩ : ∃ u, u = enc (n / G) := ⟨_, rfl⟩
    obtain ⟨u', hu'⟩ : ∃ u, u = enc (n % G) := ⟨_, rfl⟩
    obtain ⟨w, hw⟩ : ∃ u, u = enc (d / G) := ⟨_, rfl⟩
    obtain ⟨w', hw'⟩ : ∃ u, u = enc (d % G) := ⟨_, rfl⟩
    have k2 := div_ok sn g (by omega) (by omega) u u' 0 (by rw [hu, hn, hg, bv_enc, bv_enc]) (by rw [hg, hn, bv_enc, bv_enc, if_neg hG0, hu']) (by rw [hg, bv_enc, if_neg hG0])
    have k3 := div_ok sd g (by omega) (by omega) w w' 0 (by rw [hw, hsd, hg, bv_enc, bv_enc]) (by rw [hg, hsd, bv_enc, bv_enc, if_neg hG0, hw']) (by rw [hg, bv_enc, if_neg hG0])
    have e2' : u = r.num := hu.trans e2
    have e3' : w = r.den := hw.trans e3
    (repeat' (first | (refine X.go 500 _ _ ?_; cbv) | (first | refine X.splitT ?_ | refine X.splitF ?_ | refine X.split _ _ _ _ _ (fun hc => ?_) (fun hc => ?_)) | refine X.callsGA [] k1 ?_ | refine X.callsA [] k2 ?_ | refine X.callsA [] k3 ?_ | refine X.need _ _ _ trivial ?_ | fail))
    all_goals (refine X.ret _ (X.done rfl ?_); cbv <;> ((repeat' apply And.intro) <;> first | exact e1 | exact e2' | exact e3' | rfl | trivial))
set_option maxRecDepth 100000 in
set_option maxHeartbeats 0 in
theorem signed_ok (neg minus : Bool) (a b : Nat) (sa sb : ByteArray) (ha : sa = enc a) (hb : sb = enc b) (h1 : sa.size ≤ 2 ^ 36) (h2 : sb.size ≤ 2 ^ 36) (n : Bool) (m : Nat) (sm : ByteArray) (hsm : sm = enc m)
    (hn : n = if neg = minus ∨ b ≤ a then neg else minus) (hm : m = if neg = minus then a + b else if b ≤ a then a - b else b - a) : AE.ACall Tryz.prog 71 [] [.b neg, .v (.string sa), .b minus, .v (.string sb)] [] (.t [.b n, .v (.string sm)]) := by
  refine AE.ACall.of_walk (fn := Tryz.f71) (c := bodyOf Tryz.f71) tabOK Tryz.func71 rfl rfl mixed fun A hA X => ?_
  by_cases h : neg = minus
  · have c1 : A.bcmp .eql neg minus = true := by rw [AE.c_beq hA]; simpa using h
    rw [if_pos h] at hm
    have e1 : neg = n := by rw [hn, if_pos (.inl h)]
    have k := add_ok sa sb (by omega) (by omega) sm (by rw [hsm, hm, ha, hb, bv_enc, bv_enc])
    (repeat' (first | (refine X.go 500 _ _ ?_; cbv) | (first | refine X.splitT ?_ | refine X.splitF ?_ | refine X.split _ _ _ _ _ (fun hc => ?_) (fun hc => ?_)) | refine X.callsA [] k ?_ | refine X.need _ _ _ trivial ?_ | fail))
    all_goals (refine X.ret _ (X.done rfl ?_); cbv <;> ((repeat' apply And.intro) <;> first | exact e1 | rfl | trivial))
  have c1 : A.bcmp .eql neg minus = false := by rw [AE.c_beq hA]; simpa using h
  rw [if_neg h] at hm
  obtain ⟨d, hd⟩ : ∃ d, d = enc (a - b) := ⟨_, rfl⟩
  by_cases hab : b ≤ a
  · rw [if_pos hab] at hm
    have e1 : neg = n := by rw [hn, if_pos (.inr hab)]
    have k := natSub_ok sa sb (by omega) (by omega) sm 0 (by rw [hsm, hm, ha, hb, bv_enc, bv_enc]) (by rw [ha, hb, bv_enc, bv_enc, if_neg (by omega)])
    have c2 : A.cmp .eql 0 0 = true := by rw [AE.c_eql hA]; rfl
    (repeat' (first | (refine X.go 500 _ _ ?_; cbv) | (first | refine X.splitT ?_ | refine X.splitF ?_ | refine X.split _ _ _ _ _ (fun hc => ?_) (fun hc => ?_)) | refine X.callsA [] k ?_ | refine X.need _ _ _ trivial ?_ | fail))
    all_goals (refine X.ret _ (X.done rfl ?_); cbv <;> ((repeat' apply And.intro) <;> first | exact e1 | rfl | trivial))
  · rw [if_neg hab] at hm
    have e1 : minus = n := by rw [hn, if_neg (fun hh => hh.elim h hab)]
    have k := natSub_ok sa sb (by omega) (by omega) d 1 (by rw [hd, ha, hb, bv_enc, bv_enc]) (by rw [ha, hb, bv_enc, bv_enc, if_pos (by omega)])
    have k2 := natSub_ok sb sa (by omega) (by omega) sm 0 (by rw [hsm, hm, ha, hb, bv_enc, bv_enc]) (by rw [ha, hb, bv_enc, bv_enc, if_neg (by omega)])
    have c2 : A.cmp .eql 1 0 = false := by rw [AE.c_eql hA]; rfl
    (repeat' (first | (refine X.go 500 _ _ ?_; cbv) | (first | refine X.splitT ?_ | refine X.splitF ?_ | refine X.split _ _ _ _ _ (fun hc => ?_) (fun hc => ?_)) | refine X.callsA [] k ?_ | refine X.callsA [] k2 ?_ | refine X.need _ _ _ trivial ?_ | fail))
    all_goals (refine X.ret _ (X.done rfl ?_); cbv <;> ((repeat' apply And.intro) <;> first | exact e1 | rfl | trivial))
end Go.Proofs.YthadehkggddgoaaGreatDoor
