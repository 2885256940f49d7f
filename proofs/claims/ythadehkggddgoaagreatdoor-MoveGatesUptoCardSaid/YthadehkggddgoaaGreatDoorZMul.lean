/- Contract: nat.Mul. -/
import Derived.Test.YthadehkggddgoaaGreatDoorZAdd
set_option maxRecDepth 100000
set_option maxHeartbeats 0
set_option linter.unusedVariables false
set_option linter.unusedSimpArgs false
namespace Go.Proofs.YthadehkggddgoaaGreatDoor
open Go Go.Num
theorem natMul_ok (a b : ByteArray) (ha : a.size ≤ 2 ^ 38) (hb : b.size ≤ 2 ^ 38) (r : ByteArray) (hr : r = enc (bv a * bv b)) : AE.ACall Tryz.prog 73 [] [.v (.string a), .v (.string b)] [] (.v (.string r)) := by
  refine AE.ACall.of_walk (fn := Tryz.f73) (c := bodyOf Tryz.f73) tabOK Tryz.func73 rfl rfl mixed fun A hA X => ?_
  obtain ⟨x, hx⟩ : ∃ x, x = bv a := ⟨_, rfl⟩
  obtain ⟨y, hy⟩ : ∃ y, y = bv b := ⟨_, rfl⟩
  rw [← hx, ← hy] at hr
  obtain ⟨s, hs⟩ : ∃ s, s = enc x := ⟨_, rfl⟩
  obtain ⟨t, ht⟩ : ∃ t, t = enc y := ⟨_, rfl⟩
  have k1 := trim_ok a s (by rw [hs, hx])
  have k2 := trim_ok b t (by rw [ht, hy])
  have vs : bv s = x := by rw [hs, bv_enc]
  have vt : bv t = y := by rw [ht, bv_enc]
  have zs : s.size ≤ 2 ^ 38 := by rw [hs, hx]; exact Nat.le_trans (enc_size_bv a) ha
  have zt : t.size ≤ 2 ^ 38 := by rw [ht, hy]; exact Nat.le_trans (enc_size_bv b) hb
  have hadd : A.bin .add .i64 (A.slen s) (A.slen t) = ((s.size + t.size : Nat) : Int) := addI hA (slen hA s) (slen hA t) (by omega)
  by_cases hsm : s.size + t.size ≤ 8
  · have c1 : A.cmp .leq (A.bin .add .i64 (A.slen s) (A.slen t)) 8 = true := leT hA hadd (b := 8) rfl hsm
    have hx8 : x < 256 ^ s.size := enc_size.1 (by rw [← hs]; exact Nat.le_refl _)
    have hy8 : y < 256 ^ t.size := enc_size.1 (by rw [← ht]; exact Nat.le_refl _)
    have hxy : x * y < 2 ^ 64 := by
      have h1 : x * y < 256 ^ s.size * 256 ^ t.size := by
        rcases Nat.eq_zero_or_pos y with h0 | h0
        · rw [h0, Nat.mul_zero]; exact Nat.mul_pos (Nat.pow_pos (by decide)) (Nat.pow_pos (by decide))
        · exact Nat.lt_of_lt_of_le (Nat.mul_lt_mul_of_pos_right hx8 h0) (Nat.mul_le_mul_left _ (Nat.le_of_lt hy8))
      rw [← Nat.pow_add] at h1
      exact Nat.lt_of_lt_of_le h1 (Nat.pow_le_pow_right (by decide) hsm)
    obtain ⟨zx, hzx⟩ : ∃ z : Int, z = (x : Int) := ⟨_, rfl⟩
    obtain ⟨zy, hzy⟩ : ∃ z : Int, z = (y : Int) := ⟨_, rfl⟩
    have k3 := short_ok s (by omega) zx (by rw [hzx, vs])
    have k4 := short_ok t (by omega) zy (by rw [hzy, vt])
    have k5 := fromShort_ok (x * y) (by omega) (A.bin .mul .u64 zx zy) (mulU hA hzx hzy (by omega)) r hr
    (repeat' (first | (refine X.g ?_; cbv) | refine X.splitT ?_ | refine X.splitF ?_ | refine X.sp (fun hc => ?_) (fun hc => ?_) | refine X.callsA [] k1 ?_ | refine X.callsA [] k2 ?_ | refine X.callsA [] k3 ?_ | refine X.callsA [] k4 ?_ | refine X.callsA [] k5 ?_ | refine X.needT ?_))
    all_goals (refine X.ret _ (X.done rfl ?_); cbv <;> (and_intros <;> first | rfl | trivial))
  have c1 : A.cmp .leq (A.bin .add .i64 (A.slen s) (A.slen t)) 8 = false := leF hA hadd (b := 8) rfl hsm
  obtain ⟨m, hm⟩ : ∃ m, m = wn x := ⟨_, rfl⟩
  obtain ⟨n, hn⟩ : ∃ n, n = wn y := ⟨_, rfl⟩
  obtain ⟨ex, hex⟩ : ∃ ex, ex = wl (dg W m x) := ⟨_, rfl⟩
  obtain ⟨ey, hey⟩ : ∃ ey, ey = wl (dg W n y) := ⟨_, rfl⟩
  have hmb : m ≤ 2 ^ 38 := by have := wn_le x; rw [← hs] at this; omega
  have hnb : n ≤ 2 ^ 38 := by have := wn_le y; rw [← ht] at this; omega
  have k6 := words_ok s (by omega) m (by rw [vs]; exact hm) ex (by rw [hex, vs])
  have k7 := words_ok t (by omega) n (by rw [vt]; exact hn) ey (by rw [hey, vt])
  have hxm : x < W ^ m := by rw [hm]; exact wn_lt x
  have hyn : y < W ^ n := by rw [hn]; exact wn_lt y
  have hW : W = 4294967296 := W_eq
  have hW2 : W * W = 18446744073709551616 := by rw [hW]
  obtain ⟨q, hq⟩ : ∃ q, q = m + n := ⟨_, rfl⟩
  have hqz : A.bin .add .i64 (Int.ofNat m) (Int.ofNat n) = (q : Int) := by rw [hq]; exact addI hA rfl rfl (by omega)
  have hmake : AE.MakeR (A.bin .add .i64 (Int.ofNat m) (Int.ofNat n)) (A.bin .add .i64 (Int.ofNat m) (Int.ofNat n)) 4 := by rw [hqz]; constructor <;> omega
  obtain ⟨e0, he0⟩ : ∃ e0, e0 = wl (dg W q 0) := ⟨_, rfl⟩
  have hrep : A.lrep (A.bin .add .i64 (Int.ofNat m) (Int.ofNat n)) [.v (.int .u32 0)] = e0 := by
    rw [hqz, he0, dg_zero, ← wl_rep]; subst hA; rfl
  (repeat' (first | (refine X.g ?_; cbv) | refine X.splitT ?_ | refine X.splitF ?_ | refine X.sp (fun hc => ?_) (fun hc => ?_) | refine X.callsA [] k1 ?_ | refine X.callsA [] k2 ?_ | refine X.needT ?_))
  refine X.calls [] k6 (by cbv) ?_ (by cbv) ?_
  · cbv
  (repeat' (first | (refine X.g ?_; cbv) | refine X.splitT ?_ | refine X.splitF ?_ | refine X.sp (fun hc => ?_) (fun hc => ?_) | refine X.needT ?_))
  refine X.calls [] k7 (by cbv) ?_ (by cbv) ?_
  · cbv
  (repeat' (first | (refine X.g ?_; cbv) | refine X.splitT ?_ | refine X.splitF ?_ | refine X.sp (fun hc => ?_) (fun hc => ?_) | refine X.need _ _ _ hmake ?_ | refine X.needT ?_))
  refine X.loopG _ _ _ (X.fix 2 _ _ _ _ _ rfl (by decide) ?_)
  (refine X.g ?_; cbv)
  refine X.carries (ι := { p : Nat × Int × List (List AE.AV) // p.1 ≤ m ∧ p.2.1 = p.1 ∧ p.2.2 = wl (dg W q (x % W ^ p.1 * y)) }) (fun p => [(41, .v (.int .i64 p.1.2.1))]) (fun p => [.row 1000215 1 ex, .row 1000215 1 ey, .row 1000215 1 p.1.2.2]) (fun p => m - p.1.1) ⟨(0, 0, e0), Nat.zero_le _, rfl, by rw [he0]; simp [Nat.mod_one]⟩ ?_ fun i B hB => ?_
  · (cbv <;> (and_intros <;> first | exact hrep | rfl | trivial))
  obtain ⟨⟨i, j, ei⟩, hi, hj, hei⟩ := i
  simp only at hi hj hei ⊢
  by_cases h : i < m
  · have c2 : A.cmp .lss j (Int.ofNat m) = true := ltT hA hj rfl h
    obtain ⟨dx, hdx⟩ : ∃ d, d = x / W ^ i % W := ⟨_, rfl⟩
    have hdxW : dx < W := by rw [hdx]; exact Nat.mod_lt _ Wpos
    obtain ⟨wx, hwx⟩ : ∃ w : Int, w = (dx : Int) := ⟨_, rfl⟩
    have hcx : ex[i]? = some [.v (.int .u32 wx)] := by rw [hex, hwx, hdx]; exact wl_get (dg_get h)
    obtain ⟨P0, hP0⟩ : ∃ P, P = x % W ^ i * y := ⟨_, rfl⟩
    rw [← hP0] at hei
    have hP0b : P0 < W ^ (i + n) := by
      rw [hP0, Nat.pow_add]
      have h1 := Nat.mod_lt x (show 0 < W ^ i from Nat.pow_pos Wpos)
      rcases Nat.eq_zero_or_pos y with h0 | h0
      · rw [h0, Nat.mul_zero]; exact Nat.mul_pos (Nat.pow_pos Wpos) (Nat.pow_pos Wpos)
      · exact Nat.lt_of_lt_of_le (Nat.mul_lt_mul_of_pos_right h1 h0) (Nat.mul_le_mul_left _ (Nat.le_of_lt hyn))
    obtain ⟨j', hj'⟩ : ∃ j' : Int, j' = ((i + 1 : Nat) : Int) := ⟨_, rfl⟩
    have e1 : A.bin .add .i64 j 1 = j' := by rw [hj, hj']; exact AE.addN hA (by omega)
    (repeat' (first | (refine X.g ?_; cbv) | refine X.splitT ?_ | refine X.splitF ?_ | refine X.sp (fun hc => ?_) (fun hc => ?_) | refine X.needT ?_ | refine X.idxw _ _ _ _ _ _ _ _ i i hj h (Nat.zero_add i).symm ?_ | refine X.ldq _ _ _ _ _ _ _ _ _ hcx ?_))
    refine X.carries (ι := { p : Nat × Int × Int × List (List AE.AV) // p.1 ≤ n ∧ p.2.1 = p.1 ∧ ∃ R c : Nat, p.2.2.1 = (c : Int) ∧ c < W ∧ R < W ^ (i + n) ∧ R + c * W ^ (i + p.1) = P0 + dx * (y % W ^ p.1) * W ^ i ∧ p.2.2.2 = wl (dg W q R) }) (fun p => [(48, .v (.int .i64 p.1.2.1)), (10, .v (.int .u64 p.1.2.2.1))]) (fun p => [.row 1000215 1 ex, .row 1000215 1 ey, .row 1000215 1 p.1.2.2.2]) (fun p => n - p.1.1) ⟨(0, 0, 0, ei), Nat.zero_le _, rfl, P0, 0, rfl, Wpos, hP0b, by simp [Nat.mod_one], hei⟩ ?_ fun k C hC => ?_
    · clear hB
      (cbv <;> (and_intros <;> first | rfl | trivial))
    obtain ⟨⟨k, l, c, ek⟩, hk, hl, R, cn, hc, hcW, hRb, hR, hek⟩ := k
    simp only at hk hl hc hRb hR hek ⊢
    by_cases hkn : k < n
    · clear hB
      have c3 : A.cmp .lss l (Int.ofNat n) = true := ltT hA hl rfl hkn
      obtain ⟨dy, hdy⟩ : ∃ d, d = y / W ^ k % W := ⟨_, rfl⟩
      have hdyW : dy < W := by rw [hdy]; exact Nat.mod_lt _ Wpos
      obtain ⟨wy, hwy⟩ : ∃ w : Int, w = (dy : Int) := ⟨_, rfl⟩
      have hcy : ey[k]? = some [.v (.int .u32 wy)] := by rw [hey, hwy, hdy]; exact wl_get (dg_get hkn)
      obtain ⟨p, hp⟩ : ∃ p, p = i + k := ⟨_, rfl⟩
      have hpz : A.bin .add .i64 j l = (p : Int) := by rw [hp]; exact addI hA hj hl (by omega)
      have hpq : p < q := by omega
      obtain ⟨d0, hd0⟩ : ∃ d, d = R / W ^ p % W := ⟨_, rfl⟩
      have hd0W : d0 < W := by rw [hd0]; exact Nat.mod_lt _ Wpos
      obtain ⟨w0, hw0⟩ : ∃ w : Int, w = (d0 : Int) := ⟨_, rfl⟩
      have hcp : ek[p]? = some [.v (.int .u32 w0)] := by rw [hek, hw0, hd0]; exact wl_get (dg_get hpq)
      have hat : AE.AtR p ek := ⟨by rw [hek, wl_len, dg_len]; exact hpq⟩
      have hb := mul_bound Wpos hcW hdxW hdyW hd0W
      rw [hW2] at hb
      have m1 : A.bin .mul .u64 (A.conv .u64 wx) (A.conv .u64 wy) = ((dx * dy : Nat) : Int) := mulU hA (cv64 hA hwx (by omega)) (cv64 hA hwy (by omega)) (by omega)
      have m2 : A.bin .add .u64 (A.bin .mul .u64 (A.conv .u64 wx) (A.conv .u64 wy)) (A.conv .u64 w0) = ((dx * dy + d0 : Nat) : Int) := addU hA m1 (cv64 hA hw0 (by omega)) (by omega)
      obtain ⟨T, hT⟩ : ∃ T, T = cn + dx * dy + d0 := ⟨_, rfl⟩
      have m3 : A.bin .add .u64 c (A.bin .add .u64 (A.bin .mul .u64 (A.conv .u64 wx) (A.conv .u64 wy)) (A.conv .u64 w0)) = (T : Int) := by
        rw [show T = cn + (dx * dy + d0) by omega]; exact addU hA hc m2 (by omega)
      have hTl : T < W * W := by rw [hW2, hT]; exact hb
      obtain ⟨c', hc'⟩ : ∃ c' : Int, c' = ((T / W : Nat) : Int) := ⟨_, rfl⟩
      obtain ⟨e', he'⟩ : ∃ e', e' = wl (dg W q (upd W p R (T % W))) := ⟨_, rfl⟩
      obtain ⟨l', hl'⟩ : ∃ l' : Int, l' = ((k + 1 : Nat) : Int) := ⟨_, rfl⟩
      have f1 : A.bin .add .i64 l 1 = l' := by rw [hl, hl']; exact AE.addN hA (by omega)
      have f2 : A.lset ek p [.v (.int .u32 (A.conv .u32 (A.bin .add .u64 c (A.bin .add .u64 (A.bin .mul .u64 (A.conv .u64 wx) (A.conv .u64 wy)) (A.conv .u64 w0)))))] = e' := by
        rw [cv32 hA m3, lsetE hA, hek, he', ← dg_upd Wpos (Nat.mod_lt _ Wpos) hpq]
        exact wl_set _ _ _
      have f3 : A.bin .shr .u64 (A.bin .add .u64 c (A.bin .add .u64 (A.bin .mul .u64 (A.conv .u64 wx) (A.conv .u64 wy)) (A.conv .u64 w0))) 32 = c' := (shrU hA m3 (y := 32) (b := 32) rfl (by decide)).trans (by rw [hc']; rfl)
      have hinv : ∃ R' c2 : Nat, c' = (c2 : Int) ∧ c2 < W ∧ R' < W ^ (i + n) ∧ R' + c2 * W ^ (i + (k + 1)) = P0 + dx * (y % W ^ (k + 1)) * W ^ i ∧ e' = wl (dg W q R') := by
        refine ⟨upd W p R (T % W), T / W, hc', by rw [Nat.div_lt_iff_lt_mul Wpos]; exact hTl, upd_lt Wpos (by omega) hRb (Nat.mod_lt _ Wpos), ?_, he'⟩
        have ms := mul_step (w := dx) (v := dy) Wpos p (show R + cn * W ^ p = P0 + dx * (y % W ^ k) * W ^ i by rw [hp]; exact hR)
        rw [← hd0, ← hT] at ms
        rw [show i + (k + 1) = p + 1 by omega, ms, mod_succ, ← hdy, hp, Nat.mul_add, Nat.add_mul, Nat.pow_add, Nat.mul_comm (W ^ i) (W ^ k), ← Nat.mul_assoc, ← Nat.mul_assoc, Nat.add_assoc]
      (repeat' (first | (refine X.g ?_; cbv) | refine X.splitT ?_ | refine X.splitF ?_ | refine X.sp (fun hc => ?_) (fun hc => ?_) | refine X.needT ?_ | refine X.need _ _ _ hat ?_ | refine X.idxw _ _ _ _ _ _ _ _ k k hl hkn (Nat.zero_add k).symm ?_ | refine X.ldq _ _ _ _ _ _ _ _ _ hcy ?_ | refine X.ldq _ _ _ _ _ _ _ _ _ hcp ?_ | refine X.idxA p hat hpz ?_))
      all_goals (refine hC ⟨(k + 1, l', c', e'), hkn, hl', hinv⟩ _ (by show n - (k + 1) < n - k; omega) ?_; clear hC; cbv <;> (and_intros <;> first | exact f1 | exact f2 | exact f3 | rfl | trivial))
    · clear hC
      have c3 : A.cmp .lss l (Int.ofNat n) = false := ltF hA hl rfl hkn
      have hkk : k = n := by omega
      rw [hkk, Nat.mod_eq_of_lt hyn] at hR
      obtain ⟨p, hp⟩ : ∃ p, p = i + n := ⟨_, rfl⟩
      have hpz : A.bin .add .i64 j (Int.ofNat n) = (p : Int) := by rw [hp]; exact addI hA hj rfl (by omega)
      have hat : AE.AtR p ek := ⟨by rw [hek, wl_len, dg_len]; omega⟩
      obtain ⟨e', he'⟩ : ∃ e', e' = wl (dg W q (x % W ^ (i + 1) * y)) := ⟨_, rfl⟩
      have e2 : A.lset ek p [.v (.int .u32 (A.conv .u32 c))] = e' := by
        have h4 := dg_put Wpos hcW (o := R) (i := p) (m := q) (by rw [hp]; exact hRb) (by omega)
        have hfin : x % W ^ (i + 1) * y = R + cn * W ^ p := by
          rw [hp, hR, mod_succ, ← hdx, Nat.add_mul, hP0]
          rw [Nat.mul_assoc dx, Nat.mul_assoc dx, Nat.mul_comm y]
        rw [cv32 hA hc, show cn % 2 ^ 32 = cn from Nat.mod_eq_of_lt (by omega), lsetE hA, hek, he', hfin, ← h4]
        exact wl_set _ _ _
      (repeat' (first | (refine X.g ?_; cbv) | refine X.splitT ?_ | refine X.splitF ?_ | refine X.sp (fun hc => ?_) (fun hc => ?_) | refine X.needT ?_ | refine X.need _ _ _ hat ?_ | refine X.idxA p hat hpz ?_))
      all_goals (refine hB ⟨(i + 1, j', e'), h, hj', he'⟩ _ (by show m - (i + 1) < m - i; omega) ?_; clear hB; cbv <;> (and_intros <;> first | exact e1 | exact e2 | rfl | trivial))
  · have c2 : A.cmp .lss j (Int.ofNat m) = false := ltF hA hj rfl h
    have him : i = m := by omega
    rw [him, Nat.mod_eq_of_lt hxm] at hei
    have hlen2 : q = ei.length := by rw [hei, wl_len, dg_len]
    have hprod : x * y < W ^ q := by
      rw [hq, Nat.pow_add]
      rcases Nat.eq_zero_or_pos y with h0 | h0
      · rw [h0, Nat.mul_zero]; exact Nat.mul_pos (Nat.pow_pos Wpos) (Nat.pow_pos Wpos)
      · exact Nat.lt_of_lt_of_le (Nat.mul_lt_mul_of_pos_right hxm h0) (Nat.mul_le_mul_left _ (Nat.le_of_lt hyn))
    have k8 := textD_ok q (x * y) hprod (by omega) r hr ei hei
    clear hB
    (repeat' (first | (refine X.g ?_; cbv) | refine X.splitT ?_ | refine X.splitF ?_ | refine X.sp (fun hc => ?_) (fun hc => ?_) | refine X.needT ?_))
    refine X.callW _ _ _ _ _ 2 1 q _ rfl hlen2 ?_
    cbv
    refine X.calls [2] k8 (by cbv) ?_ (by cbv) ?_
    · cbv
    (repeat' (first | (refine X.g ?_; cbv) | refine X.splitT ?_ | refine X.splitF ?_ | refine X.sp (fun hc => ?_) (fun hc => ?_) | refine X.needT ?_))
    all_goals (refine X.ret _ (X.done rfl ?_); cbv <;> (and_intros <;> first | rfl | trivial))
end Go.Proofs.YthadehkggddgoaaGreatDoor
