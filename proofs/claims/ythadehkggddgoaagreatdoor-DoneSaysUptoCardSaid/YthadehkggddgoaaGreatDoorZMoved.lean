/- Contracts: where the reference puts a point of a frame (I, plain, Circle, Moved), and how far off a part lies (Off). -/
import Derived.Test.YthadehkggddgoaaGreatDoorZDone
set_option maxRecDepth 100000
set_option maxHeartbeats 0
set_option linter.unusedVariables false
set_option linter.unusedSimpArgs false
namespace Go.Proofs.YthadehkggddgoaaGreatDoor
open Go Go.Num
theorem circ_cos (x : Rat) (h : 1 + x * x ≠ 0) : 2 / (1 + x * x) - 1 = (1 - x * x) / (1 + x * x) := by grind
theorem circ_sin (x : Rat) (h : 1 + x * x ≠ 0) : x * (2 / (1 + x * x)) = (x + x) / (1 + x * x) := by grind
theorem refI_ok (n : Int) (h1 : -2 ^ 63 ≤ n) (h2 : n < 2 ^ 63) (r : Q) (hr : r = Q.of (n : Rat)) : AE.ACallG GG Tryz.prog 218 [] [.v (.int .i64 n)] [] (.a r.c) := by
  refine AE.ACallG.of_walk (fn := Tryz.f218) (c := bodyOf Tryz.f218) GG_stays tabOK Tryz.func218 rfl rfl mixed fun A hA X => ?_
  have k1 := ratOf_ok n h1 h2 r hr
  (repeat' (first | (refine X.g ?_; cbv) | refine X.splitT ?_ | refine X.splitF ?_ | refine X.sp (fun hc => ?_) (fun hc => ?_) | refine X.needT ?_ | refine X.callsGA [] k1 ?_ | fail))
  all_goals (refine X.ret _ (X.done rfl ?_); cbv <;> (and_intros <;> first | rfl | trivial))
theorem refPlain_ok (q : Q) (hq : q.sz ≤ 2 ^ 31) (r : Q) (hr : r = Q.of q.v) : AE.ACallG GG Tryz.prog 219 [] [.a q.c] [] (.a r.c) := by
  refine AE.ACallG.of_walk (fn := Tryz.f219) (c := bodyOf Tryz.f219) GG_stays tabOK Tryz.func219 rfl rfl mixed fun A hA X => ?_
  obtain ⟨z, hz⟩ : ∃ z, z = Q.of ((0 : Int) : Rat) := ⟨_, rfl⟩
  have zz : z.sz ≤ 1 := by rw [hz, sz_of]; exact rs0
  have k1 := refI_ok 0 (by decide) (by decide) z hz
  have k2 := ratAdd_ok q z (by omega) (by omega) r (by rw [hr, hz, Q.v_of]; exact congrArg _ (Rat.add_zero _).symm)
  (refine X.g ?_; cbv)
  refine X.drawX _ _ _ (by kernel_rfl) (X.frzB 0 _ _ (Nat.zero_le _) ?_)
  (repeat' (first | (refine X.g ?_; cbv) | refine X.splitT ?_ | refine X.splitF ?_ | refine X.sp (fun hc => ?_) (fun hc => ?_) | refine X.needT ?_ | refine X.fork _ _ ?_ ?_ | refine X.callsGA [] k1 ?_ | refine X.callsGA [] k2 ?_ | fail))
  all_goals (refine X.ret _ (X.done rfl ?_); cbv <;> (and_intros <;> first | rfl | trivial))
theorem rs2 : rs ((2 : Int) : Rat) ≤ 1 := rs_le.2 ⟨by decide, by decide⟩
theorem refCircle_ok (t : Tn) (ht : t.t.sz ≤ 2 ^ 26) (c s : Q) (hc : c = Q.of t.cos) (hs : s = Q.of t.sin) : AE.ACallG GG Tryz.prog 196 [] [.a t.c] [] (.t [.a c.c, .a s.c]) := by
  obtain ⟨half, q⟩ := t
  simp only at ht
  refine AE.ACallG.of_walk (fn := Tryz.f196) (c := bodyOf Tryz.f196) GG_stays tabOK Tryz.func196 rfl rfl mixed fun A hA X => ?_
  cases half
  · have ec : (⟨false, q⟩ : Tn).cos = (1 - q.v * q.v) / (1 + q.v * q.v) := rfl
    have es : (⟨false, q⟩ : Tn).sin = (q.v + q.v) / (1 + q.v * q.v) := rfl
    have h0 := one_sq_ne q.v
    rw [ec, ← circ_cos q.v h0] at hc
    rw [es, ← circ_sin q.v h0] at hs
    obtain ⟨x, hx⟩ : ∃ x, x = q.v := ⟨_, rfl⟩
    have zx := q.rs
    rw [← hx] at hc hs h0 zx
    obtain ⟨one, hone⟩ : ∃ q, q = Q.of ((1 : Int) : Rat) := ⟨_, rfl⟩
    obtain ⟨two, htwo⟩ : ∃ q, q = Q.of ((2 : Int) : Rat) := ⟨_, rfl⟩
    obtain ⟨t, htt⟩ : ∃ q, q = Q.of x := ⟨_, rfl⟩
    obtain ⟨sq, hsq⟩ : ∃ q, q = Q.of (x * x) := ⟨_, rfl⟩
    obtain ⟨v, hv⟩ : ∃ q, q = Q.of (1 + x * x) := ⟨_, rfl⟩
    obtain ⟨p, hp⟩ : ∃ q, q = Q.of (2 / (1 + x * x)) := ⟨_, rfl⟩
    have r1 : rs ((1 : Int) : Rat) ≤ 1 := rs1
    have r2 := rs_mul x x
    have r4 : rs (1 + x * x) ≤ rs (1 : Rat) + rs (x * x) + 1 := rs_add 1 (x * x)
    have r5 : rs (2 / (1 + x * x)) ≤ rs (2 : Rat) + rs (1 + x * x) := rs_div h0
    have r6 : rs (2 : Rat) ≤ 1 := rs2
    have r7 : rs (1 : Rat) ≤ 1 := rs1
    have z0 : t.sz ≤ 2 ^ 27 := by rw [htt, sz_of]; omega
    have z1 : sq.sz ≤ 2 ^ 30 := by rw [hsq, sz_of]; omega
    have z3 : v.sz ≤ 2 ^ 31 := by rw [hv, sz_of]; omega
    have z4 : one.sz ≤ 1 := by rw [hone, sz_of]; exact r1
    have z5 : two.sz ≤ 1 := by rw [htwo, sz_of]; exact rs2
    have z6 : p.sz ≤ 2 ^ 31 := by rw [hp, sz_of]; omega
    have hv0 : ¬ v.v = 0 := by rw [hv, Q.v_of]; exact h0
    have k1 := refPlain_ok q (by omega) t (by rw [htt, hx])
    have k2 := refI_ok 2 (by decide) (by decide) two htwo
    have k3 := refI_ok 1 (by decide) (by decide) one hone
    have k4 := ratMul_ok t t (by omega) (by omega) sq (by rw [hsq, htt, Q.v_of])
    have k5 := ratAdd_ok one sq (by omega) (by omega) v (by rw [hv, hone, hsq, Q.v_of, Q.v_of]; rfl)
    have k6 := ratDiv_ok two v (by omega) (by omega) p 0 (by rw [if_neg hv0, hp, htwo, hv, Q.v_of, Q.v_of]; rfl) (by rw [if_neg hv0])
    have k7 := ratSub_ok p one (by omega) (by omega) c (by rw [hc, hp, hone, Q.v_of, Q.v_of]; rfl)
    have k8 := ratMul_ok t p (by omega) (by omega) s (by rw [hs, htt, hp, Q.v_of, Q.v_of])
    clear hc hs h0 hone htwo htt hsq hv hp hv0 hx ec es
    (repeat' (first | (refine X.g ?_; cbv) | refine X.splitT ?_ | refine X.splitF ?_ | refine X.sp (fun hc => ?_) (fun hc => ?_) | refine X.needT ?_ | refine X.callsGA [] k1 ?_ | fail))
    apply shareG X
    · intro hs
      refine X.drawX _ _ _ (by kernel_rfl) (X.frzB 3 _ _ (Nat.zero_le _) ?_)
      (repeat' (first | (refine X.g ?_; cbv) | refine X.splitT ?_ | refine X.splitF ?_ | refine X.sp (fun hc => ?_) (fun hc => ?_) | refine X.needT ?_ | refine X.fork _ _ ?_ ?_ | refine X.callsGA [] k2 ?_ | refine X.callsGA [] k3 ?_ | refine X.callsGA [] k4 ?_ | refine X.callsGA [] k5 ?_ | refine X.callsGA [] k6 ?_ | fail))
      all_goals exact hs
    refine X.drawX _ _ _ (by kernel_rfl) (X.frzB 4 _ _ (Nat.zero_le _) ?_)
    (repeat' (first | (refine X.g ?_; cbv) | refine X.splitT ?_ | refine X.splitF ?_ | refine X.sp (fun hc => ?_) (fun hc => ?_) | refine X.needT ?_ | refine X.fork _ _ ?_ ?_ | refine X.callsGA [] k3 ?_ | refine X.callsGA [] k7 ?_ | refine X.callsGA [] k8 ?_ | fail))
    all_goals (refine X.ret _ (X.done rfl ?_); cbv <;> (and_intros <;> first | rfl | trivial))
  · have ec : (⟨true, q⟩ : Tn).cos = -1 := rfl
    have es : (⟨true, q⟩ : Tn).sin = 0 := by show ((0 : Rat) + 0) / (1 + 0 * 0) = 0; grind
    rw [ec] at hc
    rw [es] at hs
    have k1 := refI_ok (-1) (by decide) (by decide) c (by rw [hc]; rfl)
    have k2 := refI_ok 0 (by decide) (by decide) s (by rw [hs]; rfl)
    (repeat' (first | (refine X.g ?_; cbv) | refine X.splitT ?_ | refine X.splitF ?_ | refine X.sp (fun hc => ?_) (fun hc => ?_) | refine X.needT ?_ | refine X.callsGA [] k1 ?_ | refine X.callsGA [] k2 ?_ | fail))
    all_goals (refine X.ret _ (X.done rfl ?_); cbv <;> (and_intros <;> first | rfl | trivial))
theorem refMoved_ok (f : Fr) (hf : f.le (2 ^ 24)) (p : V2) (hp : p.sz ≤ 2 ^ 24) (r : V2) (hr : r = V2.of (f.put p.v)) : AE.ACallG GG Tryz.prog 128 [] [.a f.c, .a p.c] [] (.a r.c) := by
  refine AE.ACallG.of_walk (fn := Tryz.f128) (c := bodyOf Tryz.f128) GG_stays tabOK Tryz.func128 rfl rfl mixed fun A hA X => ?_
  obtain ⟨f1, f2⟩ := hf
  obtain ⟨⟨ax, ay⟩, t⟩ := f
  obtain ⟨x, y⟩ := p
  simp only [V2.sz] at hp f1 f2
  have h1 := t.rs_cos
  have h2 := t.rs_sin
  have hx := x.rs
  have hy := y.rs
  have hax := ax.rs
  have hay := ay.rs
  have a1 := rs_mul x.v t.cos
  have a2 := rs_mul y.v t.sin
  have a3 := rs_mul x.v t.sin
  have a4 := rs_mul y.v t.cos
  have a5 := rs_sub (x.v * t.cos) (y.v * t.sin)
  have a6 := rs_add (x.v * t.sin) (y.v * t.cos)
  obtain ⟨c, hc⟩ : ∃ q, q = Q.of t.cos := ⟨_, rfl⟩
  obtain ⟨s, hs⟩ : ∃ q, q = Q.of t.sin := ⟨_, rfl⟩
  obtain ⟨m1, hm1⟩ : ∃ q, q = Q.of (x.v * t.cos) := ⟨_, rfl⟩
  obtain ⟨m2, hm2⟩ : ∃ q, q = Q.of (y.v * t.sin) := ⟨_, rfl⟩
  obtain ⟨m3, hm3⟩ : ∃ q, q = Q.of (x.v * t.sin) := ⟨_, rfl⟩
  obtain ⟨m4, hm4⟩ : ∃ q, q = Q.of (y.v * t.cos) := ⟨_, rfl⟩
  obtain ⟨u, hu⟩ : ∃ q, q = Q.of (x.v * t.cos - y.v * t.sin) := ⟨_, rfl⟩
  obtain ⟨v, hv⟩ : ∃ q, q = Q.of (x.v * t.sin + y.v * t.cos) := ⟨_, rfl⟩
  obtain ⟨o1, ho1⟩ : ∃ q, q = Q.of (ax.v + (x.v * t.cos - y.v * t.sin)) := ⟨_, rfl⟩
  obtain ⟨o2, ho2⟩ : ∃ q, q = Q.of (ay.v + (x.v * t.sin + y.v * t.cos)) := ⟨_, rfl⟩
  have hr2 : r = ⟨o1, o2⟩ := by rw [hr, ho1, ho2]; rfl
  subst hr2
  have zc : c.sz ≤ 2 ^ 28 := by rw [hc, sz_of]; omega
  have zs : s.sz ≤ 2 ^ 28 := by rw [hs, sz_of]; omega
  have z1 : m1.sz ≤ 2 ^ 29 := by rw [hm1, sz_of]; omega
  have z2 : m2.sz ≤ 2 ^ 29 := by rw [hm2, sz_of]; omega
  have z3 : m3.sz ≤ 2 ^ 29 := by rw [hm3, sz_of]; omega
  have z4 : m4.sz ≤ 2 ^ 29 := by rw [hm4, sz_of]; omega
  have zu : u.sz ≤ 2 ^ 30 := by rw [hu, sz_of]; omega
  have zv : v.sz ≤ 2 ^ 30 := by rw [hv, sz_of]; omega
  have k0 := refCircle_ok t (by omega) c s hc hs
  have k3 := ratMul_ok x c (by omega) (by omega) m1 (by rw [hm1, hc, Q.v_of])
  have k4 := ratMul_ok y s (by omega) (by omega) m2 (by rw [hm2, hs, Q.v_of])
  have k5 := ratMul_ok x s (by omega) (by omega) m3 (by rw [hm3, hs, Q.v_of])
  have k6 := ratMul_ok y c (by omega) (by omega) m4 (by rw [hm4, hc, Q.v_of])
  have k7 := ratSub_ok m1 m2 (by omega) (by omega) u (by rw [hu, hm1, hm2, Q.v_of, Q.v_of])
  have k8 := ratAdd_ok m3 m4 (by omega) (by omega) v (by rw [hv, hm3, hm4, Q.v_of, Q.v_of])
  have k9 := ratAdd_ok ax u (by omega) (by omega) o1 (by rw [ho1, hu, Q.v_of])
  have k10 := ratAdd_ok ay v (by omega) (by omega) o2 (by rw [ho2, hv, Q.v_of])
  clear hm1 hm2 hm3 hm4 hu hv hc hs hr ho1 ho2
  obtain ⟨half, t⟩ := t
  (repeat' (first | (refine X.g ?_; cbv) | refine X.splitT ?_ | refine X.splitF ?_ | refine X.sp (fun hc => ?_) (fun hc => ?_) | refine X.needT ?_ | refine X.callsGA [] k0 ?_ | fail))
  refine X.drawX _ _ _ (by kernel_rfl) (X.frzB 0 _ _ (Nat.zero_le _) (X.frzB 1 _ _ (Nat.zero_le _) (X.frzB 3 _ _ (Nat.zero_le _) (X.frzB 4 _ _ (Nat.zero_le _) ?_))))
  (repeat' (first | (refine X.g ?_; cbv) | refine X.splitT ?_ | refine X.splitF ?_ | refine X.sp (fun hc => ?_) (fun hc => ?_) | refine X.needT ?_ | refine X.fork _ _ ?_ ?_ | refine X.callsGA [] k3 ?_ | refine X.callsGA [] k4 ?_ | refine X.callsGA [] k5 ?_ | refine X.callsGA [] k6 ?_ | refine X.callsGA [] k7 ?_ | refine X.callsGA [] k8 ?_ | refine X.callsGA [] k9 ?_ | refine X.callsGA [] k10 ?_ | fail))
  all_goals (refine X.ret _ (X.done rfl ?_); cbv <;> (and_intros <;> first | rfl | trivial))
def offMax (m d : Rat) : Rat := if m < absR d then absR d else m
theorem off_two (f g : Fr) (m : Rat) (c : V2) : offStep f g m c = offMax (offMax m (offV f g c).x) (offV f g c).y := by
  unfold offStep offMax maxR; grind
theorem offMax_rs (m d : Rat) : rs (offMax m d) ≤ max (rs m) (rs d) := by
  unfold offMax; split
  · rw [rs_abs]; omega
  · omega
theorem offFold_rs {B : Nat} : ∀ (l : List Q) (m : Rat), rs m ≤ B → (∀ d ∈ l, rs d.v ≤ B) → rs (l.foldl (fun m d => offMax m d.v) m) ≤ B
  | [], m, h, _ => h
  | d :: l, m, h, hl => by
    refine offFold_rs l _ ?_ fun x hx => hl x (List.mem_cons_of_mem _ hx)
    have := offMax_rs m d.v
    have := hl d (List.mem_cons_self ..)
    show rs (offMax m d.v) ≤ B
    omega
theorem refOff_ok (w : Wk) (s : Ss) (p q : Int) (i j : Nat) (hi : p = i) (hj : q = j) (pt : Pt) (sl : Sl) (f : Fr) (hgp : w.parts[i]? = some pt) (hgs : w.slots[j]? = some sl) (hgf : s.parts[i]? = some f) (zf : f.le (2 ^ 20)) (z1 : ∀ c ∈ pt.shape, c.sz ≤ 2 ^ 20) (z2 : sl.frame.le (2 ^ 20)) (zl : pt.shape.length < 2 ^ 40) (r : Q) (hr : r = Q.of (offR f sl.frame pt.shape)) : AE.ACallG GG Tryz.prog 56 [] [.a w.c, .a s.c, .v (.int .i64 p), .v (.int .i64 q)] [] (.a r.c) := by
  obtain ⟨arms, walls, parts, slots, gates, walk⟩ := w
  obtain ⟨tick, xs, fs, ps, os⟩ := s
  simp only at hgp hgs hgf
  obtain ⟨ea, hea⟩ : ∃ es, es = lsAv Ar.c arms := ⟨_, rfl⟩
  obtain ⟨ew, hew⟩ : ∃ es, es = lsAv wallC walls := ⟨_, rfl⟩
  obtain ⟨ep, hep⟩ : ∃ es, es = lsAv Pt.c parts := ⟨_, rfl⟩
  obtain ⟨es, hes⟩ : ∃ es, es = lsAv Sl.c slots := ⟨_, rfl⟩
  obtain ⟨eg, heg⟩ : ∃ es, es = lsAv Gt.c gates := ⟨_, rfl⟩
  obtain ⟨ex, hex⟩ : ∃ es, es = lsAv As.c xs := ⟨_, rfl⟩
  obtain ⟨ef, hef⟩ : ∃ es, es = lsAv Fr.c fs := ⟨_, rfl⟩
  obtain ⟨ev, hev⟩ : ∃ es, es = lsAv V2.c ps := ⟨_, rfl⟩
  obtain ⟨eo, heo⟩ : ∃ es, es = lsAv boolC os := ⟨_, rfl⟩
  have hep1 : ep[i]? = some pt.c := by rw [hep]; exact lsAv_get hgp
  have hes1 : es[j]? = some sl.c := by rw [hes]; exact lsAv_get hgs
  have hef1 : ef[i]? = some f.c := by rw [hef]; exact lsAv_get hgf
  obtain ⟨pn, sh, gr⟩ := pt
  obtain ⟨sn, sf, sw⟩ := sl
  simp only at z1 z2 zl hr
  obtain ⟨esh, hesh⟩ : ∃ es, es = lsAv V2.c sh := ⟨_, rfl⟩
  simp only [Pt.c, ← hesh] at hep1
  simp only [Wk.c, Ss.c, ← hea, ← hew, ← hep, ← hes, ← heg, ← hex, ← hef, ← hev, ← heo]
  clear hea hew hep hes heg hex hef hev heo hgp hgs hgf
  obtain ⟨m0, hm0⟩ : ∃ m : Nat → Q, ∀ k, m k = Q.of ((sh.take k).foldl (offStep f sf) 0) := ⟨_, fun _ => rfl⟩
  have k2 := ratOf_ok 0 (by decide) (by decide) (m0 0) (by rw [hm0]; rfl)
  refine AE.ACallG.of_walk (fn := Tryz.f56) (c := bodyOf Tryz.f56) GG_stays tabOK Tryz.func56 rfl rfl mixed fun A hA X => ?_
  (repeat' (first | (refine X.g ?_; cbv) | refine X.splitT ?_ | refine X.splitF ?_ | refine X.sp (fun hc => ?_) (fun hc => ?_) | refine X.needT ?_ | refine X.callsGA [] k2 ?_ | refine X.idx _ _ _ _ _ _ _ _ hep1 hi ?_ | fail))
  refine X.loopG _ _ _ (X.frzB 0 _ _ (Nat.zero_le _) (X.frzB 1 _ _ (Nat.zero_le _) ?_))
  (refine X.g ?_; cbv)
  refine rangeLS X hA hesh (by omega) (fun _ => True) (fun z _ => [(24, .v (.int .i64 z))]) (fun k o => o.set 3 (.box (m0 k).c 29)) trivial ?_ (fun k z y hz hy hye c3 hI B hB => ?_) (fun z c3 hI B => ?_)
  · (cbv <;> (and_intros <;> first | rfl | trivial))
  · have zy := z1 y (List.mem_of_getElem? hy)
    obtain ⟨u, hu⟩ : ∃ u, u = V2.of (f.put y.v) := ⟨_, rfl⟩
    obtain ⟨v, hv⟩ : ∃ u, u = V2.of (sf.put y.v) := ⟨_, rfl⟩
    obtain ⟨dx, hdx⟩ : ∃ u, u = Q.of (offV f sf y).x := ⟨_, rfl⟩
    obtain ⟨dy, hdy⟩ : ∃ u, u = Q.of (offV f sf y).y := ⟨_, rfl⟩
    have b0 := off_rs f sf y zf z2 zy
    have b1 := rvTurn_rs y.v f.turn
    have b2 := rvTurn_rs y.v sf.turn
    have b3 := y.rs
    have b4 := RV.rs_add f.at_.v (y.v.turn f.turn)
    have b5 := RV.rs_add sf.at_.v (y.v.turn sf.turn)
    have b6 := f.at_.rs
    have b7 := sf.at_.rs
    have b9 := offR_rs f sf zf z2 (sh.take k) 0 (fun c hc => z1 c (List.mem_of_mem_take hc)) (by have := rs0; omega)
    obtain ⟨zf1, zf2⟩ := zf
    obtain ⟨zs1, zs2⟩ := z2
    have su : u.sz ≤ 2 ^ 30 := by rw [hu, V2.sz_of]; show (f.at_.v.add (y.v.turn f.turn)).rs ≤ _; omega
    have sv : v.sz ≤ 2 ^ 30 := by rw [hv, V2.sz_of]; show (sf.at_.v.add (y.v.turn sf.turn)).rs ≤ _; omega
    have sdx : dx.sz ≤ 2 ^ 30 := by rw [hdx, sz_of]; omega
    have sdy : dy.sz ≤ 2 ^ 30 := by rw [hdy, sz_of]; omega
    have k3 := refMoved_ok f ⟨by omega, by omega⟩ y (by omega) u hu
    have k4 := refMoved_ok sf ⟨by omega, by omega⟩ y (by omega) v hv
    obtain ⟨ux, uy⟩ := u
    obtain ⟨vx, vy⟩ := v
    simp only [V2.sz] at su sv
    have ux' : ux.v = (f.put y.v).x := by have := congrArg V2.x hu; simp only at this; rw [this]; exact Q.v_of _
    have uy' : uy.v = (f.put y.v).y := by have := congrArg V2.y hu; simp only at this; rw [this]; exact Q.v_of _
    have vx' : vx.v = (sf.put y.v).x := by have := congrArg V2.x hv; simp only at this; rw [this]; exact Q.v_of _
    have vy' : vy.v = (sf.put y.v).y := by have := congrArg V2.y hv; simp only at this; rw [this]; exact Q.v_of _
    have k5 := ratSub_ok ux vx (by omega) (by omega) dx (by rw [hdx, ux', vx']; rfl)
    have k6 := ratSub_ok uy vy (by omega) (by omega) dy (by rw [hdy, uy', vy']; rfl)
    obtain ⟨mm, hmm⟩ : ∃ m : Nat → Q, ∀ t, m t = Q.of (([dx, dy].take t).foldl (fun m d => offMax m d.v) (m0 k).v) := ⟨_, fun _ => rfl⟩
    have mm0 : mm 0 = m0 k := by rw [hmm, hm0, Q.v_of]; rfl
    have mm2 : mm 2 = m0 (k + 1) := by
      rw [hmm, hm0 (k + 1), take_snoc hy, List.foldl_append, hm0 k, Q.v_of]
      show Q.of (offMax (offMax _ dx.v) dy.v) = Q.of (offStep f sf _ y)
      rw [off_two, hdx, hdy, Q.v_of, Q.v_of]
    have sm0 : rs (m0 k).v ≤ 2 ^ 27 := by rw [hm0, Q.v_of]; omega
    obtain ⟨ed, hed⟩ : ∃ e, e = lsAv Q.c [dx, dy] := ⟨_, rfl⟩
    have hed2 : [dx.c, dy.c] = ed := by rw [hed, lsAv_eq]; rfl
    clear b0 b1 b2 b3 b4 b5 b6 b7 b9 hu hv ux' uy' vx' vy' k2
    (repeat' (first | (refine X.g ?_; cbv) | refine X.splitT ?_ | refine X.splitF ?_ | refine X.sp (fun hc => ?_) (fun hc => ?_) | refine X.needT ?_ | refine X.idx _ _ _ _ _ _ _ _ hye hz ?_ | fail))
    apply shareG X
    · intro hs
      refine X.drawX _ _ _ (by kernel_rfl) (X.frzB 4 _ _ (Nat.zero_le _) ?_)
      (repeat' (first | (refine X.g ?_; cbv) | refine X.splitT ?_ | refine X.splitF ?_ | refine X.sp (fun hc => ?_) (fun hc => ?_) | refine X.needT ?_ | refine X.fork _ _ ?_ ?_ | refine X.idx _ _ _ _ _ _ _ _ hef1 hi ?_ | refine X.idx _ _ _ _ _ _ _ _ hes1 hj ?_ | refine X.callsGA [] k3 ?_ | refine X.callsGA [] k4 ?_ | fail))
      all_goals (refine X.drawX _ _ _ (by kernel_rfl) (X.frzB 5 _ _ (Nat.zero_le _) (X.frzB 6 _ _ (Nat.zero_le _) ?_)); (refine X.g ?_; cbv); exact hs)
    (repeat' (first | (refine X.g ?_; cbv) | refine X.splitT ?_ | refine X.splitF ?_ | refine X.sp (fun hc => ?_) (fun hc => ?_) | refine X.needT ?_ | refine X.fork _ _ ?_ ?_ | refine X.callsGA [] k5 ?_ | refine X.callsGA [] k6 ?_ | fail))
    have hed3 : [[AE.AV.b dx.1, .v (.string dx.2), .v (.string dx.3)], [.b dy.1, .v (.string dy.2), .v (.string dy.3)]] = lsAv Q.c [dx, dy] := by rw [lsAv_eq]; rfl
    have sall : ∀ d ∈ [dx, dy], d.sz ≤ 2 ^ 30 := by
      intro d hd
      simp only [List.mem_cons, List.not_mem_nil, or_false] at hd
      rcases hd with rfl | rfl
      · exact sdx
      · exact sdy
    have smm : ∀ t, (mm t).sz ≤ 2 ^ 31 := fun t => by
      rw [hmm, sz_of]
      exact offFold_rs _ _ (by omega) (fun d hd => by have := sall d (List.mem_of_mem_take hd); have := d.rs; omega)
    have sstep : ∀ t d, [dx, dy][t]? = some d → mm (t + 1) = Q.of (offMax (mm t).v d.v) := fun t d h => by
      rw [hmm, take_snoc h, List.foldl_append, hmm t, Q.v_of]; rfl
    have sself : ∀ t, Q.of (mm t).v = mm t := fun t => by rw [hmm, Q.v_of]
    have q0 : (mm 0).c = (m0 k).c := by rw [mm0]
    clear k3 k4 k5 k6 hmm hdx hdy hed hed2
    refine X.loopG _ _ _ (X.frz 7 _ _ ?_)
    (refine X.g ?_; cbv)
    refine rangeLS X hA hed3 (show 2 < 2 ^ 61 by decide) (fun _ => True) (fun z _ => [(55, .v (.int .i64 z))]) (fun t o => o.set 3 (.box (mm t).c 29)) trivial ?_ (fun t zt d hzt hd hde c4 hJ B2 hB2 => ?_) (fun zt c4 hJ B2 => ?_)
    · clear hB
      rw [mm0]
      (cbv <;> (and_intros <;> first | rfl | trivial))
    · have sd := sall d (List.mem_of_getElem? hd)
      have e1 := sstep t d hd
      have e2 := sself t
      have s0 := smm t
      obtain ⟨w0, hw0⟩ : ∃ q, q = mm t := ⟨_, rfl⟩
      obtain ⟨w1, hw1⟩ : ∃ q, q = mm (t + 1) := ⟨_, rfl⟩
      rw [← hw0] at e1 e2 s0 ⊢
      rw [← hw1] at e1 hB2
      obtain ⟨ab, hab⟩ : ∃ q, q = Q.of (absR d.v) := ⟨_, rfl⟩
      have sab : ab.sz ≤ 2 ^ 31 := by rw [hab, sz_of, rs_abs]; have := d.rs; omega
      obtain ⟨c, hc⟩ : ∃ c, c = cmpR ab.v w0.v := ⟨_, rfl⟩
      have k1 := ratAbs_ok d (by omega) ab hab
      have k2 := ratCmp_ok ab w0 (by omega) (by omega) c hc
      have hcc : c ≤ 0 ↔ absR d.v ≤ w0.v := by rw [hc, cmpR_le, hab, Q.v_of]
      by_cases h0 : c ≤ 0
      · have d1 : A.cmp .gtr c 0 = false := by rw [AE.c_gtr hA]; exact decide_eq_false (by omega)
        have e3 : w1 = w0 := by rw [e1, offMax, if_neg (Rat.not_lt.2 (hcc.1 h0)), e2]
        subst e3
        clear hB e1 e2 hw0 hw1 hab hc
        (repeat' (first | (refine X.g ?_; cbv) | refine X.splitT ?_ | refine X.splitF ?_ | refine X.sp (fun hc => ?_) (fun hc => ?_) | refine X.needT ?_ | refine X.idx _ _ _ _ _ _ _ _ hde hzt ?_ | refine X.drawX _ _ _ (by kernel_rfl) (X.frzB 8 _ _ (Nat.zero_le _) ?_) | refine X.fork _ _ ?_ ?_ | refine X.callsGA [] k1 ?_ | refine X.callsGA [] k2 ?_ | fail))
        all_goals (refine hB2 trivial _ ?_; clear hB2; (cbv <;> (and_intros <;> first | rfl | trivial)))
      · have d1 : A.cmp .gtr c 0 = true := by rw [AE.c_gtr hA]; exact decide_eq_true (by omega)
        have e3 : w1 = ab := by rw [e1, offMax, if_pos (Rat.not_le.1 fun h => h0 (hcc.2 h)), hab]
        subst e3
        clear hB e1 e2 hw0 hw1 hc
        (repeat' (first | (refine X.g ?_; cbv) | refine X.splitT ?_ | refine X.splitF ?_ | refine X.sp (fun hc => ?_) (fun hc => ?_) | refine X.needT ?_ | refine X.idx _ _ _ _ _ _ _ _ hde hzt ?_ | refine X.drawX _ _ _ (by kernel_rfl) (X.frzB 8 _ _ (Nat.zero_le _) ?_) | refine X.fork _ _ ?_ ?_ | refine X.callsGA [] k1 ?_ | refine X.callsGA [] k2 ?_ | fail))
        all_goals (refine hB2 trivial _ ?_; clear hB2; (cbv <;> (and_intros <;> first | rfl | trivial)))
    · have e9 : mm [dx, dy].length = m0 (k + 1) := mm2
      rw [e9]
      (repeat' (first | (refine X.g ?_; cbv) | refine X.splitT ?_ | refine X.splitF ?_ | refine X.sp (fun hc => ?_) (fun hc => ?_) | refine X.needT ?_ | fail))
      all_goals (refine hB trivial _ ?_; clear hB; (cbv <;> (and_intros <;> first | rfl | trivial)))
  · have e1 : m0 sh.length = r := by rw [hm0, List.take_length, hr]; rfl
    rw [e1]
    (repeat' (first | (refine X.g ?_; cbv) | refine X.splitT ?_ | refine X.splitF ?_ | refine X.sp (fun hc => ?_) (fun hc => ?_) | refine X.needT ?_ | fail))
    all_goals (refine X.ret _ (X.done rfl ?_); cbv <;> (and_intros <;> first | rfl | trivial))
end Go.Proofs.YthadehkggddgoaaGreatDoor
