/- Contract: the law MoveOpens. -/
import Derived.Test.YthadehkggddgoaaGreatDoorZBegunW
import Derived.Test.YthadehkggddgoaaGreatDoorZMoveO
import Derived.Test.YthadehkggddgoaaGreatDoorZVec
set_option maxRecDepth 100000
set_option maxHeartbeats 0
set_option linter.unusedVariables false
set_option linter.unusedSimpArgs false
namespace Go.Proofs.YthadehkggddgoaaGreatDoor
open Go Go.Num
def hf : Rat := mkRat 1 2
theorem hf_two (a : Rat) : a * hf + a * hf = a := by
  rw [← Rat.mul_add, show hf + hf = 1 by decide +kernel, Rat.mul_one]
theorem mid_le {a b : Rat} (h : a ≤ b) : a ≤ (a + b) * hf ∧ (a + b) * hf ≤ b := by
  have h1 : a * hf ≤ b * hf := Rat.mul_le_mul_of_nonneg_right h (by decide +kernel)
  rw [Rat.add_mul]
  constructor
  · have := (Rat.add_le_add_left (c := a * hf)).2 h1
    rwa [hf_two] at this
  · have := (Rat.add_le_add_right (c := b * hf)).2 h1
    rwa [hf_two] at this
theorem keepHalf_ok (q : Q) (h : q.sz ≤ 2 ^ 30) (r : Q) (hr : r = Q.of (q.v * hf)) : AE.ACallG GG Tryz.prog 15 [] [.a q.c] [] (.a r.c) := by
  refine AE.ACallG.of_walk (fn := Tryz.f15) (c := bodyOf Tryz.f15) GG_stays tabOK Tryz.func15 rfl rfl mixed fun A hA X => ?_
  obtain ⟨p, hp⟩ : ∃ p, p = Q.of (mkRat 1 2) := ⟨_, rfl⟩
  have k1 := makeOf_ok 1 2 (by decide) (by decide) p hp
  have hps : p.sz ≤ 3 := by rw [hp]; exact (smallMk (z := 1) (d := 2) (by decide) (by decide) (by decide)).sz
  have k2 := ratMul_ok q p (by omega) (by omega) r (by rw [hr, hp, Q.v_of]; rfl)
  (refine X.g ?_; cbv)
  refine X.drawX _ _ _ (by kernel_rfl) (X.frzB 0 _ _ (Nat.zero_le _) ?_)
  (repeat' (first | (refine X.g ?_; cbv) | refine X.splitT ?_ | refine X.splitF ?_ | refine X.sp (fun hc => ?_) (fun hc => ?_) | refine X.needT ?_ | refine X.callsA [] k1 ?_ | refine X.callsGA [] k2 ?_ | fail))
  all_goals (refine X.ret _ (X.done rfl ?_); cbv <;> (and_intros <;> first | rfl | trivial))
theorem stateC_opened (w : Wk) (s : Ss) (i : Nat) (b : Bool) : stateC w (s.opened i b) = stateC w s := by
  simp only [stateC, stateE, Ss.opened, List.length_set]
  rfl
theorem firstS_few {w : Wk} (h : w.OK) : (firstS w).Few := by
  refine ⟨⟨?_, fun x hx => ?_⟩, ?_, (by show 0 ≤ 2 ^ 30; decide), ?_⟩
  · show (w.arms.map _).length ≤ _; rw [List.length_map]; have := h.narms.2; omega
  · obtain ⟨a, ha, rfl⟩ := List.mem_map.1 hx
    have := (armC_zero (h.arms a ha)).2.2.1
    refine ⟨?_, ?_⟩
    · show (a.links.map _).length ≤ _; rw [List.length_map]; omega
    · show (a.links.map _).length ≤ _; rw [List.length_map]; omega
  · show ((List.range _).map _).length ≤ _; rw [List.length_map, List.length_range]; have := h.nparts; omega
  · show (List.replicate _ _).length ≤ _; rw [List.length_replicate]; have := h.ngates; omega
theorem opened_le {s : Ss} (h : s.Le) (i : Nat) (b : Bool) : (s.opened i b).Le := ⟨h.arms, h.narms, h.parts, h.nparts, h.people, h.npeople, by show (s.opens.set i b).length < _; rw [List.length_set]; exact h.nopens⟩
theorem opened_few {s : Ss} (h : s.Few) (i : Nat) (b : Bool) : (s.opened i b).Few := ⟨h.arms, h.parts, h.people, by show (s.opens.set i b).length ≤ _; rw [List.length_set]; exact h.opens⟩
theorem cmpR_neg {a b : Rat} : ¬ cmpR a b < 0 ↔ b ≤ a := by rw [Int.not_lt]; exact cmpR_ge
theorem cmpR_pos {a b : Rat} : 0 < cmpR a b ↔ b < a := by rw [← Int.not_le, cmpR_le, Rat.not_le]
theorem gate_in {w : Wk} {s : Ss} {p : V2} {g : Gt} (h0 : stateC w s = 0) (hn : 0 < w.gates.length) (hg : gateAt w 0 = g) (hx : p.x.Good) (hy : p.y.Good) (ho : s.opens.getD 0 false = true) (x1 : g.zone.low.x.v ≤ p.x.v) (x2 : p.x.v ≤ g.zone.high.x.v) (y1 : g.zone.low.y.v ≤ p.y.v) (y2 : p.y.v ≤ g.zone.high.y.v) (hp : s.people = []) : 0 = enterC w s 0 p := by
  have a1 := cmpR_neg.2 x1
  have a2 := cmpR_le.2 x2
  have a3 := cmpR_neg.2 y1
  have a4 := cmpR_le.2 y2
  rw [enterC, hg, h0, decide_eq_true hx, decide_eq_true hy, show (0 : Int).toNat = 0 from rfl, ho, hp, enterI, if_neg (by decide), if_neg (by rintro (h | h | h | h) <;> first | omega | exact absurd h (by decide)), if_neg (by decide), if_neg (by omega), if_neg (by decide)]
theorem gate_shut {w : Wk} {s : Ss} {p : V2} (h0 : stateC w s = 0) (hn : 0 < w.gates.length) (hx : p.x.Good) (hy : p.y.Good) (ho : s.opens.getD 0 false = false) : 7 = enterC w s 0 p := by
  rw [enterC, h0, decide_eq_true hx, decide_eq_true hy, show (0 : Int).toNat = 0 from rfl, ho, enterI, if_neg (by decide), if_neg (by rintro (h | h | h | h) <;> first | omega | exact absurd h (by decide)), if_pos rfl]
theorem gate_far {w : Wk} {s : Ss} {p : V2} {g : Gt} (h0 : stateC w s = 0) (hn : 0 < w.gates.length) (hg : gateAt w 0 = g) (hx : p.x.Good) (hy : p.y.Good) (ho : s.opens.getD 0 false = true) (x2 : g.zone.high.x.v < p.x.v) : 17 = enterC w s 0 p := by
  have a2 := cmpR_pos.2 x2
  rw [enterC, hg, h0, decide_eq_true hx, decide_eq_true hy, show (0 : Int).toNat = 0 from rfl, ho, enterI, if_neg (by decide), if_neg (by rintro (h | h | h | h) <;> first | omega | exact absurd h (by decide)), if_neg (by decide), if_pos (by omega)]
theorem p_self {A : AE.Ari} (hA : A = AE.std) (q : Q) : A.band (A.bcmp .eql q.1 q.1) (A.band (A.scmp .eql q.2 q.2) (A.scmp .eql q.3 q.3)) = true := by
  have e : A.bcmp .eql q.1 q.1 = true := by rw [hA]; cases q.1 <;> rfl
  have e2 : A.band true true = true := by rw [hA]; rfl
  rw [c_seql hA, c_seql hA]
  simp only [e, e2, eq_self, decide_true]
theorem moveOpens_ok (l0 : List Int) (hl : l0.length < 2 ^ 40) (e0 : List (List AE.AV)) (he0 : e0 = lsAv numC l0) (is : Bool) (l1 : List Int) (hl1 : l1.length < 2 ^ 40) (e1 : List (List AE.AV)) (he1 : e1 = lsAv numC l1) : AE.ACallG GG Tryz.prog 3 [] [.l 1 e0, .b is, .l 1 e1] [] (.b true) := by
  refine AE.ACallG.of_walk (fn := Tryz.f3) (c := bodyOf Tryz.f3) GG_stays tabOK Tryz.func3 rfl rfl mixed fun A hA X => ?_
  obtain ⟨w, hw⟩ : ∃ w, w = worksM l0 := ⟨_, rfl⟩
  obtain ⟨s, hs⟩ : ∃ s, s = firstS w := ⟨_, rfl⟩
  have h0 : worksC w = 0 := by rw [hw]; exact worksM_ok l0
  have hle : w.Le := by rw [hw]; exact worksM_le l0
  have hok := worksC_zero h0
  have hsle : s.Le := by rw [hs]; exact firstS_le hle hok
  have hfew : s.Few := by rw [hs]; exact firstS_few hok
  have hst : stateC w s = 0 := by rw [hs]; exact firstS_ok h0
  have hsp : s.people = [] := by rw [hs]; rfl
  have hso : s.opens.length = w.gates.length := (stateC_opens hst).1
  have kb := begunR_ok l0 hl e0 he0 w hw s hs
  have hnil : A.llen [] = 0 := by rw [llen hA]; rfl
  by_cases hng : w.gates.length = 0
  · have k1 := moveOpen_ok w hle s hsle hfew 0 true Ss.nil 1 (by rw [gateQ, hst, if_neg (by decide), if_pos (by omega)]) (by rw [if_pos (by decide)])
    clear hs hw hle hok hsle hfew hst h0 hsp hso
    obtain ⟨arms, walls, parts, slots, gates, walk⟩ := w
    simp only at hng
    obtain ⟨ea, hea⟩ : ∃ es, es = lsAv Ar.c arms := ⟨_, rfl⟩
    obtain ⟨ew, hew⟩ : ∃ es, es = lsAv wallC walls := ⟨_, rfl⟩
    obtain ⟨ep, hep⟩ : ∃ es, es = lsAv Pt.c parts := ⟨_, rfl⟩
    obtain ⟨es, hes⟩ : ∃ es, es = lsAv Sl.c slots := ⟨_, rfl⟩
    obtain ⟨eg, heg⟩ : ∃ es, es = lsAv Gt.c gates := ⟨_, rfl⟩
    simp only [Wk.c, ← hea, ← hew, ← hep, ← hes, ← heg] at k1 kb ⊢
    have c1 : A.cmp .eql (A.llen eg) 0 = true := by rw [AE.c_eql hA, llen hA, heg, lsAv_len, hng]; rfl
    have c2 : A.cmp .eql 1 1 = true := by rw [AE.c_eql hA]; rfl
    have c3 : A.bnot true = false := by rw [AE.c_not hA]; rfl
    (repeat' (first | (refine X.g ?_; cbv) | refine X.splitT ?_ | refine X.splitF ?_ | refine X.sp (fun hc => ?_) (fun hc => ?_) | refine X.needT ?_ | refine X.callsGA [] kb ?_ | refine X.callsGA [] k1 ?_ | fail))
    all_goals (refine X.ret _ (X.done rfl ?_); cbv <;> (and_intros <;> first | exact c2 | rfl | trivial))
  obtain ⟨gt, hgt⟩ : ∃ g, w.gates[0]? = some g := ⟨_, List.getElem?_eq_getElem (by omega)⟩
  have hga : gateAt w 0 = gt := by
    rw [gateAt, show (0 : Int).toNat = 0 from rfl, List.getD_eq_getElem?_getD, hgt]; rfl
  obtain ⟨z1, z2, z3, z4⟩ := hok.gates gt (List.mem_of_getElem? hgt)
  have z5 := z1.sz
  have z6 := z2.sz
  obtain ⟨s1, hs1⟩ : ∃ x, x = s.opened 0 is := ⟨_, rfl⟩
  have k2 := moveOpen_ok w hle s hsle hfew 0 is s1 0 (by rw [gateQ, hst, if_neg (by decide), if_neg (by omega)]) (by rw [if_neg (by decide), hs1]; rfl)
  have h1le : s1.Le := by rw [hs1]; exact opened_le hsle 0 is
  have h1few : s1.Few := by rw [hs1]; exact opened_few hfew 0 is
  have h1st : stateC w s1 = 0 := by rw [hs1, stateC_opened]; exact hst
  have h1p : s1.people = [] := by rw [hs1]; exact hsp
  have h1l : s1.opens.length = w.gates.length := by rw [hs1]; show (s.opens.set 0 is).length = _; rw [List.length_set]; exact hso
  have h1o : s1.opens[0]? = some is := by rw [hs1]; show (s.opens.set 0 is)[0]? = _; rw [List.getElem?_set_self (by omega)]
  have h1d : s1.opens.getD 0 false = is := by rw [List.getD_eq_getElem?_getD, h1o]; rfl
  obtain ⟨nm, lo, hi⟩ := gt
  simp only at z1 z2 z3 z4 z5 z6
  obtain ⟨lx, ly⟩ := lo
  obtain ⟨hx, hy⟩ := hi
  simp only [V2.sz] at z5 z6
  simp only at z3 z4
  obtain ⟨mx, hmx⟩ : ∃ q, q = Q.of (lx.v + hx.v) := ⟨_, rfl⟩
  obtain ⟨my, hmy⟩ : ∃ q, q = Q.of (ly.v + hy.v) := ⟨_, rfl⟩
  have k3 := ratAdd_ok lx hx (by omega) (by omega) mx hmx
  have k4 := ratAdd_ok ly hy (by omega) (by omega) my hmy
  have smx : mx.sz ≤ 20 := by rw [hmx, sz_of]; have := rs_add lx.v hx.v; have := lx.rs; have := hx.rs; omega
  have smy : my.sz ≤ 20 := by rw [hmy, sz_of]; have := rs_add ly.v hy.v; have := ly.rs; have := hy.rs; omega
  obtain ⟨px, hpx⟩ : ∃ q, q = Q.of (mx.v * hf) := ⟨_, rfl⟩
  obtain ⟨py, hpy⟩ : ∃ q, q = Q.of (my.v * hf) := ⟨_, rfl⟩
  have k5 := keepHalf_ok mx (by omega) px hpx
  have k6 := keepHalf_ok my (by omega) py hpy
  have spx : px.sz ≤ 100 := by
    rw [hpx, sz_of]
    have := rs_mul mx.v hf
    have := mx.rs
    have h2 : rs hf ≤ 2 := rs_mk (by decide) (by decide) (by decide)
    omega
  have spy : py.sz ≤ 100 := by
    rw [hpy, sz_of]
    have := rs_mul my.v hf
    have := my.rs
    have h2 : rs hf ≤ 2 := rs_mk (by decide) (by decide) (by decide)
    omega
  obtain ⟨u, hu⟩ : ∃ u : Int, u = (l1.length : Int) % 9 := ⟨_, rfl⟩
  have hu1 := Int.emod_nonneg (l1.length : Int) (b := 9) (by decide)
  have hu2 := Int.emod_lt_of_pos (l1.length : Int) (b := 9) (by decide)
  rw [← hu] at hu1 hu2
  obtain ⟨t, ht⟩ : ∃ t, t = Q.of (mkRat (1 + u) 3) := ⟨_, rfl⟩
  obtain ⟨t0, ht0⟩ : ∃ t, t = Q.of (mkRat 0 1) := ⟨_, rfl⟩
  have sts : t.sz ≤ 3 := by rw [ht]; exact (smallMk (z := 1 + u) (d := 3) (by decide) (by omega) (by decide)).sz
  have st0 : t0.sz ≤ 3 := by rw [ht0]; exact (smallMk (z := 0) (d := 1) (by decide) (by decide) (by decide)).sz
  obtain ⟨fx, hfx⟩ : ∃ q, q = Q.of (hx.v + t.v) := ⟨_, rfl⟩
  obtain ⟨fy, hfy⟩ : ∃ q, q = Q.of (hy.v + t0.v) := ⟨_, rfl⟩
  have l1l : A.llen e1 = (l1.length : Int) := by rw [llen hA, he1, lsAv_len]
  have k7 := makeBelow_ok (A.llen e1) 9 (by decide) (by decide) u (by rw [l1l]; exact hu)
  have a1 : A.bin .add .i64 1 u = 1 + u := zadd hA rfl rfl (by omega)
  have k8 := makeOfE (d := 3) a1 rfl (by omega) (by decide) t ht
  have k9 := makeOf_ok 0 1 (by decide) (by decide) t0 ht0
  have k10 := vecAdd_ok ⟨hx, hy⟩ ⟨t, t0⟩ (by simp only [V2.sz]; omega) (by simp only [V2.sz]; omega) ⟨fx, fy⟩ (by rw [hfx, hfy]; rfl)
  have sfx : fx.sz ≤ 100 := by rw [hfx, sz_of]; have := rs_add hx.v t.v; have := hx.rs; have := t.rs; omega
  have sfy : fy.sz ≤ 100 := by rw [hfy, sz_of]; have := rs_add hy.v t0.v; have := hy.rs; have := t0.rs; omega
  have gpx : px.Good := by rw [hpx]; exact Q.of_good _
  have gpy : py.Good := by rw [hpy]; exact Q.of_good _
  have gfx : fx.Good := by rw [hfx]; exact Q.of_good _
  have gfy : fy.Good := by rw [hfy]; exact Q.of_good _
  have m1 := mid_le z3
  have m2 := mid_le z4
  have hpv : px.v = (lx.v + hx.v) * hf := by rw [hpx, Q.v_of, hmx, Q.v_of]
  have hpw : py.v = (ly.v + hy.v) * hf := by rw [hpy, Q.v_of, hmy, Q.v_of]
  rw [← hpv] at m1
  rw [← hpw] at m2
  have hlt : hx.v < fx.v := by
    rw [hfx, Q.v_of, ht, Q.v_of, ← Rat.not_le]; intro h4
    have h2 : 0 < mkRat (1 + u) 3 := mk_pos (by decide) (by omega)
    have h5 : hx.v + mkRat (1 + u) 3 ≤ hx.v + 0 := by rw [Rat.add_zero]; exact h4
    exact Rat.not_le.2 h2 ((Rat.add_le_add_left).1 h5)
  have hn1 : 0 < w.gates.length := by omega
  obtain ⟨vg, hvg⟩ : ∃ e, e = lsAv boolC s1.opens := ⟨_, rfl⟩
  have hvg0 : vg[0]? = some [.b is] := by rw [hvg]; exact lsAv_get h1o
  obtain ⟨va, hva⟩ : ∃ e, e = lsAv As.c s.arms := ⟨_, rfl⟩
  obtain ⟨vp, hvp⟩ : ∃ e, e = lsAv Fr.c s.parts := ⟨_, rfl⟩
  obtain ⟨vo, hvo⟩ : ∃ e, e = lsAv boolC s.opens := ⟨_, rfl⟩
  obtain ⟨vx, hvx⟩ : ∃ e, e = lsAv V2.c [(⟨px, py⟩ : V2)] := ⟨_, rfl⟩
  have hvx0 : vx[0]? = some (px.c ++ py.c) := by rw [hvx]; exact lsAv_get (i := 0) (l := [(⟨px, py⟩ : V2)]) rfl
  have lvx : A.llen vx = 1 := by rw [llen hA, hvx, lsAv_len]; rfl
  have sc : s.c = [.v (.int .i64 0), .l 4 va, .l 10 vp, .l 6 [], .l 1 vo] := by
    rw [Ss.c, hsp, lsAv_nil, ← hva, ← hvp, ← hvo, show s.tick = 0 by rw [hs]; rfl]
  have sc1 : s1.c = [.v (.int .i64 0), .l 4 va, .l 10 vp, .l 6 [], .l 1 vg] := by
    rw [Ss.c, h1p, lsAv_nil, ← hvg, show s1.tick = 0 by rw [hs1, hs]; rfl, show s1.arms = s.arms by rw [hs1]; rfl, show s1.parts = s.parts by rw [hs1]; rfl, ← hva, ← hvp]
  have sc2 : (s1.entered ⟨px, py⟩).c = [.v (.int .i64 0), .l 4 va, .l 10 vp, .l 6 vx, .l 1 vg] := by
    rw [Ss.c, show (s1.entered ⟨px, py⟩).people = [⟨px, py⟩] by show s1.people ++ _ = _; rw [h1p]; rfl, ← hvx, show (s1.entered ⟨px, py⟩).tick = 0 by rw [hs1, hs]; rfl, show (s1.entered ⟨px, py⟩).arms = s.arms by rw [hs1]; rfl, show (s1.entered ⟨px, py⟩).parts = s.parts by rw [hs1]; rfl, show (s1.entered ⟨px, py⟩).opens = s1.opens from rfl, ← hva, ← hvp, ← hvg]
  have sc3 : Ss.nil.c = [.v (.int .i64 0), .l 4 [], .l 10 [], .l 6 [], .l 1 []] := by
    rw [Ss.c, Ss.nil]; simp only [lsAv_nil]
  rw [sc] at kb
  rw [sc, sc1] at k2
  have k11 : is = false → _ := fun hi => moveEnter_ok w hle s1 h1le h1few 0 ⟨px, py⟩ (by simp only [V2.sz]; omega) Ss.nil 7 (gate_shut h1st hn1 gpx gpy (h1d.trans hi)) (by rw [if_pos (by decide)])
  have k12 : is = false → _ := fun hi => moveEnter_ok w hle s1 h1le h1few 0 ⟨fx, fy⟩ (by simp only [V2.sz]; omega) Ss.nil 7 (gate_shut h1st hn1 gfx gfy (h1d.trans hi)) (by rw [if_pos (by decide)])
  have k13 : is = true → _ := fun hi => moveEnter_ok w hle s1 h1le h1few 0 ⟨px, py⟩ (by simp only [V2.sz]; omega) (s1.entered ⟨px, py⟩) 0 (gate_in h1st hn1 hga gpx gpy (h1d.trans hi) m1.1 m1.2 m2.1 m2.2 h1p) (by rw [if_neg (by decide)])
  have k14 : is = true → _ := fun hi => moveEnter_ok w hle s1 h1le h1few 0 ⟨fx, fy⟩ (by simp only [V2.sz]; omega) Ss.nil 17 (gate_far h1st hn1 hga gfx gfy (h1d.trans hi) hlt) (by rw [if_pos (by decide)])
  rw [sc1, sc3] at k11 k12 k14
  rw [sc1, sc2] at k13
  have lvg : A.llen vg = (w.gates.length : Int) := by rw [llen hA, hvg, lsAv_len, h1l]
  clear sc sc1 sc2 sc3 hs hw hle hok hsle hfew hst h0 hsp hso h1le h1few h1st h1p h1l h1o h1d hga z1 z2 z3 z4 z5 z6 smx smy spx spy hu hu1 hu2 sts st0 l1l sfx sfy gpx gpy gfx gfy m1 m2 hpv hpw hlt hva hvp hvo hvx hvg hs1
  obtain ⟨arms, walls, parts, slots, gates, walk⟩ := w
  simp only at hng hgt hn1 lvg
  obtain ⟨ea, hea⟩ : ∃ es, es = lsAv Ar.c arms := ⟨_, rfl⟩
  obtain ⟨ew, hew⟩ : ∃ es, es = lsAv wallC walls := ⟨_, rfl⟩
  obtain ⟨ep, hep⟩ : ∃ es, es = lsAv Pt.c parts := ⟨_, rfl⟩
  obtain ⟨es, hes⟩ : ∃ es, es = lsAv Sl.c slots := ⟨_, rfl⟩
  obtain ⟨eg, heg⟩ : ∃ es, es = lsAv Gt.c gates := ⟨_, rfl⟩
  have hgz : eg[0]? = some (Gt.c ⟨nm, ⟨⟨lx, ly⟩, ⟨hx, hy⟩⟩⟩) := by rw [heg]; exact lsAv_get hgt
  have lg : A.llen eg = (gates.length : Int) := by rw [llen hA, heg, lsAv_len]
  simp only [Wk.c, ← hea, ← hew, ← hep, ← hes, ← heg] at k2 k11 k12 k13 k14 kb ⊢
  have c1 : A.cmp .eql (A.llen eg) 0 = false := by rw [AE.c_eql hA, lg]; exact decide_eq_false (by omega)
  have c2 : A.cmp .eql 0 0 = true := by rw [AE.c_eql hA]; rfl
  have c3 : A.bnot true = false := by rw [AE.c_not hA]; rfl
  have c4 : A.cmp .neq 0 0 = false := by rw [AE.c_neq hA]; rfl
  have c5 : A.cmp .neq (A.llen vg) (A.llen eg) = false := by rw [AE.c_neq hA, lg, lvg]; simp
  have c6 : A.bcmp .neq is is = false := by rw [hA]; cases is <;> rfl
  have c7 : A.bnot is = !is := by rw [AE.c_not hA]
  clear hea hew hep hes heg lvg lg hgt hng hn1
  (repeat' (first | (refine X.g ?_; cbv) | refine X.splitT ?_ | refine X.splitF ?_ | refine X.sp (fun hc => ?_) (fun hc => ?_) | refine X.needT ?_ | refine X.callsGA [] kb ?_ | refine X.callsGA [] k2 ?_ | refine X.idx _ _ _ _ _ _ _ _ hvg0 rfl ?_ | refine X.idx _ _ _ _ _ _ _ _ hgz rfl ?_ | fail))
  apply shareG X
  · intro hs
    apply share8 X
    · intro y3q0 y3q1 y3q2 y3q3 y3q4 y3q5 y3q6 y3q7
      apply share8 X
      · intro y2q0 y2q1 y2q2 y2q3 y2q4 y2q5 y2q6 y2q7
        apply share8 X
        · intro y1q0 y1q1 y1q2 y1q3 y1q4 y1q5 y1q6 y1q7
          apply share8 X
          · intro y0q0 y0q1 y0q2 y0q3 y0q4 y0q5 y0q6 y0q7
            refine X.drawX _ _ _ (by kernel_rfl) (X.frzB 0 _ _ (Nat.zero_le _) (X.frzB 1 _ _ (Nat.zero_le _) (X.frzB 2 _ _ (Nat.zero_le _) ?_)))
            (repeat' (first | (refine X.g ?_; cbv) | refine X.splitT ?_ | refine X.splitF ?_ | refine X.sp (fun hc => ?_) (fun hc => ?_) | refine X.needT ?_ | refine X.fork _ _ ?_ ?_ | fail))
            all_goals first | exact y0q0 | exact y0q1 | exact y0q2 | exact y0q3 | exact y0q4 | exact y0q5 | exact y0q6 | exact y0q7
          all_goals first | ((fail_if_success (apply X.needT)); refine X.callsG [] k3 ?_ ?_ ?_ ?_; (focus (cbv; done)); (focus (cbv <;> (and_intros <;> first | rfl | trivial))); (focus (cbv; done)); (repeat' (first | (refine X.g ?_; cbv) | refine X.splitT ?_ | refine X.splitF ?_ | refine X.sp (fun hc => ?_) (fun hc => ?_) | refine X.needT ?_ | refine X.fork _ _ ?_ ?_ | fail)) <;> first | exact y1q0 | exact y1q1 | exact y1q2 | exact y1q3 | exact y1q4 | exact y1q5 | exact y1q6 | exact y1q7) | exact hs
        all_goals first | ((fail_if_success (apply X.needT)); refine X.callsG [] k5 ?_ ?_ ?_ ?_; (focus (cbv; done)); (focus (cbv <;> (and_intros <;> first | rfl | trivial))); (focus (cbv; done)); (repeat' (first | (refine X.g ?_; cbv) | refine X.splitT ?_ | refine X.splitF ?_ | refine X.sp (fun hc => ?_) (fun hc => ?_) | refine X.needT ?_ | refine X.fork _ _ ?_ ?_ | fail)) <;> first | exact y2q0 | exact y2q1 | exact y2q2 | exact y2q3 | exact y2q4 | exact y2q5 | exact y2q6 | exact y2q7) | exact hs
      all_goals first | ((fail_if_success (apply X.needT)); refine X.callsG [] k4 ?_ ?_ ?_ ?_; (focus (cbv; done)); (focus (cbv <;> (and_intros <;> first | rfl | trivial))); (focus (cbv; done)); (repeat' (first | (refine X.g ?_; cbv) | refine X.splitT ?_ | refine X.splitF ?_ | refine X.sp (fun hc => ?_) (fun hc => ?_) | refine X.needT ?_ | refine X.fork _ _ ?_ ?_ | fail)) <;> first | exact y3q0 | exact y3q1 | exact y3q2 | exact y3q3 | exact y3q4 | exact y3q5 | exact y3q6 | exact y3q7) | exact hs
    all_goals first | ((fail_if_success (apply X.needT)); refine X.callsG [] k6 ?_ ?_ ?_ ?_; (focus (cbv; done)); (focus (cbv <;> (and_intros <;> first | rfl | trivial))); (focus (cbv; done)); (repeat' (first | (refine X.g ?_; cbv) | refine X.splitT ?_ | refine X.splitF ?_ | refine X.sp (fun hc => ?_) (fun hc => ?_) | refine X.needT ?_ | refine X.fork _ _ ?_ ?_ | fail)) <;> first | exact hs) | exact hs
  have c8 : A.cmp .eql 7 7 = true := by rw [AE.c_eql hA]; rfl
  have c10 : A.cmp .eql 17 17 = true := by rw [AE.c_eql hA]; rfl
  have c11 : A.cmp .eql (A.llen []) 0 = true := by rw [AE.c_eql hA, llen hA]; rfl
  have c12 : A.cmp .eql (A.llen vx) 1 = true := by rw [AE.c_eql hA, lvx]; rfl
  have c13 : A.bnot false = true := by rw [AE.c_not hA]; rfl
  have c14 : A.band (A.band (A.bcmp .eql px.1 px.1) (A.band (A.scmp .eql px.2 px.2) (A.scmp .eql px.3 px.3))) (A.band (A.bcmp .eql py.1 py.1) (A.band (A.scmp .eql py.2 py.2) (A.scmp .eql py.3 py.3))) = true := by
    rw [p_self hA, p_self hA, AE.c_and hA]; rfl
  clear k2 k3 k4 k5 k6 kb
  cases is
  · have k11 := k11 rfl
    have k12 := k12 rfl
    clear k13 k14
    (repeat' (first | (refine X.g ?_; cbv) | refine X.splitT ?_ | refine X.splitF ?_ | refine X.sp (fun hc => ?_) (fun hc => ?_) | refine X.needT ?_ | refine X.callsGA [] k11 ?_ | fail))
    apply shareG X
    · intro hs
      apply share8 X
      · intro y4q0 y4q1 y4q2 y4q3 y4q4 y4q5 y4q6 y4q7
        apply share8 X
        · intro y3q0 y3q1 y3q2 y3q3 y3q4 y3q5 y3q6 y3q7
          apply share8 X
          · intro y2q0 y2q1 y2q2 y2q3 y2q4 y2q5 y2q6 y2q7
            apply share8 X
            · intro y1q0 y1q1 y1q2 y1q3 y1q4 y1q5 y1q6 y1q7
              apply share8 X
              · intro y0q0 y0q1 y0q2 y0q3 y0q4 y0q5 y0q6 y0q7
                refine X.drawX _ _ _ (by kernel_rfl) ?_
                (repeat' (first | (refine X.g ?_; cbv) | refine X.splitT ?_ | refine X.splitF ?_ | refine X.sp (fun hc => ?_) (fun hc => ?_) | refine X.needT ?_ | refine X.fork _ _ ?_ ?_ | fail))
                all_goals first | exact y0q0 | exact y0q1 | exact y0q2 | exact y0q3 | exact y0q4 | exact y0q5 | exact y0q6 | exact y0q7
              all_goals first | ((fail_if_success (apply X.needT)); refine X.calls [] k7 ?_ ?_ ?_ ?_; (focus (cbv; done)); (focus (cbv <;> (and_intros <;> first | rfl | trivial))); (focus (cbv; done)); (repeat' (first | (refine X.g ?_; cbv) | refine X.splitT ?_ | refine X.splitF ?_ | refine X.sp (fun hc => ?_) (fun hc => ?_) | refine X.needT ?_ | refine X.fork _ _ ?_ ?_ | fail)) <;> first | exact y1q0 | exact y1q1 | exact y1q2 | exact y1q3 | exact y1q4 | exact y1q5 | exact y1q6 | exact y1q7) | exact hs
            all_goals first | ((fail_if_success (apply X.needT)); refine X.calls [] k8 ?_ ?_ ?_ ?_; (focus (cbv; done)); (focus (cbv <;> (and_intros <;> first | rfl | trivial))); (focus (cbv; done)); (repeat' (first | (refine X.g ?_; cbv) | refine X.splitT ?_ | refine X.splitF ?_ | refine X.sp (fun hc => ?_) (fun hc => ?_) | refine X.needT ?_ | refine X.fork _ _ ?_ ?_ | fail)) <;> first | exact y2q0 | exact y2q1 | exact y2q2 | exact y2q3 | exact y2q4 | exact y2q5 | exact y2q6 | exact y2q7) | exact hs
          all_goals first | ((fail_if_success (apply X.needT)); refine X.calls [] k9 ?_ ?_ ?_ ?_; (focus (cbv; done)); (focus (cbv <;> (and_intros <;> first | rfl | trivial))); (focus (cbv; done)); (repeat' (first | (refine X.g ?_; cbv) | refine X.splitT ?_ | refine X.splitF ?_ | refine X.sp (fun hc => ?_) (fun hc => ?_) | refine X.needT ?_ | refine X.fork _ _ ?_ ?_ | fail)) <;> first | exact y3q0 | exact y3q1 | exact y3q2 | exact y3q3 | exact y3q4 | exact y3q5 | exact y3q6 | exact y3q7) | exact hs
        all_goals first | ((fail_if_success (apply X.needT)); refine X.callsG [] k10 ?_ ?_ ?_ ?_; (focus (cbv; done)); (focus (cbv <;> (and_intros <;> first | rfl | trivial))); (focus (cbv; done)); (repeat' (first | (refine X.g ?_; cbv) | refine X.splitT ?_ | refine X.splitF ?_ | refine X.sp (fun hc => ?_) (fun hc => ?_) | refine X.needT ?_ | refine X.fork _ _ ?_ ?_ | fail)) <;> first | exact y4q0 | exact y4q1 | exact y4q2 | exact y4q3 | exact y4q4 | exact y4q5 | exact y4q6 | exact y4q7) | exact hs
      all_goals first | ((fail_if_success (apply X.needT)); refine X.callsG [] k12 ?_ ?_ ?_ ?_; (focus (cbv; done)); (focus (cbv <;> (and_intros <;> first | rfl | trivial))); (focus (cbv; done)); (repeat' (first | (refine X.g ?_; cbv) | refine X.splitT ?_ | refine X.splitF ?_ | refine X.sp (fun hc => ?_) (fun hc => ?_) | refine X.needT ?_ | refine X.fork _ _ ?_ ?_ | fail)) <;> first | exact hs) | exact hs
    (repeat' (first | (refine X.g ?_; cbv) | refine X.splitT ?_ | refine X.splitF ?_ | refine X.sp (fun hc => ?_) (fun hc => ?_) | refine X.needT ?_ | refine X.fork _ _ ?_ ?_ | fail))
    all_goals (refine X.ret _ (X.done rfl ?_); cbv <;> (and_intros <;> first | exact c8 | rfl | trivial))
  · have k13 := k13 rfl
    have k14 := k14 rfl
    clear k11 k12
    (repeat' (first | (refine X.g ?_; cbv) | refine X.splitT ?_ | refine X.splitF ?_ | refine X.sp (fun hc => ?_) (fun hc => ?_) | refine X.needT ?_ | refine X.callsGA [] k13 ?_ | fail))
    apply shareG X
    · intro hs
      apply share8 X
      · intro y4q0 y4q1 y4q2 y4q3 y4q4 y4q5 y4q6 y4q7
        apply share8 X
        · intro y3q0 y3q1 y3q2 y3q3 y3q4 y3q5 y3q6 y3q7
          apply share8 X
          · intro y2q0 y2q1 y2q2 y2q3 y2q4 y2q5 y2q6 y2q7
            apply share8 X
            · intro y1q0 y1q1 y1q2 y1q3 y1q4 y1q5 y1q6 y1q7
              apply share8 X
              · intro y0q0 y0q1 y0q2 y0q3 y0q4 y0q5 y0q6 y0q7
                refine X.drawX _ _ _ (by kernel_rfl) ?_
                (repeat' (first | (refine X.g ?_; cbv) | refine X.splitT ?_ | refine X.splitF ?_ | refine X.sp (fun hc => ?_) (fun hc => ?_) | refine X.needT ?_ | refine X.fork _ _ ?_ ?_ | fail))
                all_goals first | exact y0q0 | exact y0q1 | exact y0q2 | exact y0q3 | exact y0q4 | exact y0q5 | exact y0q6 | exact y0q7
              all_goals first | ((fail_if_success (apply X.needT)); refine X.calls [] k7 ?_ ?_ ?_ ?_; (focus (cbv; done)); (focus (cbv <;> (and_intros <;> first | rfl | trivial))); (focus (cbv; done)); (repeat' (first | (refine X.g ?_; cbv) | refine X.splitT ?_ | refine X.splitF ?_ | refine X.sp (fun hc => ?_) (fun hc => ?_) | refine X.needT ?_ | refine X.fork _ _ ?_ ?_ | fail)) <;> first | exact y1q0 | exact y1q1 | exact y1q2 | exact y1q3 | exact y1q4 | exact y1q5 | exact y1q6 | exact y1q7) | exact hs
            all_goals first | ((fail_if_success (apply X.needT)); refine X.calls [] k8 ?_ ?_ ?_ ?_; (focus (cbv; done)); (focus (cbv <;> (and_intros <;> first | rfl | trivial))); (focus (cbv; done)); (repeat' (first | (refine X.g ?_; cbv) | refine X.splitT ?_ | refine X.splitF ?_ | refine X.sp (fun hc => ?_) (fun hc => ?_) | refine X.needT ?_ | refine X.fork _ _ ?_ ?_ | fail)) <;> first | exact y2q0 | exact y2q1 | exact y2q2 | exact y2q3 | exact y2q4 | exact y2q5 | exact y2q6 | exact y2q7) | exact hs
          all_goals first | ((fail_if_success (apply X.needT)); refine X.calls [] k9 ?_ ?_ ?_ ?_; (focus (cbv; done)); (focus (cbv <;> (and_intros <;> first | rfl | trivial))); (focus (cbv; done)); (repeat' (first | (refine X.g ?_; cbv) | refine X.splitT ?_ | refine X.splitF ?_ | refine X.sp (fun hc => ?_) (fun hc => ?_) | refine X.needT ?_ | refine X.fork _ _ ?_ ?_ | fail)) <;> first | exact y3q0 | exact y3q1 | exact y3q2 | exact y3q3 | exact y3q4 | exact y3q5 | exact y3q6 | exact y3q7) | exact hs
        all_goals first | ((fail_if_success (apply X.needT)); refine X.callsG [] k10 ?_ ?_ ?_ ?_; (focus (cbv; done)); (focus (cbv <;> (and_intros <;> first | rfl | trivial))); (focus (cbv; done)); (repeat' (first | (refine X.g ?_; cbv) | refine X.splitT ?_ | refine X.splitF ?_ | refine X.sp (fun hc => ?_) (fun hc => ?_) | refine X.needT ?_ | refine X.fork _ _ ?_ ?_ | fail)) <;> first | exact y4q0 | exact y4q1 | exact y4q2 | exact y4q3 | exact y4q4 | exact y4q5 | exact y4q6 | exact y4q7) | exact hs
      all_goals first | ((fail_if_success (apply X.needT)); refine X.callsG [] k14 ?_ ?_ ?_ ?_; (focus (cbv; done)); (focus (cbv <;> (and_intros <;> first | rfl | trivial))); (focus (cbv; done)); (repeat' (first | (refine X.g ?_; cbv) | refine X.splitT ?_ | refine X.splitF ?_ | refine X.sp (fun hc => ?_) (fun hc => ?_) | refine X.needT ?_ | refine X.fork _ _ ?_ ?_ | fail)) <;> first | exact hs) | exact hs
    (repeat' (first | (refine X.g ?_; cbv) | refine X.splitT ?_ | refine X.splitF ?_ | refine X.sp (fun hc => ?_) (fun hc => ?_) | refine X.needT ?_ | refine X.drawX _ _ _ (by kernel_rfl) (X.frzB 3 _ _ (Nat.zero_le _) (X.frzB 4 _ _ (Nat.zero_le _) (X.frzB 5 _ _ (Nat.zero_le _) ?_))) | refine X.fork _ _ ?_ ?_ | refine X.idx _ _ _ _ _ _ _ _ hvx0 rfl ?_ | fail))
    all_goals (refine X.ret _ (X.done rfl ?_); cbv <;> (and_intros <;> first | exact c11 | rfl | trivial))
end Go.Proofs.YthadehkggddgoaaGreatDoor
