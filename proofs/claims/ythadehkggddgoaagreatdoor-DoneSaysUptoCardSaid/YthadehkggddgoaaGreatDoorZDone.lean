/- Contracts: done.check, Off, In, Best. -/
import Derived.Test.YthadehkggddgoaaGreatDoorZWorld
import Derived.Test.YthadehkggddgoaaGreatDoorZTurn
set_option maxRecDepth 100000
set_option maxHeartbeats 0
set_option linter.unusedVariables false
set_option linter.unusedSimpArgs false
namespace Go.Proofs.YthadehkggddgoaaGreatDoor
open Go Go.Num
def doneI (st p np s ns : Int) : Int := if st ≠ 0 then st else if p < 0 ∨ np ≤ p ∨ s < 0 ∨ ns ≤ s then 1 else 0
theorem doneCheck_ok (w : Wk) (hw : w.Le) (s : Ss) (hs : s.Le) (p q : Int) (r : Int) (hr : r = doneI (stateC w s) p w.parts.length q w.slots.length) : AE.ACallG GG Tryz.prog 75 [] [.a w.c, .a s.c, .v (.int .i64 p), .v (.int .i64 q)] [] (.v (.int .i64 r)) := by
  refine AE.ACallG.of_walk (fn := Tryz.f75) (c := bodyOf Tryz.f75) GG_stays tabOK Tryz.func75 rfl rfl mixed fun A hA X => ?_
  obtain ⟨st, hst⟩ : ∃ e, e = stateC w s := ⟨_, rfl⟩
  have k1 := worldCheck_ok w hw s hs st hst
  rw [← hst] at hr
  clear hw hst
  obtain ⟨arms, walls, parts, slots, gates, walk⟩ := w
  simp only at hr
  obtain ⟨ea, hea⟩ : ∃ es, es = lsAv Ar.c arms := ⟨_, rfl⟩
  obtain ⟨ew, hew⟩ : ∃ es, es = lsAv wallC walls := ⟨_, rfl⟩
  obtain ⟨ep, hep⟩ : ∃ es, es = lsAv Pt.c parts := ⟨_, rfl⟩
  obtain ⟨es, hes⟩ : ∃ es, es = lsAv Sl.c slots := ⟨_, rfl⟩
  obtain ⟨eg, heg⟩ : ∃ es, es = lsAv Gt.c gates := ⟨_, rfl⟩
  have l1 : A.llen ep = (parts.length : Int) := by rw [llen hA, hep, lsAv_len]
  have l2 : A.llen es = (slots.length : Int) := by rw [llen hA, hes, lsAv_len]
  rw [← l1, ← l2] at hr
  simp only [Wk.c, ← hea, ← hew, ← hep, ← hes, ← heg] at k1 ⊢
  clear hea hew hep hes heg l1 l2
  (repeat' (first | (refine X.g ?_; cbv) | refine X.splitT ?_ | refine X.splitF ?_ | refine X.sp (fun hc => ?_) (fun hc => ?_) | refine X.callsGA [] k1 ?_ | refine X.needT ?_ | fail))
  all_goals (refine X.ret _ (X.done rfl ?_); cbv <;> (and_intros <;> first | rfl | trivial | (clear X k1 hs; rw [hr]; (try simp only [AE.c_lss hA, AE.c_leq hA, AE.c_gtr hA, AE.c_geq hA, AE.c_eql hA, AE.c_neq hA, AE.c_not hA, AE.c_and hA, AE.c_beq hA, AE.c_bne hA, decide_eq_true_eq, decide_eq_false_iff_not, Bool.not_eq_true, Bool.not_eq_false, Bool.not_eq_eq_eq_not, Bool.not_true, Bool.not_false, Int.not_lt, Int.not_le, Int.ofNat_eq_natCast] at *); unfold doneI; first | (simp_all; done) | ((repeat' split) <;> first | omega | (simp_all; done) | (simp_all; omega)))))
def offV (f g : Fr) (c : V2) : RV := (f.put c.v).sub (g.put c.v)
def offStep (f g : Fr) (m : Rat) (c : V2) : Rat := maxR m (maxR (absR (offV f g c).x) (absR (offV f g c).y))
def offR (f g : Fr) (l : List V2) : Rat := l.foldl (offStep f g) 0
theorem off_rs (f g : Fr) (c : V2) {n : Nat} (h1 : f.le n) (h2 : g.le n) (h3 : c.sz ≤ n) : rs (offV f g c).x ≤ 40 * n + 1000 ∧ rs (offV f g c).y ≤ 40 * n + 1000 := by
  have a1 := rvTurn_rs c.v f.turn
  have a2 := rvTurn_rs c.v g.turn
  have a3 := c.rs
  have a4 := f.at_.rs
  have a5 := g.at_.rs
  have a6 := RV.rs_add f.at_.v (c.v.turn f.turn)
  have a7 := RV.rs_add g.at_.v (c.v.turn g.turn)
  have a8 := RV.rs_sub (f.put c.v) (g.put c.v)
  obtain ⟨b1, b2⟩ := h1
  obtain ⟨b3, b4⟩ := h2
  have e1 : f.put c.v = f.at_.v.add (c.v.turn f.turn) := rfl
  have e2 : g.put c.v = g.at_.v.add (c.v.turn g.turn) := rfl
  rw [← e1] at a6
  rw [← e2] at a7
  have e3 : (offV f g c).rs ≤ 40 * n + 1000 := by
    show ((f.put c.v).sub (g.put c.v)).rs ≤ _
    omega
  have e4 : (offV f g c).rs = max (rs (offV f g c).x) (rs (offV f g c).y) := rfl
  omega
theorem offR_rs (f g : Fr) {n : Nat} (h1 : f.le n) (h2 : g.le n) : ∀ (l : List V2) (m : Rat), (∀ c ∈ l, c.sz ≤ n) → rs m ≤ 40 * n + 1000 → rs (l.foldl (offStep f g) m) ≤ 40 * n + 1000
  | [], m, _, h => h
  | c :: l, m, hc, h => by
    refine offR_rs f g h1 h2 l _ (fun x hx => hc x (by simp [hx])) ?_
    have := off_rs f g c h1 h2 (hc c (by simp))
    have r1 := rs_max m (maxR (absR (offV f g c).x) (absR (offV f g c).y))
    have r2 := rs_max (absR (offV f g c).x) (absR (offV f g c).y)
    rw [rs_abs, rs_abs] at r2
    show rs (offStep f g m c) ≤ _
    rw [offStep]; omega
def partAt (w : Wk) (i : Int) : Pt := w.parts.getD i.toNat ⟨⟨⟨[]⟩⟩, [], ⟨⟨Q.nil, Q.nil⟩, ⟨false, Q.nil⟩⟩⟩
def slotAt (w : Wk) (i : Int) : Sl := w.slots.getD i.toNat ⟨⟨⟨[]⟩⟩, ⟨⟨Q.nil, Q.nil⟩, ⟨false, Q.nil⟩⟩, Q.nil⟩
def frAt (s : Ss) (i : Int) : Fr := s.parts.getD i.toNat ⟨⟨Q.nil, Q.nil⟩, ⟨false, Q.nil⟩⟩
theorem getD_some {α : Type} {l : List α} {i : Nat} (h : i < l.length) (d : α) : l[i]? = some (l.getD i d) := by
  rw [List.getD_eq_getElem?_getD, List.getElem?_eq_getElem h]; rfl
theorem done_in {w : Wk} {s : Ss} {p q : Int} (h : doneI (stateC w s) p w.parts.length q w.slots.length = 0) : stateC w s = 0 ∧ 0 ≤ p ∧ p < w.parts.length ∧ 0 ≤ q ∧ q < w.slots.length := by
  unfold doneI at h
  split at h
  · omega
  · split at h
    · omega
    · omega
theorem doneOff_ok (w : Wk) (hw : w.Le) (s : Ss) (hs : s.Le) (hp : ∀ f ∈ s.parts, f.le (2 ^ 20)) (p q : Int) (e : Int) (he : e = doneI (stateC w s) p w.parts.length q w.slots.length) (hz : e = 0 → (∀ c ∈ (partAt w p).shape, c.sz ≤ 2 ^ 20) ∧ (slotAt w q).frame.le (2 ^ 20)) (hpl : s.parts.length = w.parts.length) (r : Q) (hr : r = if e ≠ 0 then Q.nil else Q.of (offR (frAt s p) (slotAt w q).frame (partAt w p).shape)) : AE.ACallG GG Tryz.prog 22 [] [.a w.c, .a s.c, .v (.int .i64 p), .v (.int .i64 q)] [] (.t [.a r.c, .v (.int .i64 e)]) := by
  refine AE.ACallG.of_walk (fn := Tryz.f22) (c := bodyOf Tryz.f22) GG_stays tabOK Tryz.func22 rfl rfl mixed fun A hA X => ?_
  have k1 := doneCheck_ok w hw s hs p q e he
  have hwp := hw.parts
  by_cases h0 : e = 0
  case neg =>
    have c0 : A.cmp .neq e 0 = true := by rw [AE.c_neq hA]; simpa using h0
    have hr1 : r = Q.nil := by rw [hr, if_pos h0]
    subst hr1
    (repeat' (first | (refine X.g ?_; cbv) | refine X.splitT ?_ | refine X.splitF ?_ | refine X.sp (fun hc => ?_) (fun hc => ?_) | refine X.needT ?_ | refine X.callsGA [] k1 ?_ | fail))
    all_goals (refine X.ret _ (X.done rfl ?_); cbv <;> (and_intros <;> first | rfl | trivial))
  have c0 : A.cmp .neq e 0 = false := by rw [AE.c_neq hA, h0]; rfl
  obtain ⟨_, i1, i2, i3, i4⟩ := done_in (he.symm.trans h0)
  obtain ⟨z1, z2⟩ := hz h0
  rw [if_neg (by omega)] at hr
  obtain ⟨i, hi⟩ : ∃ i : Nat, p = i := ⟨p.toNat, by omega⟩
  obtain ⟨j, hj⟩ : ∃ i : Nat, q = i := ⟨q.toNat, by omega⟩
  have hgp : w.parts[i]? = some (partAt w p) := by rw [partAt, hi, Int.toNat_natCast]; exact getD_some (by omega) _
  have hgs : w.slots[j]? = some (slotAt w q) := by rw [slotAt, hj, Int.toNat_natCast]; exact getD_some (by omega) _
  have hgf : s.parts[i]? = some (frAt s p) := by rw [frAt, hi, Int.toNat_natCast]; exact getD_some (by omega) _
  obtain ⟨pt, hpt⟩ : ∃ x, x = partAt w p := ⟨_, rfl⟩
  obtain ⟨sl, hsl⟩ : ∃ x, x = slotAt w q := ⟨_, rfl⟩
  obtain ⟨f, hf⟩ : ∃ x, x = frAt s p := ⟨_, rfl⟩
  rw [← hpt] at hgp z1 hr
  rw [← hsl] at hgs z2 hr
  rw [← hf] at hgf hr
  have zf := hp f (List.mem_of_getElem? hgf)
  have zl := (hwp pt (List.mem_of_getElem? hgp)).2.2.1
  clear hw hs hp he hz hpl hpt hsl hf hwp
  obtain ⟨arms, walls, parts, slots, gates, walk⟩ := w
  obtain ⟨tick, xs, fs, ps, os⟩ := s
  simp only at hgp hgs hgf
  obtain ⟨ea, hea⟩ : ∃ es, es = lsAv Ar.c arms := ⟨_, rfl⟩
  obtain ⟨ew, hew⟩ : ∃ es, es = lsAv wallC walls := ⟨_, rfl⟩
  obtain ⟨ep, hep⟩ : ∃ es, es = lsAv Pt.c parts := ⟨_, rfl⟩
  obtain ⟨es, hes⟩ : ∃ es, es = lsAv Sl.c slots := ⟨_, rfl⟩
  obtain ⟨eg, heg⟩ : ∃ es, es = lsAv Gt.c gates := ⟨_, rfl⟩
  obtain ⟨ex, hex⟩ : ∃ es, es = lsAv As.c xs := ⟨_, rfl⟩
  obtain ⟨ef, hef⟩ : ∃ es, es = lsAv Fr.c fs := ⟨_, rfl⟩
  obtain ⟨ev, hev⟩ : ∃ es, es = lsAv V2.c ps := ⟨_, rfl⟩
  obtain ⟨eo, heo⟩ : ∃ es, es = lsAv boolC os := ⟨_, rfl⟩
  have hep1 : ep[i]? = some pt.c := by rw [hep]; exact lsAv_get hgp
  have hes1 : es[j]? = some sl.c := by rw [hes]; exact lsAv_get hgs
  have hef1 : ef[i]? = some f.c := by rw [hef]; exact lsAv_get hgf
  obtain ⟨pn, sh, gr⟩ := pt
  obtain ⟨sn, sf, sw⟩ := sl
  simp only at z1 z2 zl hr
  obtain ⟨esh, hesh⟩ : ∃ es, es = lsAv V2.c sh := ⟨_, rfl⟩
  simp only [Pt.c, ← hesh] at hep1
  simp only [Wk.c, Ss.c, ← hea, ← hew, ← hep, ← hes, ← heg, ← hex, ← hef, ← hev, ← heo] at k1 ⊢
  clear hea hew hep hes heg hex hef hev heo hgp hgs hgf
  obtain ⟨m0, hm0⟩ : ∃ m : Nat → Q, ∀ k, m k = Q.of ((sh.take k).foldl (offStep f sf) 0) := ⟨_, fun _ => rfl⟩
  have k2 := ratOf_ok 0 (by decide) (by decide) (m0 0) (by rw [hm0]; rfl)
  (repeat' (first | (refine X.g ?_; cbv) | refine X.splitT ?_ | refine X.splitF ?_ | refine X.sp (fun hc => ?_) (fun hc => ?_) | refine X.needT ?_ | refine X.callsGA [] k1 ?_ | refine X.callsGA [] k2 ?_ | refine X.idx _ _ _ _ _ _ _ _ hep1 hi ?_ | fail))
  refine X.loopG _ _ _ (X.frzB 0 _ _ (Nat.zero_le _) (X.frzB 1 _ _ (Nat.zero_le _) ?_))
  (refine X.g ?_; cbv)
  refine rangeLS X hA hesh (by omega) (fun _ => True) (fun z _ => [(32, .v (.int .i64 z))]) (fun k o => o.set 3 (.box (m0 k).c 29)) trivial ?_ (fun k z y hz hy hye c3 hI B hB => ?_) (fun z c3 hI B => ?_)
  · (cbv <;> (and_intros <;> first | rfl | trivial))
  · have zy := z1 y (List.mem_of_getElem? hy)
    obtain ⟨u, hu⟩ : ∃ u, u = V2.of (f.put y.v) := ⟨_, rfl⟩
    obtain ⟨v, hv⟩ : ∃ u, u = V2.of (sf.put y.v) := ⟨_, rfl⟩
    obtain ⟨dx, hdx⟩ : ∃ u, u = Q.of (offV f sf y).x := ⟨_, rfl⟩
    obtain ⟨dy, hdy⟩ : ∃ u, u = Q.of (offV f sf y).y := ⟨_, rfl⟩
    obtain ⟨ax, hax⟩ : ∃ u, u = Q.of (absR (offV f sf y).x) := ⟨_, rfl⟩
    obtain ⟨ay, hay⟩ : ∃ u, u = Q.of (absR (offV f sf y).y) := ⟨_, rfl⟩
    obtain ⟨mx, hmx⟩ : ∃ u, u = Q.of (maxR (absR (offV f sf y).x) (absR (offV f sf y).y)) := ⟨_, rfl⟩
    have b0 := off_rs f sf y zf z2 zy
    have b1 := rvTurn_rs y.v f.turn
    have b2 := rvTurn_rs y.v sf.turn
    have b3 := y.rs
    have b4 := RV.rs_add f.at_.v (y.v.turn f.turn)
    have b5 := RV.rs_add sf.at_.v (y.v.turn sf.turn)
    have b6 := f.at_.rs
    have b7 := sf.at_.rs
    have b8 := rs_max (absR (offV f sf y).x) (absR (offV f sf y).y)
    rw [rs_abs, rs_abs] at b8
    have b9 := offR_rs f sf zf z2 (sh.take k) 0 (fun c hc => z1 c (List.mem_of_mem_take hc)) (by have := rs0; omega)
    obtain ⟨zf1, zf2⟩ := zf
    obtain ⟨zs1, zs2⟩ := z2
    have su : u.sz ≤ 2 ^ 30 := by rw [hu, V2.sz_of]; show (f.at_.v.add (y.v.turn f.turn)).rs ≤ _; omega
    have sv : v.sz ≤ 2 ^ 30 := by rw [hv, V2.sz_of]; show (sf.at_.v.add (y.v.turn sf.turn)).rs ≤ _; omega
    have sdx : dx.sz ≤ 2 ^ 30 := by rw [hdx, sz_of]; omega
    have sdy : dy.sz ≤ 2 ^ 30 := by rw [hdy, sz_of]; omega
    have sax : ax.sz ≤ 2 ^ 30 := by rw [hax, sz_of, rs_abs]; omega
    have say : ay.sz ≤ 2 ^ 30 := by rw [hay, sz_of, rs_abs]; omega
    have smx : mx.sz ≤ 2 ^ 30 := by rw [hmx, sz_of]; omega
    have sm0 : (m0 k).sz ≤ 2 ^ 30 := by rw [hm0, sz_of]; omega
    have k3 := framePut_ok f ⟨by omega, by omega⟩ y (by omega) u hu
    have k4 := framePut_ok sf ⟨by omega, by omega⟩ y (by omega) v hv
    have k5 := vecSub_ok u v (by omega) (by omega) ⟨dx, dy⟩ (by rw [hdx, hdy, hu, hv, V2.v_of, V2.v_of]; rfl)
    have k6 := ratAbs_ok dx (by omega) ax (by rw [hax, hdx, Q.v_of])
    have k7 := ratAbs_ok dy (by omega) ay (by rw [hay, hdy, Q.v_of])
    have k8 := ratMax_ok ax ay (by omega) (by omega) mx (by rw [hmx, hax, hay, Q.v_of, Q.v_of])
    have k9 := ratMax_ok (m0 k) mx (by omega) (by omega) (m0 (k + 1)) (by
      rw [hm0 (k + 1), take_snoc hy, List.foldl_append, hm0 k, Q.v_of, hmx, Q.v_of]; rfl)
    clear b0 b1 b2 b3 b4 b5 b6 b7 b8 b9 hu hv hdx hdy hax hay hmx su sv sdx sdy sax say smx sm0 k1 k2
    obtain ⟨w0, hw0⟩ : ∃ q, q = m0 k := ⟨_, rfl⟩
    obtain ⟨w1, hw1⟩ : ∃ q, q = m0 (k + 1) := ⟨_, rfl⟩
    rw [← hw0] at k9 ⊢
    rw [← hw1] at k9 hB
    (repeat' (first | (refine X.g ?_; cbv) | refine X.splitT ?_ | refine X.splitF ?_ | refine X.sp (fun hc => ?_) (fun hc => ?_) | refine X.needT ?_ | refine X.idx _ _ _ _ _ _ _ _ hye hz ?_ | fail))
    apply shareG X
    · intro hs
      refine X.drawX _ _ _ (by kernel_rfl) (X.frzB 4 _ _ (Nat.zero_le _) ?_)
      (repeat' (first | (refine X.g ?_; cbv) | refine X.splitT ?_ | refine X.splitF ?_ | refine X.sp (fun hc => ?_) (fun hc => ?_) | refine X.needT ?_ | refine X.fork _ _ ?_ ?_ | refine X.idx _ _ _ _ _ _ _ _ hef1 hi ?_ | refine X.idx _ _ _ _ _ _ _ _ hes1 hj ?_ | refine X.callsGA [] k3 ?_ | refine X.callsGA [] k4 ?_ | refine X.callsGA [] k5 ?_ | fail))
      all_goals exact hs
    apply shareG X
    · intro hs
      refine X.drawX _ _ _ (by kernel_rfl) ?_
      (repeat' (first | (refine X.g ?_; cbv) | refine X.splitT ?_ | refine X.splitF ?_ | refine X.sp (fun hc => ?_) (fun hc => ?_) | refine X.needT ?_ | refine X.fork _ _ ?_ ?_ | refine X.callsGA [] k6 ?_ | refine X.callsGA [] k7 ?_ | refine X.callsGA [] k8 ?_ | refine X.callsGA [] k9 ?_ | fail))
      all_goals exact hs
    refine hB trivial _ ?_; clear hB; (cbv <;> (and_intros <;> first | rfl | trivial))
  · have e1 : m0 sh.length = r := by rw [hm0, List.take_length, hr]; rfl
    rw [e1]
    (repeat' (first | (refine X.g ?_; cbv) | refine X.splitT ?_ | refine X.splitF ?_ | refine X.sp (fun hc => ?_) (fun hc => ?_) | refine X.needT ?_ | fail))
    all_goals (refine X.ret _ (X.done rfl ?_); cbv <;> (and_intros <;> first | exact h0.symm | rfl | trivial))
def inB (w : Wk) (s : Ss) (p q : Int) : Bool := if s.arms.any (fun x => decide (x.holds = p)) then false else decide (cmpR (offR (frAt s p) (slotAt w q).frame (partAt w p).shape) (slotAt w q).within.v ≤ 0)
theorem doneIn_ok (w : Wk) (hw : w.Le) (s : Ss) (hs : s.Le) (hp : ∀ f ∈ s.parts, f.le (2 ^ 20)) (p q : Int) (e : Int) (he : e = doneI (stateC w s) p w.parts.length q w.slots.length) (hz : e = 0 → (∀ c ∈ (partAt w p).shape, c.sz ≤ 2 ^ 20) ∧ (slotAt w q).frame.le (2 ^ 20)) (hpl : s.parts.length = w.parts.length) (r : Bool) (hr : r = if e ≠ 0 then false else inB w s p q) : AE.ACallG GG Tryz.prog 21 [] [.a w.c, .a s.c, .v (.int .i64 p), .v (.int .i64 q)] [] (.t [.b r, .v (.int .i64 e)]) := by
  refine AE.ACallG.of_walk (fn := Tryz.f21) (c := bodyOf Tryz.f21) GG_stays tabOK Tryz.func21 rfl rfl mixed fun A hA X => ?_
  obtain ⟨off, hoff⟩ : ∃ x, x = if e ≠ 0 then Q.nil else Q.of (offR (frAt s p) (slotAt w q).frame (partAt w p).shape) := ⟨_, rfl⟩
  have k1 := doneOff_ok w hw s hs hp p q e he hz hpl off hoff
  have hws := hw.slots
  have hna := hs.narms
  by_cases h0 : e = 0
  case neg =>
    have c0 : A.cmp .neq e 0 = true := by rw [AE.c_neq hA]; simpa using h0
    have hr1 : r = false := by rw [hr, if_pos h0]
    (repeat' (first | (refine X.g ?_; cbv) | refine X.splitT ?_ | refine X.splitF ?_ | refine X.sp (fun hc => ?_) (fun hc => ?_) | refine X.needT ?_ | refine X.callsGA [] k1 ?_ | fail))
    all_goals (refine X.ret _ (X.done rfl ?_); cbv <;> (and_intros <;> first | exact hr1.symm | rfl | trivial))
  have c0 : A.cmp .neq e 0 = false := by rw [AE.c_neq hA, h0]; rfl
  obtain ⟨_, i1, i2, i3, i4⟩ := done_in (he.symm.trans h0)
  obtain ⟨z1, z2⟩ := hz h0
  rw [if_neg (by omega)] at hr hoff
  obtain ⟨j, hj⟩ : ∃ i : Nat, q = i := ⟨q.toNat, by omega⟩
  have hgs : w.slots[j]? = some (slotAt w q) := by rw [slotAt, hj, Int.toNat_natCast]; exact getD_some (by omega) _
  have b9 := offR_rs (frAt s p) (slotAt w q).frame (n := 2 ^ 20) (hp _ (by
    rw [frAt, List.getD_eq_getElem?_getD, List.getElem?_eq_getElem (by omega)]; exact List.getElem_mem _)) z2 (partAt w p).shape 0 z1 (by have := rs0; omega)
  rw [inB] at hr
  obtain ⟨sl, hsl⟩ : ∃ x, x = slotAt w q := ⟨_, rfl⟩
  rw [← hsl] at hgs hr hoff b9
  obtain ⟨o, ho⟩ : ∃ x, x = offR (frAt s p) sl.frame (partAt w p).shape := ⟨_, rfl⟩
  have ho' : offR (frAt s p) sl.frame (partAt w p).shape = o := ho.symm
  rw [ho'] at hr hoff
  have so : off.sz ≤ 2 ^ 30 := by
    rw [hoff, sz_of]
    have : rs o ≤ 40 * 2 ^ 20 + 1000 := by rw [ho]; exact b9
    omega
  obtain ⟨_, _, zw⟩ := hws sl (List.mem_of_getElem? hgs)
  clear hw hs hp he hz hpl hsl ho ho' b9 hws z1 z2
  obtain ⟨arms, walls, parts, slots, gates, walk⟩ := w
  obtain ⟨tick, xs, fs, ps, os⟩ := s
  simp only at hgs hr hna
  obtain ⟨ea, hea⟩ : ∃ es, es = lsAv Ar.c arms := ⟨_, rfl⟩
  obtain ⟨ew, hew⟩ : ∃ es, es = lsAv wallC walls := ⟨_, rfl⟩
  obtain ⟨ep, hep⟩ : ∃ es, es = lsAv Pt.c parts := ⟨_, rfl⟩
  obtain ⟨es, hes⟩ : ∃ es, es = lsAv Sl.c slots := ⟨_, rfl⟩
  obtain ⟨eg, heg⟩ : ∃ es, es = lsAv Gt.c gates := ⟨_, rfl⟩
  obtain ⟨ex, hex⟩ : ∃ es, es = lsAv As.c xs := ⟨_, rfl⟩
  obtain ⟨ef, hef⟩ : ∃ es, es = lsAv Fr.c fs := ⟨_, rfl⟩
  obtain ⟨ev, hev⟩ : ∃ es, es = lsAv V2.c ps := ⟨_, rfl⟩
  obtain ⟨eo, heo⟩ : ∃ es, es = lsAv boolC os := ⟨_, rfl⟩
  have hes1 : es[j]? = some sl.c := by rw [hes]; exact lsAv_get hgs
  obtain ⟨c, hc⟩ : ∃ c, c = cmpR o sl.within.v := ⟨_, rfl⟩
  have k2 := ratCmp_ok off sl.within (by omega) (by omega) c (by rw [hc, hoff, Q.v_of])
  rw [← hc] at hr
  simp only [Wk.c, Ss.c, ← hea, ← hew, ← hep, ← hes, ← heg, ← hex, ← hef, ← hev, ← heo] at k1 ⊢
  clear hea hew hep hes heg hef hev heo hgs hc hoff
  (repeat' (first | (refine X.g ?_; cbv) | refine X.splitT ?_ | refine X.splitF ?_ | refine X.sp (fun hc => ?_) (fun hc => ?_) | refine X.needT ?_ | refine X.callsGA [] k1 ?_ | fail))
  refine X.loopG _ _ _ (X.frzB 0 _ _ (Nat.zero_le _) (X.frzB 1 _ _ (Nat.zero_le _) (X.frzB 2 _ _ (Nat.zero_le _) ?_)))
  (refine X.g ?_; cbv)
  refine rangeL0 X hA hex (by omega) (fun i => ∀ x ∈ xs.take i, x.holds ≠ p) (fun z _ => [(28, .v (.int .i64 z))]) (fun x h => by simp at h) ?_ (fun i z y hz hy hye c3 hI B hB => ?_) (fun z c3 hI B => ?_)
  · (cbv <;> (and_intros <;> first | rfl | trivial))
  · obtain ⟨yq, yv, yp, yh⟩ := y
    simp only [As.c] at hye
    by_cases h1 : yh = p
    · have c4 : A.cmp .eql yh p = true := by rw [AE.c_eql hA]; exact decide_eq_true h1
      have hr1 : false = r := by
        rw [hr, if_pos]
        rw [List.any_eq_true]
        exact ⟨_, List.mem_of_getElem? hy, decide_eq_true h1⟩
      clear hB
      (repeat' (first | (refine X.g ?_; cbv) | refine X.splitT ?_ | refine X.splitF ?_ | refine X.sp (fun hc => ?_) (fun hc => ?_) | refine X.needT ?_ | refine X.idx _ _ _ _ _ _ _ _ hye hz ?_ | fail))
      all_goals (refine X.ret _ (X.done rfl ?_); cbv <;> (and_intros <;> first | exact hr1 | exact h0.symm | rfl | trivial))
    · have c4 : A.cmp .eql yh p = false := by rw [AE.c_eql hA]; exact decide_eq_false h1
      have hI' : ∀ x ∈ xs.take (i + 1), x.holds ≠ p := by
        rw [take_snoc hy]
        intro x hx
        rcases List.mem_append.1 hx with hx | hx
        · exact hI x hx
        · rw [List.mem_singleton.1 hx]; exact h1
      (repeat' (first | (refine X.g ?_; cbv) | refine X.splitT ?_ | refine X.splitF ?_ | refine X.sp (fun hc => ?_) (fun hc => ?_) | refine X.needT ?_ | refine X.idx _ _ _ _ _ _ _ _ hye hz ?_ | fail))
      all_goals (refine hB hI' _ ?_; clear hB; (cbv <;> (and_intros <;> first | rfl | trivial)))
  · rw [List.take_length] at hI
    have hr1 : A.cmp .leq c 0 = r := by
      rw [AE.c_leq hA, hr, if_neg]
      rw [List.any_eq_true]
      rintro ⟨x, hx, h⟩
      exact hI x hx (of_decide_eq_true h)
    (repeat' (first | (refine X.g ?_; cbv) | refine X.splitT ?_ | refine X.splitF ?_ | refine X.sp (fun hc => ?_) (fun hc => ?_) | refine X.needT ?_ | refine X.drawX _ _ _ (by kernel_rfl) ?_ | refine X.fork _ _ ?_ ?_ | refine X.idx _ _ _ _ _ _ _ _ hes1 hj ?_ | refine X.callsGA [] k2 ?_ | fail))
    all_goals (refine X.ret _ (X.done rfl ?_); cbv <;> (and_intros <;> first | exact hr1 | exact h0.symm | rfl | trivial))
def bestAt (w : Wk) (s : Ss) (p : Int) : Nat → Int × Rat
  | 0 => (0, 0)
  | k + 1 => if k = 0 ∨ offR (frAt s p) (slotAt w k).frame (partAt w p).shape < (bestAt w s p k).2 then (k, offR (frAt s p) (slotAt w k).frame (partAt w p).shape) else bestAt w s p k
theorem doneBest_ok (w : Wk) (hw : w.Le) (s : Ss) (hs : s.Le) (hp : ∀ f ∈ s.parts, f.le (2 ^ 20)) (p : Int) (h0 : stateC w s = 0) (hp0 : 0 ≤ p) (hp1 : p < w.parts.length) (hn : w.slots ≠ []) (hz1 : ∀ c ∈ (partAt w p).shape, c.sz ≤ 2 ^ 20) (hz2 : ∀ q ∈ w.slots, q.frame.le (2 ^ 20)) (hpl : s.parts.length = w.parts.length) (b : Int) (r : Q) (hb : b = (bestAt w s p w.slots.length).1) (hr : r = Q.of (bestAt w s p w.slots.length).2) : AE.ACallG GG Tryz.prog 23 [] [.a w.c, .a s.c, .v (.int .i64 p)] [] (.t [.v (.int .i64 b), .a r.c, .v (.int .i64 0)]) := by
  refine AE.ACallG.of_walk (fn := Tryz.f23) (c := bodyOf Tryz.f23) GG_stays tabOK Tryz.func23 rfl rfl mixed fun A hA X => ?_
  have k1 := worldCheck_ok w hw s hs 0 h0.symm
  have hns := hw.nslots
  have z9 : ∀ k : Nat, k < w.slots.length → doneI (stateC w s) p w.parts.length k w.slots.length = 0 := fun k hk => by
    rw [doneI, h0, if_neg (by decide), if_neg (by omega)]
  have z8 : ∀ k : Nat, k < w.slots.length → (slotAt w k).frame.le (2 ^ 20) := fun k hk => hz2 _ (by
    rw [slotAt, Int.toNat_natCast]; exact List.mem_of_getElem? (getD_some hk _))
  have kO : ∀ k : Nat, k < w.slots.length → ∀ o, o = Q.of (offR (frAt s p) (slotAt w k).frame (partAt w p).shape) → AE.ACallG GG Tryz.prog 22 [] [.a w.c, .a s.c, .v (.int .i64 p), .v (.int .i64 k)] [] (.t [.a o.c, .v (.int .i64 0)]) := fun k hk o ho =>
    doneOff_ok w hw s hs hp p k 0 (z9 k hk).symm (fun _ => ⟨hz1, z8 k hk⟩) hpl o (by rw [if_neg (by decide)]; exact ho)
  have zf : (frAt s p).le (2 ^ 20) := hp _ (by
    rw [frAt, List.getD_eq_getElem?_getD, List.getElem?_eq_getElem (by omega)]; exact List.getElem_mem _)
  have zo : ∀ k : Nat, k < w.slots.length → rs (offR (frAt s p) (slotAt w k).frame (partAt w p).shape) ≤ 2 ^ 30 := fun k hk => by
    have := offR_rs (frAt s p) (slotAt w k).frame (n := 2 ^ 20) zf (z8 k hk) (partAt w p).shape 0 hz1 (by have := rs0; omega)
    have e : offR (frAt s p) (slotAt w k).frame (partAt w p).shape = (partAt w p).shape.foldl (offStep (frAt s p) (slotAt w k).frame) 0 := rfl
    rw [← e] at this; omega
  have zb : ∀ k : Nat, k ≤ w.slots.length → rs (bestAt w s p k).2 ≤ 2 ^ 30 := by
    intro k
    induction k with
    | zero => intro _; show rs 0 ≤ _; have := rs0; omega
    | succ k ih =>
      intro hk
      rw [bestAt]
      split
      · exact zo k (by omega)
      · exact ih (by omega)
  obtain ⟨bi, hbi⟩ : ∃ f : Nat → Int, ∀ k, f k = (bestAt w s p k).1 := ⟨_, fun _ => rfl⟩
  obtain ⟨bq, hbq⟩ : ∃ f : Nat → Q, ∀ k, f k = Q.of (bestAt w s p k).2 := ⟨_, fun _ => rfl⟩
  obtain ⟨of_, hof⟩ : ∃ f : Nat → Q, ∀ k, f k = Q.of (offR (frAt s p) (slotAt w k).frame (partAt w p).shape) := ⟨_, fun _ => rfl⟩
  have hstep : ∀ k : Nat, k < w.slots.length → (k = 0 ∨ cmpR (of_ k).v (bq k).v < 0) → bi (k + 1) = k ∧ bq (k + 1) = of_ k := fun k hk h => by
    have : k = 0 ∨ offR (frAt s p) (slotAt w k).frame (partAt w p).shape < (bestAt w s p k).2 := h.imp id fun h => by
      rw [hof, hbq, Q.v_of, Q.v_of] at h
      rw [← Rat.not_le]; intro h2
      have := cmpR_ge.2 h2
      omega
    rw [hbi, hbq, hof, bestAt, if_pos this]; exact ⟨rfl, rfl⟩
  have hstay : ∀ k : Nat, k < w.slots.length → ¬ k = 0 → ¬ cmpR (of_ k).v (bq k).v < 0 → bi (k + 1) = bi k ∧ bq (k + 1) = bq k := fun k hk h h2 => by
    have : ¬ (k = 0 ∨ offR (frAt s p) (slotAt w k).frame (partAt w p).shape < (bestAt w s p k).2) := by
      rintro (h3 | h3)
      · exact h h3
      · rw [hof, hbq, Q.v_of, Q.v_of] at h2
        exact h2 (by rw [cmpR, if_pos h3]; decide)
    rw [hbi, hbq, hbi, hbq, bestAt, if_neg this]; exact ⟨rfl, rfl⟩
  have hso : ∀ k : Nat, k < w.slots.length → (of_ k).sz ≤ 2 ^ 32 := fun k hk => by rw [hof, sz_of]; have := zo k hk; omega
  have hsb : ∀ k : Nat, k < w.slots.length → (bq k).sz ≤ 2 ^ 32 := fun k hk => by rw [hbq, sz_of]; have := zb k (by omega); omega
  have kO' : ∀ (k : Nat) (z : Int), z = k → k < w.slots.length → AE.ACallG GG Tryz.prog 22 [] [.a w.c, .a s.c, .v (.int .i64 p), .v (.int .i64 z)] [] (.t [.a (of_ k).c, .v (.int .i64 0)]) := fun k z hz hk => by rw [hz]; exact kO k hk _ (hof k)
  have hb1 : b = bi w.slots.length := by rw [hb, hbi]
  have hr1 : r = bq w.slots.length := by rw [hr, hbq]
  have k2 := ratOf_ok 0 (by decide) (by decide) (bq 0) (by rw [hbq]; rfl)
  have hi0 : bi 0 = 0 := by rw [hbi]; rfl
  have hnl : 0 < w.slots.length := List.length_pos_iff.2 hn
  clear hb hr hbi hbq hof kO zb zo z8 z9 zf hz1 hz2 hpl hw hs hp h0 hn
  subst hb1; subst hr1
  obtain ⟨arms, walls, parts, slots, gates, walk⟩ := w
  obtain ⟨tick, xs, fs, ps, os⟩ := s
  simp only at hp1 hns hstep hstay hso hsb kO' hnl
  obtain ⟨ea, hea⟩ : ∃ es, es = lsAv Ar.c arms := ⟨_, rfl⟩
  obtain ⟨ew, hew⟩ : ∃ es, es = lsAv wallC walls := ⟨_, rfl⟩
  obtain ⟨ep, hep⟩ : ∃ es, es = lsAv Pt.c parts := ⟨_, rfl⟩
  obtain ⟨es, hes⟩ : ∃ es, es = lsAv Sl.c slots := ⟨_, rfl⟩
  obtain ⟨eg, heg⟩ : ∃ es, es = lsAv Gt.c gates := ⟨_, rfl⟩
  obtain ⟨ex, hex⟩ : ∃ es, es = lsAv As.c xs := ⟨_, rfl⟩
  obtain ⟨ef, hef⟩ : ∃ es, es = lsAv Fr.c fs := ⟨_, rfl⟩
  obtain ⟨ev, hev⟩ : ∃ es, es = lsAv V2.c ps := ⟨_, rfl⟩
  obtain ⟨eo, heo⟩ : ∃ es, es = lsAv boolC os := ⟨_, rfl⟩
  have l1 : A.llen ep = (parts.length : Int) := by rw [llen hA, hep, lsAv_len]
  have l2 : A.llen es = (slots.length : Int) := by rw [llen hA, hes, lsAv_len]
  have c0 : A.cmp .neq 0 0 = false := by rw [AE.c_neq hA]; rfl
  have c1 : A.cmp .lss p 0 = false := by rw [AE.c_lss hA]; exact decide_eq_false (by omega)
  have c2 : A.cmp .geq p (A.llen ep) = false := by rw [AE.c_geq hA, l1]; exact decide_eq_false (by omega)
  have c4 : A.cmp .eql (A.llen es) 0 = false := by rw [AE.c_eql hA, l2]; exact decide_eq_false (by omega)
  simp only [Wk.c, Ss.c, ← hea, ← hew, ← hep, ← hes, ← heg, ← hex, ← hef, ← hev, ← heo] at k1 kO' ⊢
  clear hea hew hep heg hef hev heo hex
  (repeat' (first | (refine X.g ?_; cbv) | refine X.splitT ?_ | refine X.splitF ?_ | refine X.sp (fun hc => ?_) (fun hc => ?_) | refine X.needT ?_ | refine X.callsGA [] k1 ?_ | refine X.callsGA [] k2 ?_ | fail))
  refine X.loopG _ _ _ (X.frzB 0 _ _ (Nat.zero_le _) (X.frzB 1 _ _ (Nat.zero_le _) ?_))
  (refine X.g ?_; cbv)
  refine rangeLS X hA hes (by omega) (fun _ => True) (fun z k => [(10, .v (.int .i64 (bi k))), (41, .v (.int .i64 z))]) (fun k o => o.set 3 (.box (bq k).c 29)) trivial ?_ (fun k z y hz hy hye c3 hI B hB => ?_) (fun z c3 hI B => ?_)
  · (cbv <;> (and_intros <;> first | exact hi0.symm | rfl | trivial))
  · have hk : k < slots.length := (List.getElem?_eq_some_iff.1 hy).1
    have k3 := kO' k z hz hk
    obtain ⟨o, ho⟩ : ∃ o, o = of_ k := ⟨_, rfl⟩
    obtain ⟨m, hm⟩ : ∃ m, m = bq k := ⟨_, rfl⟩
    obtain ⟨u, hu⟩ : ∃ u, u = cmpR o.v m.v := ⟨_, rfl⟩
    have so := hso k hk
    have sm := hsb k hk
    rw [← ho] at k3 so
    rw [← hm] at sm
    have k4 := ratCmp_ok o m so sm u hu
    have s1 := hstep k hk
    have s2 := hstay k hk
    rw [← ho, ← hm, ← hu] at s1 s2
    rw [← hm]
    clear kO' hstep hstay hso hsb hu so sm k1 k2
    by_cases h1 : k = 0
    · have c5 : A.cmp .eql z 0 = true := by rw [AE.c_eql hA, hz, h1]; rfl
      obtain ⟨e1, e2⟩ := s1 (.inl h1)
      have e1 : bi (k + 1) = z := e1.trans hz.symm
      rw [e1, e2] at hB
      clear s1 s2
      (repeat' (first | (refine X.g ?_; cbv) | refine X.splitT ?_ | refine X.splitF ?_ | refine X.sp (fun hc => ?_) (fun hc => ?_) | refine X.needT ?_ | refine X.callsGA [] k3 ?_ | refine X.callsGA [] k4 ?_ | refine X.drawX _ _ _ (by kernel_rfl) ?_ | refine X.fork _ _ ?_ ?_ | fail))
      all_goals (refine hB trivial _ ?_; clear hB; (cbv <;> (and_intros <;> first | rfl | trivial)))
    · have c5 : A.cmp .eql z 0 = false := by rw [AE.c_eql hA, hz]; exact decide_eq_false (by omega)
      by_cases h2 : u < 0
      · have c6 : A.cmp .lss u 0 = true := by rw [AE.c_lss hA]; exact decide_eq_true h2
        obtain ⟨e1, e2⟩ := s1 (.inr h2)
        have e1 : bi (k + 1) = z := e1.trans hz.symm
        rw [e1, e2] at hB
        clear s1 s2
        (repeat' (first | (refine X.g ?_; cbv) | refine X.splitT ?_ | refine X.splitF ?_ | refine X.sp (fun hc => ?_) (fun hc => ?_) | refine X.needT ?_ | refine X.callsGA [] k3 ?_ | refine X.callsGA [] k4 ?_ | refine X.drawX _ _ _ (by kernel_rfl) ?_ | refine X.fork _ _ ?_ ?_ | fail))
        all_goals (refine hB trivial _ ?_; clear hB; (cbv <;> (and_intros <;> first | rfl | trivial)))
      · have c6 : A.cmp .lss u 0 = false := by rw [AE.c_lss hA]; exact decide_eq_false h2
        obtain ⟨e1, e2⟩ := s2 h1 h2
        rw [e1, e2] at hB
        clear s1 s2
        (repeat' (first | (refine X.g ?_; cbv) | refine X.splitT ?_ | refine X.splitF ?_ | refine X.sp (fun hc => ?_) (fun hc => ?_) | refine X.needT ?_ | refine X.callsGA [] k3 ?_ | refine X.callsGA [] k4 ?_ | refine X.drawX _ _ _ (by kernel_rfl) ?_ | refine X.fork _ _ ?_ ?_ | fail))
        all_goals (refine hB trivial _ ?_; clear hB; (cbv <;> (and_intros <;> first | rfl | trivial)))
  · (repeat' (first | (refine X.g ?_; cbv) | refine X.splitT ?_ | refine X.splitF ?_ | refine X.sp (fun hc => ?_) (fun hc => ?_) | refine X.needT ?_ | refine X.drawX _ _ _ (by kernel_rfl) ?_ | refine X.fork _ _ ?_ ?_ | fail))
    all_goals (refine X.ret _ (X.done rfl ?_); cbv <;> (and_intros <;> first | rfl | trivial))
end Go.Proofs.YthadehkggddgoaaGreatDoor
