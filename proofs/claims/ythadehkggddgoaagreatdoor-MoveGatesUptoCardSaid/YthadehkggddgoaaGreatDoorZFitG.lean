/- Contracts: move.may, move.one and move.Step for one arm with one link that has power and does what it wishes. Contract: gantlaw2.moveBegun. Contract: the law MoveGates. A state with a gate opened, or with a person more, is of a small bulk too. -/
import Derived.Test.YthadehkggddgoaaGreatDoorZMoveO
import Derived.Test.YthadehkggddgoaaGreatDoorZBegun
import Derived.Test.YthadehkggddgoaaGreatDoorZLawWC
section
section
set_option maxRecDepth 100000
set_option maxHeartbeats 0
set_option linter.unusedVariables false
set_option linter.unusedSimpArgs false
namespace Go.Proofs.YthadehkggddgoaaGreatDoor
open Go Go.Num
theorem one_get {α : Type} {x y : α} {i : Nat} (h : [x][i]? = some y) : i = 0 ∧ y = x := by
  match i, h with
  | 0, h => exact ⟨rfl, (Option.some.inj h).symm⟩
  | i + 1, h => simp at h
theorem mayT_ok (a : Ar) (k : Lk) (hk : a.links = [k]) (zk : k.low.sz ≤ 2 ^ 28 ∧ k.high.sz ≤ 2 ^ 28 ∧ k.speed.sz ≤ 2 ^ 28) (q u : Q) (zq : q.sz ≤ 2 ^ 28) (zu : u.sz ≤ 2 ^ 28) (hg : u.Good) (h1 : absR u.v ≤ k.speed.v) (h2 : k.low.v ≤ q.v + u.v) (h3 : q.v + u.v ≤ k.high.v) (eq eu : List (List AE.AV)) (heq : eq = lsAv Q.c [q]) (heu : eu = lsAv Q.c [u]) : AE.ACallG GG Tryz.prog 164 [] [.a a.c, .l 3 eq, .l 3 eu] [] (.b true) := by
  obtain ⟨nm, bs, ls⟩ := a
  simp only at hk
  subst hk
  obtain ⟨el, hel⟩ : ∃ es, es = lsAv Lk.c [k] := ⟨_, rfl⟩
  simp only [Ar.c, ← hel]
  refine AE.ACallG.of_walk (fn := Tryz.f164) (c := bodyOf Tryz.f164) GG_stays tabOK Tryz.func164 rfl rfl mixed fun A hA X => ?_
  have l1 : A.llen el = 1 := by rw [llen hA, hel, lsAv_len]; rfl
  have l2 : A.llen eu = 1 := by rw [llen hA, heu, lsAv_len]; rfl
  have c1 : A.cmp .neq (A.llen eu) (A.llen el) = false := by rw [AE.c_neq hA, l1, l2]; rfl
  have n1 : A.bnot true = false := by rw [AE.c_not hA]; rfl
  obtain ⟨to, hto⟩ : ∃ x, x = Q.of (q.v + u.v) := ⟨_, rfl⟩
  obtain ⟨ab, hab⟩ : ∃ x, x = Q.of (absR u.v) := ⟨_, rfl⟩
  have b1 := rs_add q.v u.v
  have b2 := q.rs
  have b3 := u.rs
  have sto : to.sz ≤ 2 ^ 30 := by rw [hto, sz_of]; omega
  have sab : ab.sz ≤ 2 ^ 30 := by rw [hab, sz_of, rs_abs]; omega
  obtain ⟨d1, hd1⟩ : ∃ c, c = cmpR ab.v k.speed.v := ⟨_, rfl⟩
  obtain ⟨d2, hd2⟩ : ∃ c, c = cmpR to.v k.low.v := ⟨_, rfl⟩
  obtain ⟨d3, hd3⟩ : ∃ c, c = cmpR to.v k.high.v := ⟨_, rfl⟩
  have k1 := ratAdd_ok q u (by omega) (by omega) to hto
  have k2 := good_ok u (by omega) true (by simp [hg])
  have k3 := ratAbs_ok u (by omega) ab hab
  have k4 := ratCmp_ok ab k.speed (by omega) (by omega) d1 hd1
  have k5 := ratCmp_ok to k.low (by omega) (by omega) d2 hd2
  have k6 := ratCmp_ok to k.high (by omega) (by omega) d3 hd3
  have e1 : A.cmp .gtr d1 0 = false := by rw [AE.c_gtr hA]; exact decide_eq_false (by have : d1 ≤ 0 := by rw [hd1, hab, Q.v_of]; exact cmpR_le.2 h1
                                                                                      omega)
  have e2 : A.cmp .lss d2 0 = false := by rw [AE.c_lss hA]; exact decide_eq_false (by have : 0 ≤ d2 := by rw [hd2, hto, Q.v_of]; exact cmpR_ge.2 h2
                                                                                      omega)
  have e3 : A.cmp .gtr d3 0 = false := by rw [AE.c_gtr hA]; exact decide_eq_false (by have : d3 ≤ 0 := by rw [hd3, hto, Q.v_of]; exact cmpR_le.2 h3
                                                                                      omega)
  clear hto hab hd1 hd2 hd3
  (repeat' (first | (refine X.g ?_; cbv) | refine X.splitT ?_ | refine X.splitF ?_ | refine X.sp (fun hc => ?_) (fun hc => ?_) | refine X.needT ?_ | fail))
  refine X.loopG _ _ _ (X.frzB 0 _ _ (Nat.zero_le _) ?_)
  (refine X.g ?_; cbv)
  refine rangeL0 X hA hel (by simp) (fun _ => True) (fun z _ => [(19, .v (.int .i64 z))]) trivial ?_ (fun i z y hz hy hye c9 hI B hB => ?_) (fun z c9 hI B => ?_)
  · (cbv <;> (and_intros <;> first | rfl | trivial))
  · obtain ⟨rfl, rfl⟩ := one_get hy
    have g1 : eq[0]? = some q.c := by rw [heq]; exact lsAv_get (i := 0) (l := [q]) rfl
    have g2 : eu[0]? = some u.c := by rw [heu]; exact lsAv_get (i := 0) (l := [u]) rfl
    (repeat' (first | (refine X.g ?_; cbv) | refine X.splitT ?_ | refine X.splitF ?_ | refine X.sp (fun hc => ?_) (fun hc => ?_) | refine X.needT ?_ | refine X.idx _ _ _ _ _ _ _ _ hye hz ?_ | fail))
    apply shareG X
    · intro hs
      refine X.drawX _ _ _ (by kernel_rfl) ?_
      (repeat' (first | (refine X.g ?_; cbv) | refine X.splitT ?_ | refine X.splitF ?_ | refine X.sp (fun hc => ?_) (fun hc => ?_) | refine X.needT ?_ | refine X.fork _ _ ?_ ?_ | refine X.idx _ _ _ _ _ _ _ _ g1 hz ?_ | refine X.idx _ _ _ _ _ _ _ _ g2 hz ?_ | refine X.callsGA [] k1 ?_ | fail))
      all_goals exact hs
    refine X.drawX _ _ _ (by kernel_rfl) (X.frzB 1 _ _ (Nat.zero_le _) (X.frzB 2 _ _ (Nat.zero_le _) ?_))
    (repeat' (first | (refine X.g ?_; cbv) | refine X.splitT ?_ | refine X.splitF ?_ | refine X.sp (fun hc => ?_) (fun hc => ?_) | refine X.needT ?_ | refine X.fork _ _ ?_ ?_ | refine X.idx _ _ _ _ _ _ _ _ g2 hz ?_ | refine X.callsGA [] k2 ?_ | refine X.callsGA [] k3 ?_ | refine X.callsGA [] k4 ?_ | refine X.callsGA [] k5 ?_ | refine X.callsGA [] k6 ?_ | fail))
    all_goals (refine hB trivial _ ?_; clear hB; (cbv <;> (and_intros <;> first | rfl | trivial)))
  · (repeat' (first | (refine X.g ?_; cbv) | refine X.splitT ?_ | refine X.splitF ?_ | refine X.sp (fun hc => ?_) (fun hc => ?_) | refine X.needT ?_ | fail))
    all_goals (refine X.ret _ (X.done rfl ?_); cbv <;> (and_intros <;> first | rfl | trivial))
theorem oneT_ok (a : Ar) (k : Lk) (hk : a.links = [k]) (zk : k.low.sz ≤ 2 ^ 28 ∧ k.high.sz ≤ 2 ^ 28 ∧ k.speed.sz ≤ 2 ^ 28) (q v u : Q) (zq : q.sz ≤ 2 ^ 28) (zu : u.sz ≤ 2 ^ 28) (hg : u.Good) (h1 : absR u.v ≤ k.speed.v) (h2 : k.low.v ≤ q.v + u.v) (h3 : q.v + u.v ≤ k.high.v) (eq ev eu es : List (List AE.AV)) (heq : eq = lsAv Q.c [q]) (heu : eu = lsAv Q.c [u]) (hes : es = lsAv Q.c [Q.of (q.v + u.v)]) (pw : Bool) (hl : Int) : AE.ACallG GG Tryz.prog 93 [] [.a a.c, .a [.l 3 eq, .l 3 ev, .b pw, .v (.int .i64 hl)], .l 3 eu, .b true] [] (.t [.a [.l 3 es, .l 3 eu, .b true, .v (.int .i64 hl)], .v (.int .i64 0)]) := by
  have k1 := mayT_ok a k hk zk q u zq zu hg h1 h2 h3 eq eu heq heu
  have k2 := cloneRat_ok eu (by rw [heu, lsAv_len]; simp)
  obtain ⟨to, hto⟩ : ∃ x, x = Q.of (q.v + u.v) := ⟨_, rfl⟩
  rw [← hto] at hes
  have k3 := ratAdd_ok q u (by omega) (by omega) to hto
  clear h1 h2 h3 hg zk hk
  obtain ⟨nm, bs, ls⟩ := a
  obtain ⟨el, hel⟩ : ∃ e, e = lsAv Lk.c ls := ⟨_, rfl⟩
  simp only [Ar.c, ← hel] at k1 ⊢
  refine AE.ACallG.of_walk (fn := Tryz.f93) (c := bodyOf Tryz.f93) GG_stays tabOK Tryz.func93 rfl rfl mixed fun A hA X => ?_
  have n1 : A.bnot true = false := by rw [AE.c_not hA]; rfl
  obtain ⟨gQ, hgQ⟩ : ∃ g : Nat → List (List AE.AV), ∀ i, g i = lsAv Q.c ([to].take i) := ⟨_, fun _ => rfl⟩
  have r1 : gQ 1 = es := by rw [hgQ, hes]; rfl
  have e0 : A.lapp (gQ 0) [to.c] = gQ 1 := lapp_take hA (l := [to]) (i := 0) rfl (hgQ 0) (hgQ 1)
  have hgrow : ∀ c, AE.GrowR (A.llen (gQ 0)) (A.llen [c]) 40 := fun c => grow1 hA (n := 8) (by rw [hgQ, lsAv_len]; simp) (by decide) (by decide)
  (refine X.g ?_; cbv)
  apply shareG X
  · intro hs
    (repeat' (first | (refine X.g ?_; cbv) | refine X.splitT ?_ | refine X.splitF ?_ | refine X.sp (fun hc => ?_) (fun hc => ?_) | refine X.needT ?_ | refine X.callsGA [] k1 ?_ | refine X.drawX _ _ _ (by kernel_rfl) ?_ | refine X.fork _ _ ?_ ?_ | refine X.callsA [] k2 ?_ | fail))
    all_goals exact hs
  have g2 : eu[0]? = some u.c := by rw [heu]; exact lsAv_get (i := 0) (l := [u]) rfl
  refine X.loopG _ _ _ (X.frzB 0 _ _ (Nat.zero_le _) (X.frzB 1 _ _ (Nat.zero_le _) (X.nilB 3 0 29 3 _ _ ?_)))
  (refine X.g ?_; cbv)
  refine rangeLS X hA heq (by simp) (fun _ => True) (fun z _ => [(45, .v (.int .i64 z))]) (fun i o => o.set 4 (.row 29 3 (gQ i))) trivial ?_ (fun i z y hz hy hye c9 hI B hB => ?_) (fun z c9 hI B => ?_)
  · have h0 : [] = gQ 0 := by rw [hgQ]; exact (lsAv_nil _).symm
    (cbv <;> (and_intros <;> first | exact h0 | rfl | trivial))
  · obtain ⟨rfl, rfl⟩ := one_get hy
    clear k1 k2
    (repeat' (first | (refine X.g ?_; cbv) | refine X.splitT ?_ | refine X.splitF ?_ | refine X.sp (fun hc => ?_) (fun hc => ?_) | refine X.needT ?_ | refine X.idx _ _ _ _ _ _ _ _ hye hz ?_ | fail))
    apply shareG X
    · intro hs
      refine X.drawX _ _ _ (by kernel_rfl) (X.frzB 5 _ _ (Nat.zero_le _) ?_)
      (repeat' (first | (refine X.g ?_; cbv) | refine X.splitT ?_ | refine X.splitF ?_ | refine X.sp (fun hc => ?_) (fun hc => ?_) | refine X.needT ?_ | refine X.fork _ _ ?_ ?_ | refine X.idx _ _ _ _ _ _ _ _ g2 hz ?_ | refine X.callsGA [] k3 ?_ | refine X.need _ _ _ (hgrow _) ?_ | fail))
      all_goals exact hs
    all_goals (refine hB trivial _ ?_; clear hB; (cbv <;> (and_intros <;> first | exact e0 | rfl | trivial)))
  · clear k1 k2 k3
    have r2 : gQ [q].length = es := r1
    rw [r2]
    (repeat' (first | (refine X.g ?_; cbv) | refine X.splitT ?_ | refine X.splitF ?_ | refine X.sp (fun hc => ?_) (fun hc => ?_) | refine X.needT ?_ | fail))
    all_goals (refine X.ret _ (X.frz 4 _ _ (X.done rfl ?_)); cbv <;> (and_intros <;> first | rfl | trivial))
theorem stepT_ok (w : Wk) (hw : w.Le) (a : Ar) (k : Lk) (ha : w.arms = [a]) (hk : a.links = [k]) (zk : k.low.sz ≤ 2 ^ 28 ∧ k.high.sz ≤ 2 ^ 28 ∧ k.speed.sz ≤ 2 ^ 28) (s : Ss) (hs : s.Le) (hf : s.Few) (h0 : stateC w s = 0) (x : As) (hx : s.arms = [x]) (q u : Q) (hq : x.q = [q]) (hh : x.holds = -1) (hp : s.parts = []) (hv : s.people = []) (ht : s.tick ≠ 2000) (zq : q.sz ≤ 2 ^ 28) (zu : u.sz ≤ 2 ^ 28) (hg : u.Good) (h1 : absR u.v ≤ k.speed.v) (h2 : k.low.v ≤ q.v + u.v) (h3 : q.v + u.v ≤ k.high.v) (eu es ex2 : List (List AE.AV)) (heu : eu = lsAv Q.c [u]) (hes : es = lsAv Q.c [Q.of (q.v + u.v)]) (hex2 : ex2 = lsAv As.c [⟨[Q.of (q.v + u.v)], [u], true, -1⟩]) (tk : Int) (htk : tk = AE.std.bin .add .i64 s.tick 1) : AE.ACallG GG Tryz.prog 30 [] [.a w.c, .a s.c, .l 1 [[.l 3 eu]], .l 1 [[.v (.bool true)]], .l 6 []] [] (.t [.a [.v (.int .i64 tk), .l 4 ex2, .l 10 [], .l 6 [], .l 1 (lsAv boolC s.opens)], .v (.int .i64 0)]) := by
  have kC := worldCheck_ok w hw s hs 0 h0.symm
  obtain ⟨tick, xs, fs, ps, os⟩ := s
  simp only at hx hp hv ht htk
  subst hx hp hv
  obtain ⟨xq, xv, xp, xh⟩ := x
  simp only at hq hh
  subst hq hh
  obtain ⟨eq, heq⟩ : ∃ e, e = lsAv Q.c [q] := ⟨_, rfl⟩
  obtain ⟨ev, hev⟩ : ∃ e, e = lsAv Q.c xv := ⟨_, rfl⟩
  obtain ⟨ex, hex⟩ : ∃ e, e = lsAv As.c [(⟨[q], xv, xp, -1⟩ : As)] := ⟨_, rfl⟩
  obtain ⟨eo, heo⟩ : ∃ e, e = lsAv boolC os := ⟨_, rfl⟩
  have kY := worldCopyO_ok ⟨tick, [⟨[q], xv, xp, -1⟩], [], [], os⟩ hf ex [] [] eo hex (lsAv_nil _).symm (lsAv_nil _).symm heo
  have kO := oneT_ok a k hk zk q q u zq zu hg h1 h2 h3 eq ev eu es heq heu hes xp (-1)
  obtain ⟨arms, walls, parts, slots, gates, walk⟩ := w
  simp only at ha
  subst ha
  obtain ⟨ea, hea⟩ : ∃ es, es = lsAv Ar.c [a] := ⟨_, rfl⟩
  obtain ⟨ew, hew⟩ : ∃ es, es = lsAv wallC walls := ⟨_, rfl⟩
  obtain ⟨ep, hep⟩ : ∃ es, es = lsAv Pt.c parts := ⟨_, rfl⟩
  obtain ⟨es', hes'⟩ : ∃ es, es = lsAv Sl.c slots := ⟨_, rfl⟩
  obtain ⟨eg, heg⟩ : ∃ es, es = lsAv Gt.c gates := ⟨_, rfl⟩
  have hex0 : ex[0]? = some [.l 3 eq, .l 3 ev, .b xp, .v (.int .i64 (-1))] := by
    rw [hex, heq, hev]; exact lsAv_get (i := 0) (l := [(⟨[q], xv, xp, -1⟩ : As)]) rfl
  have hex2' : ex.set 0 [.l 3 es, .l 3 eu, .b true, .v (.int .i64 (-1))] = ex2 := by
    rw [hex, hex2, hes, heu]
    exact (lsAv_set As.c [(⟨[q], xv, xp, -1⟩ : As)] 0 ⟨[Q.of (q.v + u.v)], [u], true, -1⟩)
  have lex : ex.length = 1 := by rw [hex, lsAv_len]; rfl
  simp only [Wk.c, Ss.c, lsAv_nil, ← hea, ← hew, ← hep, ← hes', ← heg, ← hex, ← heo] at kC kY ⊢
  clear hw hs hf h0 h1 h2 h3 zq zu hg zk hk hew hep hes' heg hex hex2
  refine AE.ACallG.of_walk (fn := Tryz.f30) (c := bodyOf Tryz.f30) GG_stays tabOK Tryz.func30 rfl rfl mixed fun A hA X => ?_
  have htk : A.bin .add .i64 tick 1 = tk := by rw [htk, hA]
  have la : A.llen ea = 1 := by rw [llen hA, hea, lsAv_len]; rfl
  have l1 : A.llen [[AE.AV.l 3 eu]] = 1 := by rw [llen hA]; rfl
  have l2 : A.llen [[AE.AV.v (.bool true)]] = 1 := by rw [llen hA]; rfl
  have c0 : A.cmp .neq 0 0 = false := by rw [AE.c_neq hA]; rfl
  have c1 : A.cmp .neq (A.llen [[AE.AV.l 3 eu]]) (A.llen ea) = false := by rw [AE.c_neq hA, l1, la]; rfl
  have c2 : A.cmp .neq (A.llen [[AE.AV.v (.bool true)]]) (A.llen ea) = false := by rw [AE.c_neq hA, l2, la]; rfl
  have c3 : A.cmp .neq (A.llen []) (A.llen []) = false := by rw [AE.c_neq hA]; simp
  have c4 : A.cmp .eql tick 2000 = false := by rw [AE.c_eql hA]; exact decide_eq_false ht
  have c5 : A.cmp .geq (-1) 0 = false := by rw [AE.c_geq hA]; rfl
  have ati : AE.AtR 0 ex := ⟨by omega⟩
  have hset : A.lset ex 0 [.l 3 es, .l 3 eu, .b true, .v (.int .i64 (-1))] = ex2 := by rw [lset_std hA]; exact hex2'
  clear l1 l2 la
  (repeat' (first | (refine X.g ?_; cbv) | refine X.splitT ?_ | refine X.splitF ?_ | refine X.sp (fun hc => ?_) (fun hc => ?_) | refine X.needT ?_ | refine X.callsGA [] kC ?_ | fail))
  refine X.loopG _ _ _ (X.frzB 0 _ _ (Nat.zero_le _) (X.frzB 1 _ _ (Nat.zero_le _) ?_))
  (refine X.g ?_; cbv)
  refine rangeL0 X hA (f := V2.c) (l := []) (lsAv_nil _).symm (by simp) (fun _ => True) (fun z _ => [(54, .v (.int .i64 z))]) trivial ?_ (fun i z y hz hy hye c9 hI B hB => ?_) (fun z c9 hI B => ?_)
  · (cbv <;> (and_intros <;> first | rfl | trivial))
  · simp at hy
  (repeat' (first | (refine X.g ?_; cbv) | refine X.splitT ?_ | refine X.splitF ?_ | refine X.sp (fun hc => ?_) (fun hc => ?_) | refine X.needT ?_ | refine X.callsA [] kY ?_ | fail))
  obtain ⟨gX, hgX⟩ : ∃ g : Nat → List (List AE.AV), ∀ i, g i = if i = 0 then ex else ex2 := ⟨_, fun _ => rfl⟩
  have g0 : ex = gX 0 := by rw [hgX]; rfl
  have g1 : ex2 = gX 1 := by rw [hgX]; rfl
  have hw0 : [[AE.AV.l 3 eu]][0]? = some [.l 3 eu] := rfl
  have hp0 : [[AE.AV.v (.bool true)]][0]? = some [.v (.bool true)] := rfl
  refine rangeLS X hA hea (by simp) (fun _ => True) (fun z _ => [(101, .v (.int .i64 z))]) (fun i o => o.set 9 (.row 76 4 (gX i))) trivial ?_ (fun i z y hz hy hye c10 hI B hB => ?_) (fun z c10 hI B => ?_)
  · clear kC kO kY
    (cbv <;> (and_intros <;> first | exact g0 | rfl | trivial))
  · obtain ⟨rfl, rfl⟩ := one_get hy
    rw [← g0]
    have hset1 := hset.trans g1
    have hset2 := hset1
    cbv at hset2
    clear kC kY
    (repeat' (first | (refine X.g ?_; cbv) | refine X.splitT ?_ | refine X.splitF ?_ | refine X.sp (fun hc => ?_) (fun hc => ?_) | refine X.needT ?_ | refine X.idx _ _ _ _ _ _ _ _ hye hz ?_ | fail))
    apply shareG X
    · intro hs
      refine X.drawX _ _ _ (by kernel_rfl) (X.frzB 11 _ _ (Nat.zero_le _) ?_)
      (repeat' (first | (refine X.g ?_; cbv) | refine X.splitT ?_ | refine X.splitF ?_ | refine X.sp (fun hc => ?_) (fun hc => ?_) | refine X.needT ?_ | refine X.fork _ _ ?_ ?_ | refine X.idx _ _ _ _ _ _ _ _ hex0 hz ?_ | refine X.idx _ _ _ _ _ _ _ _ hw0 hz ?_ | refine X.idx _ _ _ _ _ _ _ _ hp0 hz ?_ | refine X.callsGA [] kO ?_ | fail))
      all_goals exact hs
    (repeat' (first | (refine X.g ?_; cbv) | refine X.splitT ?_ | refine X.splitF ?_ | refine X.sp (fun hc => ?_) (fun hc => ?_) | refine X.needT ?_ | refine X.idxA 0 ati hz ?_ | refine X.need _ _ _ ati ?_ | fail))
    all_goals (refine hB trivial _ ?_; clear hB; (cbv <;> (and_intros <;> first | exact hset1 | exact hset2 | rfl | trivial)))
  · have r1 : gX [a].length = ex2 := g1.symm
    rw [r1]
    clear kC kO kY
    (repeat' (first | (refine X.g ?_; cbv) | refine X.splitT ?_ | refine X.splitF ?_ | refine X.sp (fun hc => ?_) (fun hc => ?_) | refine X.needT ?_ | fail))
    refine rangeL0 X hA (f := V2.c) (l := []) (lsAv_nil _).symm (by simp) (fun _ => True) (fun z _ => [(155, .v (.int .i64 z))]) trivial ?_ (fun i z y hz hy hye c11 hI B hB => ?_) (fun z c11 hI B => ?_)
    · (cbv <;> (and_intros <;> first | rfl | trivial))
    · simp at hy
    (repeat' (first | (refine X.g ?_; cbv) | refine X.splitT ?_ | refine X.splitF ?_ | refine X.sp (fun hc => ?_) (fun hc => ?_) | refine X.needT ?_ | fail))
    all_goals (refine X.ret _ ?_; refine X.frz 5 _ _ ?_; refine X.frz 6 _ _ ?_; refine X.frz 7 _ _ ?_; refine X.frz 9 _ _ ?_; refine X.done rfl ?_; cbv <;> (and_intros <;> first | exact htk | exact heo | rfl | trivial))
end Go.Proofs.YthadehkggddgoaaGreatDoor
end
section
set_option maxRecDepth 100000
set_option maxHeartbeats 0
set_option linter.unusedVariables false
set_option linter.unusedSimpArgs false
namespace Go.Proofs.YthadehkggddgoaaGreatDoor
open Go Go.Num
theorem firstQ0 : firstQ link0 = Q.of 0 := by
  rw [firstQ, if_neg, if_neg]
  · show ¬ sgnR (Q.of _).v < 0
    rw [Q.v_of]; decide +kernel
  · show ¬ 0 < sgnR (Q.of _).v
    rw [Q.v_of]; decide +kernel
theorem moveBegun_ok : AE.ACallG GG Tryz.prog 58 [] [] [] (.b true) := by
  obtain ⟨w, hw⟩ : ∃ w, w = works0 := ⟨_, rfl⟩
  obtain ⟨s, hs⟩ : ∃ s, s = firstS w := ⟨_, rfl⟩
  obtain ⟨u, hu⟩ : ∃ q, q = Q.of (mkRat 1 8) := ⟨_, rfl⟩
  have h0 : worksC w = 0 := by rw [hw]; exact works0_ok
  have hle : w.Le := by rw [hw]; exact works0_le
  have hok := worksC_zero h0
  have hsle : s.Le := by rw [hs]; exact firstS_le hle hok
  have hst : stateC w s = 0 := by rw [hs]; exact firstS_ok h0
  have hsa : s.arms = [⟨[Q.of 0], [Q.of 0], false, -1⟩] := by
    rw [hs, hw]; show [firstA arm0] = _
    rw [arm0_eq, firstA]; show [(⟨[firstQ link0], [Q.of 0], false, -1⟩ : As)] = _
    rw [firstQ0]
  have hfew : s.Few := by
    refine ⟨⟨by rw [hsa]; decide, fun x hx => ?_⟩, by rw [hs, hw]; decide, by rw [hs]; show 0 ≤ 2 ^ 30; decide, by rw [hs, hw]; decide⟩
    rw [hsa] at hx
    rw [List.mem_singleton.1 hx]
    exact ⟨by decide, by decide⟩
  have k1 := plain_ok w s hw (by rw [hs, hw])
  have k2 := makeOf_ok 1 8 (by decide) (by decide) u hu
  have zl := link0_le
  obtain ⟨es, hes⟩ : ∃ e, e = lsAv Q.c [Q.of ((Q.of 0).v + u.v)] := ⟨_, rfl⟩
  obtain ⟨ex2, hex2⟩ : ∃ e, e = lsAv As.c [(⟨[Q.of ((Q.of 0).v + u.v)], [u], true, -1⟩ : As)] := ⟨_, rfl⟩
  have heu : [[AE.AV.b u.1, .v (.string u.2), .v (.string u.3)]] = lsAv Q.c [u] := by rw [lsAv_eq]; rfl
  have huz : u.sz ≤ 2 ^ 28 := by rw [hu, sz_of]; have : rs (mkRat 1 8) ≤ 1 := rs_le.2 ⟨by decide +kernel, by decide +kernel⟩; omega
  obtain ⟨_, z2, z3, z4, _⟩ := zl
  have k3 := stepT_ok w hle arm0 link0 (by rw [hw]; rfl) (by rw [arm0_eq]) ⟨z2, z3, z4⟩ s hsle hfew hst _ hsa (Q.of 0) u rfl rfl (by rw [hs, hw]; rfl) (by rw [hs]; rfl) (by rw [hs]; show (0 : Int) ≠ 2000; decide) (by rw [sz_of]; have := rs0; omega) huz (by rw [hu]; exact Q.of_good _)
    (by rw [hu, Q.v_of]; show absR _ ≤ (Q.of _).v; rw [Q.v_of]; decide +kernel) (by rw [hu, Q.v_of, Q.v_of]; show (Q.of _).v ≤ _; rw [Q.v_of]; decide +kernel) (by rw [hu, Q.v_of, Q.v_of]; show _ ≤ (Q.of _).v; rw [Q.v_of]; decide +kernel)
    _ es ex2 heu hes hex2 _ rfl
  have hq0 : Q.of ((Q.of 0).v + u.v) = u := by rw [hu, Q.v_of, Q.v_of]; exact congrArg _ (Rat.zero_add _)
  have k4 := eqsRat_ok [u] [u] (by simp) (by simp) es _ (by rw [hes, hq0]) heu true (by simp)
  have hx0 : ex2[0]? = some [.l 3 es, .l 3 [[AE.AV.b u.1, .v (.string u.2), .v (.string u.3)]], .b true, .v (.int .i64 (-1))] := by
    rw [hex2, heu, hes]; exact lsAv_get (i := 0) (l := [(⟨[Q.of ((Q.of 0).v + u.v)], [u], true, -1⟩ : As)]) rfl
  have lx : ex2.length = 1 := by rw [hex2, lsAv_len]; rfl
  have hsc : s.c = [.v (.int .i64 0), .l 4 (lsAv As.c s.arms), .l 10 [], .l 6 [], .l 1 []] := by
    rw [Ss.c, show s.tick = 0 by rw [hs]; rfl, show s.parts = [] by rw [hs, hw]; rfl, show s.people = [] by rw [hs]; rfl, show s.opens = [] by rw [hs, hw]; rfl]
    simp only [lsAv_nil]
  obtain ⟨va, hva⟩ : ∃ e, e = lsAv As.c s.arms := ⟨_, rfl⟩
  obtain ⟨tk, htk⟩ : ∃ t, t = AE.std.bin .add .i64 s.tick 1 := ⟨_, rfl⟩
  rw [show s.opens = [] by rw [hs, hw]; rfl, lsAv_nil, ← htk] at k3
  rw [← hva] at hsc
  rw [hsc] at k1 k3
  clear hw hs hu h0 hle hok hsle hst hsa hfew hex2 heu huz z2 z3 z4 hq0 hsc hva htk hes
  obtain ⟨arms, walls, parts, slots, gates, walk⟩ := w
  obtain ⟨ea, hea⟩ : ∃ es, es = lsAv Ar.c arms := ⟨_, rfl⟩
  obtain ⟨ew, hew⟩ : ∃ es, es = lsAv wallC walls := ⟨_, rfl⟩
  obtain ⟨ep, hep⟩ : ∃ es, es = lsAv Pt.c parts := ⟨_, rfl⟩
  obtain ⟨el, hel⟩ : ∃ es, es = lsAv Sl.c slots := ⟨_, rfl⟩
  obtain ⟨eg, heg⟩ : ∃ es, es = lsAv Gt.c gates := ⟨_, rfl⟩
  simp only [Wk.c, ← hea, ← hew, ← hep, ← hel, ← heg] at k1 k3
  clear hea hew hep hel heg
  refine AE.ACallG.of_walk (fn := Tryz.f58) (c := bodyOf Tryz.f58) GG_stays tabOK Tryz.func58 rfl rfl mixed fun A hA X => ?_
  have c1 : A.cmp .eql 0 0 = true := by rw [AE.c_eql hA]; rfl
  have c2 : A.cmp .eql (A.llen ex2) 1 = true := by rw [AE.c_eql hA, llen hA, lx]; rfl
  (repeat' (first | (refine X.g ?_; cbv) | refine X.splitT ?_ | refine X.splitF ?_ | refine X.sp (fun hc => ?_) (fun hc => ?_) | refine X.needT ?_ | refine X.callsGA [] k1 ?_ | fail))
  apply shareG X
  · intro hs
    apply share8 X
    · intro a1 a2 a3 a4 a5 a6 a7 a8
      refine X.drawX _ _ _ (by kernel_rfl) (X.frzB 0 _ _ (Nat.zero_le _) (X.frzB 1 _ _ (Nat.zero_le _) ?_))
      repeat' (first | (refine X.go 1 _ _ ?_; cbv) | refine X.fork _ _ ?_ ?_ | refine X.needT (X.frz 2 _ _ (X.frz 3 _ _ (X.frz 4 _ _ (X.frz 5 _ _ ?_)))) | refine X.callsA [] k2 ?_ | fail)
      all_goals first | exact a1 | exact a2 | exact a3 | exact a4 | exact a5 | exact a6 | exact a7 | exact a8
    all_goals first | (refine X.callsGA [] k3 ?_; (repeat' (first | (refine X.g ?_; cbv) | refine X.splitT ?_ | refine X.splitF ?_ | refine X.sp (fun hc => ?_) (fun hc => ?_) | refine X.needT ?_ | refine X.fork _ _ ?_ ?_ | fail)); all_goals (refine X.drawX _ _ _ (by kernel_rfl) (X.frzB 2 _ _ (Nat.zero_le _) (X.frzB 3 _ _ (Nat.zero_le _) (X.frzB 4 _ _ (Nat.zero_le _) (X.frzB 5 _ _ (Nat.zero_le _) ?_)))); (refine X.g ?_; cbv); exact hs)) | exact hs
  (repeat' (first | (refine X.g ?_; cbv) | refine X.splitT ?_ | refine X.splitF ?_ | refine X.sp (fun hc => ?_) (fun hc => ?_) | refine X.needT ?_ | refine X.fork _ _ ?_ ?_ | refine X.idx _ _ _ _ _ _ _ _ hx0 rfl ?_ | refine X.callsA [] k2 ?_ | (refine X.isCall ?_; refine X.lends [6] k4 rfl ?_ (by cbv) ?_; focus (cbv <;> (and_intros <;> first | rfl | trivial))) | fail))
  all_goals (refine X.ret _ (X.done rfl ?_); cbv <;> (and_intros <;> first | rfl | trivial))
end Go.Proofs.YthadehkggddgoaaGreatDoor
end
end
section
section
set_option maxRecDepth 100000
set_option maxHeartbeats 0
set_option linter.unusedVariables false
set_option linter.unusedSimpArgs false
namespace Go.Proofs.YthadehkggddgoaaGreatDoor
open Go Go.Num
theorem gateIn_ok (a l h : Q) (za : a.sz ≤ 2 ^ 32) (zl : l.sz ≤ 2 ^ 32) (zh : h.sz ≤ 2 ^ 32) (r : Bool) (hr : r = decide (l.v ≤ a.v ∧ a.v ≤ h.v)) : AE.ACallG GG Tryz.prog 61 [] [.a a.c, .a l.c, .a h.c] [] (.b r) := by
  refine AE.ACallG.of_walk (fn := Tryz.f61) (c := bodyOf Tryz.f61) GG_stays tabOK Tryz.func61 rfl rfl mixed fun A hA X => ?_
  obtain ⟨c1, hc1⟩ : ∃ c, c = cmpR l.v a.v := ⟨_, rfl⟩
  obtain ⟨c2, hc2⟩ : ∃ c, c = cmpR a.v h.v := ⟨_, rfl⟩
  have k1 := ratCmp_ok l a zl za c1 hc1
  have k2 := ratCmp_ok a h za zh c2 hc2
  have hr : r = decide (c1 ≤ 0 ∧ c2 ≤ 0) := by rw [hr, decide_eq_decide, hc1, hc2, cmpR_le, cmpR_le]
  clear hc1 hc2
  by_cases h1 : c1 ≤ 0
  · have d1 : A.cmp .leq c1 0 = true := by rw [AE.c_leq hA]; exact decide_eq_true h1
    have e1 : A.cmp .leq c2 0 = r := by rw [AE.c_leq hA, hr, decide_eq_decide]; exact ⟨fun h => ⟨h1, h⟩, fun h => h.2⟩
    (repeat' (first | (refine X.g ?_; cbv) | refine X.splitT ?_ | refine X.splitF ?_ | refine X.sp (fun hc => ?_) (fun hc => ?_) | refine X.needT ?_ | refine X.callsGA [] k1 ?_ | refine X.callsGA [] k2 ?_ | fail))
    all_goals (refine X.ret _ (X.done rfl ?_); cbv <;> (and_intros <;> first | exact e1 | rfl | trivial))
  · have d1 : A.cmp .leq c1 0 = false := by rw [AE.c_leq hA]; exact decide_eq_false h1
    have e1 : false = r := by rw [hr]; symm; exact decide_eq_false fun h => h1 h.1
    (repeat' (first | (refine X.g ?_; cbv) | refine X.splitT ?_ | refine X.splitF ?_ | refine X.sp (fun hc => ?_) (fun hc => ?_) | refine X.needT ?_ | refine X.callsGA [] k1 ?_ | refine X.callsGA [] k2 ?_ | fail))
    all_goals (refine X.ret _ (X.done rfl ?_); cbv <;> (and_intros <;> first | exact e1 | rfl | trivial))
theorem nilS_le {α : Type} (f : α → ByteArray) : (lsS f []).size ≤ 10 := by
  rw [lsS_eq]
  show (natS 0 ++ _).size ≤ 10
  rw [ByteArray.size_append]
  have := natS_size 0
  show _ + 0 ≤ 10
  omega
theorem nil_size : Ss.nil.S.size < 2 ^ 60 := by
  simp only [Ss.S, Ss.nil, ByteArray.size_append]
  have h1 := natS_size 0
  have h2 := nilS_le As.S; have h3 := nilS_le Fr.S; have h4 := nilS_le V2.S; have h5 := nilS_le boolS
  omega
theorem opened_short {s : Ss} (h : s.Few) (i : Nat) (b : Bool) : (s.opened i b).Short := by
  obtain ⟨h1, h2, h3, h4, h5⟩ := h.short
  exact ⟨h1, h2, h3, h4, by show (s.opens.set i b).length < _; rw [List.length_set]; exact h5⟩
theorem entered_short {s : Ss} (h : s.Few) (p : V2) : (s.entered p).Short := by
  obtain ⟨h1, h2, h3, h4, h5⟩ := h.short
  have := h.people
  exact ⟨h1, h2, h3, by show (s.people ++ [p]).length < _; rw [List.length_append]; show _ + 1 < _; omega, h5⟩
theorem cmpR_neg {a b : Rat} : cmpR a b < 0 ↔ ¬ b ≤ a := by
  constructor
  · intro h h2; have := cmpR_ge.2 h2; omega
  · intro h
    apply Classical.byContradiction
    intro h2; exact h (cmpR_ge.1 (by omega))
theorem moveGates_ok (w : Wk) (hw : w.Le) (s : Ss) (hs : s.Fit) (g : Int) (is : Bool) (p : V2) (hp : p.sz ≤ 2 ^ 30) (hO : ∀ i b, (s.opened i b).few ∧ (s.opened i b).S.size < 2 ^ 60) (hE : (s.entered p).few ∧ (s.entered p).S.size < 2 ^ 60) : AE.ACallG GG Tryz.prog 11 [] [.a w.c, .a s.c, .v (.int .i64 g), .b is, .a p.c] [] (.b true) := by
  have kM := moveBegun_ok
  obtain ⟨st, hst⟩ : ∃ e, e = stateC w s := ⟨_, rfl⟩
  have kS := refState_ok w hw s hs.le st hst
  have kN := sameState_ok Ss.nil Ss.nil nil_short nil_short ⟨⟨by decide, by decide⟩, ⟨by decide, fun x h => by cases h⟩, ⟨by decide, fun x h => by cases h⟩, ⟨by decide, fun x h => by cases h⟩, ⟨by decide, fun x h => by cases h⟩⟩ ⟨⟨by decide, by decide⟩, ⟨by decide, fun x h => by cases h⟩, ⟨by decide, fun x h => by cases h⟩, ⟨by decide, fun x h => by cases h⟩, ⟨by decide, fun x h => by cases h⟩⟩ nil_size nil_size true (by simp)
  rw [Ss.nil_c] at kN
  obtain ⟨e1, he1⟩ : ∃ e, e = gateQ (stateC w s) g w.gates.length := ⟨_, rfl⟩
  obtain ⟨r1, hr1⟩ : ∃ r, r = if e1 ≠ 0 then Ss.nil else s.opened g.toNat is := ⟨_, rfl⟩
  obtain ⟨e2, he2⟩ : ∃ e, e = enterC w s g p := ⟨_, rfl⟩
  obtain ⟨r2, hr2⟩ : ∃ r, r = if e2 ≠ 0 then Ss.nil else s.entered p := ⟨_, rfl⟩
  have kO := moveOpen_ok w hw s hs.le hs.Few g is r1 e1 he1 hr1
  have kE := moveEnter_ok w hw s hs.le hs.Few g p hp r2 e2 he2 hr2
  by_cases h0 : st = 0
  rotate_left
  · have x1 : e1 = st := by rw [he1, ← hst, gateQ, if_pos h0]
    have x2 : e2 = st := by rw [he2, enterC, ← hst, enterI, if_pos h0]
    have y1 : r1 = Ss.nil := by rw [hr1, if_pos (by rw [x1]; exact h0)]
    have y2 : r2 = Ss.nil := by rw [hr2, if_pos (by rw [x2]; exact h0)]
    rw [x1, y1, Ss.nil_c] at kO
    rw [x2, y2, Ss.nil_c] at kE
    clear he1 he2 hr1 hr2 x1 x2 y1 y2 hO hE hp hst hw hs
    obtain ⟨arms, walls, parts, slots, gates, walk⟩ := w
    obtain ⟨tick, xs, fs, ps, os⟩ := s
    obtain ⟨ea, hea⟩ : ∃ es, es = lsAv Ar.c arms := ⟨_, rfl⟩
    obtain ⟨ew, hew⟩ : ∃ es, es = lsAv wallC walls := ⟨_, rfl⟩
    obtain ⟨ep, hep⟩ : ∃ es, es = lsAv Pt.c parts := ⟨_, rfl⟩
    obtain ⟨es, hes⟩ : ∃ es, es = lsAv Sl.c slots := ⟨_, rfl⟩
    obtain ⟨eg, heg⟩ : ∃ es, es = lsAv Gt.c gates := ⟨_, rfl⟩
    obtain ⟨ex, hex⟩ : ∃ es, es = lsAv As.c xs := ⟨_, rfl⟩
    obtain ⟨ef, hef⟩ : ∃ es, es = lsAv Fr.c fs := ⟨_, rfl⟩
    obtain ⟨ev, hev⟩ : ∃ es, es = lsAv V2.c ps := ⟨_, rfl⟩
    obtain ⟨eo, heo⟩ : ∃ es, es = lsAv boolC os := ⟨_, rfl⟩
    simp only [Wk.c, Ss.c, ← hea, ← hew, ← hep, ← hes, ← heg, ← hex, ← hef, ← hev, ← heo] at kS kO kE ⊢
    clear hea hew hep hes heg hex hef hev heo
    refine AE.ACallG.of_walk (fn := Tryz.f11) (c := bodyOf Tryz.f11) GG_stays tabOK Tryz.func11 rfl rfl mixed fun A hA X => ?_
    have n1 : A.bnot true = false := by rw [AE.c_not hA]; rfl
    have c1 : A.cmp .eql st 0 = false := by rw [AE.c_eql hA]; exact decide_eq_false h0
    have c2 : A.cmp .neq st 0 = true := by rw [AE.c_neq hA]; simpa using h0
    have c3 : A.cmp .eql st st = true := by rw [AE.c_eql hA]; exact decide_eq_true rfl
    (repeat' (first | (refine X.g ?_; cbv) | refine X.splitT ?_ | refine X.splitF ?_ | refine X.sp (fun hc => ?_) (fun hc => ?_) | refine X.needT ?_ | refine X.callsGA [] kM ?_ | refine X.callsGA [] kO ?_ | refine X.callsGA [] kE ?_ | refine X.callsGA [] kS ?_ | refine X.callsGA [] kN ?_ | fail))
    all_goals (refine X.ret _ (X.done rfl ?_); cbv <;> (and_intros <;> first | rfl | trivial))
  by_cases h1 : g < 0 ∨ (w.gates.length : Int) ≤ g
  · have x1 : e1 = 1 := by rw [he1, ← hst, gateQ, if_neg (fun h => h h0), if_pos h1]
    have x2 : e2 = 1 := by rw [he2, enterC, ← hst, enterI, if_neg (fun h => h h0), if_pos (by omega)]
    have y1 : r1 = Ss.nil := by rw [hr1, if_pos (by rw [x1]; decide)]
    have y2 : r2 = Ss.nil := by rw [hr2, if_pos (by rw [x2]; decide)]
    rw [x1, y1, Ss.nil_c] at kO
    rw [x2, y2, Ss.nil_c] at kE
    subst h0
    clear he1 he2 hr1 hr2 x1 x2 y1 y2 hO hE hp hst hw hs
    obtain ⟨arms, walls, parts, slots, gates, walk⟩ := w
    obtain ⟨tick, xs, fs, ps, os⟩ := s
    simp only at h1
    obtain ⟨ea, hea⟩ : ∃ es, es = lsAv Ar.c arms := ⟨_, rfl⟩
    obtain ⟨ew, hew⟩ : ∃ es, es = lsAv wallC walls := ⟨_, rfl⟩
    obtain ⟨ep, hep⟩ : ∃ es, es = lsAv Pt.c parts := ⟨_, rfl⟩
    obtain ⟨es, hes⟩ : ∃ es, es = lsAv Sl.c slots := ⟨_, rfl⟩
    obtain ⟨eg, heg⟩ : ∃ es, es = lsAv Gt.c gates := ⟨_, rfl⟩
    obtain ⟨ex, hex⟩ : ∃ es, es = lsAv As.c xs := ⟨_, rfl⟩
    obtain ⟨ef, hef⟩ : ∃ es, es = lsAv Fr.c fs := ⟨_, rfl⟩
    obtain ⟨ev, hev⟩ : ∃ es, es = lsAv V2.c ps := ⟨_, rfl⟩
    obtain ⟨eo, heo⟩ : ∃ es, es = lsAv boolC os := ⟨_, rfl⟩
    obtain ⟨ng, hng⟩ : ∃ n : Int, n = (gates.length : Int) := ⟨_, rfl⟩
    rw [← hng] at h1
    simp only [Wk.c, Ss.c, ← hea, ← hew, ← hep, ← hes, ← heg, ← hex, ← hef, ← hev, ← heo] at kS kO kE ⊢
    clear hea hew hep hes hex hef hev heo
    refine AE.ACallG.of_walk (fn := Tryz.f11) (c := bodyOf Tryz.f11) GG_stays tabOK Tryz.func11 rfl rfl mixed fun A hA X => ?_
    have lg : A.llen eg = ng := by rw [llen hA, heg, lsAv_len, hng]
    have n1 : A.bnot true = false := by rw [AE.c_not hA]; rfl
    have c1 : A.cmp .eql 0 0 = true := by rw [AE.c_eql hA]; rfl
    have c2 : A.cmp .neq 1 0 = true := by rw [AE.c_neq hA]; rfl
    have c3 : A.cmp .eql 1 1 = true := by rw [AE.c_eql hA]; rfl
    clear heg hng
    by_cases h2 : g < 0
    · have d1 : A.cmp .lss g 0 = true := by rw [AE.c_lss hA]; exact decide_eq_true h2
      (repeat' (first | (refine X.g ?_; cbv) | refine X.splitT ?_ | refine X.splitF ?_ | refine X.sp (fun hc => ?_) (fun hc => ?_) | refine X.needT ?_ | refine X.callsGA [] kM ?_ | refine X.callsGA [] kO ?_ | refine X.callsGA [] kE ?_ | refine X.callsGA [] kS ?_ | refine X.callsGA [] kN ?_ | fail))
      all_goals (refine X.ret _ (X.done rfl ?_); cbv <;> (and_intros <;> first | rfl | trivial))
    · have d1 : A.cmp .lss g 0 = false := by rw [AE.c_lss hA]; exact decide_eq_false h2
      have d2 : A.cmp .geq g (A.llen eg) = true := by rw [AE.c_geq hA, lg]; exact decide_eq_true (by omega)
      (repeat' (first | (refine X.g ?_; cbv) | refine X.splitT ?_ | refine X.splitF ?_ | refine X.sp (fun hc => ?_) (fun hc => ?_) | refine X.needT ?_ | refine X.callsGA [] kM ?_ | refine X.callsGA [] kO ?_ | refine X.callsGA [] kE ?_ | refine X.callsGA [] kS ?_ | refine X.callsGA [] kN ?_ | fail))
      all_goals (refine X.ret _ (X.done rfl ?_); cbv <;> (and_intros <;> first | rfl | trivial))
  subst h0
  have x1 : e1 = 0 := by rw [he1, ← hst, gateQ, if_neg (fun h => h rfl), if_neg h1]
  obtain ⟨i, hi⟩ : ∃ i : Nat, g = i := ⟨g.toNat, by omega⟩
  have hit : g.toNat = i := by rw [hi]; rfl
  have hog := (stateC_opens hst.symm).1
  have hgl : i < w.gates.length := by omega
  have hol : i < s.opens.length := by omega
  obtain ⟨gt, hgt⟩ : ∃ x, w.gates[i]? = some x := ⟨_, List.getElem?_eq_getElem hgl⟩
  have hga : gateAt w g = gt := by rw [gateAt, hit, List.getD_eq_getElem?_getD, hgt]; rfl
  obtain ⟨_, zg1, zg2⟩ : True ∧ gt.zone.low.sz ≤ 2 ^ 28 ∧ gt.zone.high.sz ≤ 2 ^ 28 := ⟨trivial, (hw.gates gt (List.mem_of_getElem? hgt)).2.1, (hw.gates gt (List.mem_of_getElem? hgt)).2.2⟩
  have y1 : r1 = s.opened i is := by rw [hr1, if_neg (by rw [x1]; decide), hit]
  obtain ⟨op, hop⟩ : ∃ b, b = s.opens.getD i false := ⟨_, rfl⟩
  have hopg : s.opens[i]? = some op := by rw [hop, List.getD_eq_getElem?_getD, List.getElem?_eq_getElem hol]; rfl
  have kSO := sameState_ok (s.opened i is) (s.opened i is) (opened_short hs.Few i is) (opened_short hs.Few i is) (hO i is).1 (hO i is).1 (hO i is).2 (hO i is).2 true (by simp)
  have kSE := sameState_ok (s.entered p) (s.entered p) (entered_short hs.Few p) (entered_short hs.Few p) hE.1 hE.1 hE.2 hE.2 true (by simp)
  obtain ⟨nm, ⟨⟨lx, ly⟩, ⟨hx, hy⟩⟩⟩ := gt
  obtain ⟨px, py⟩ := p
  simp only [V2.sz] at zg1 zg2 hp
  obtain ⟨gx, hgx⟩ : ∃ b, b = decide px.Good := ⟨_, rfl⟩
  obtain ⟨gy, hgy⟩ : ∃ b, b = decide py.Good := ⟨_, rfl⟩
  obtain ⟨b1, hb1⟩ : ∃ b, b = decide (lx.v ≤ px.v ∧ px.v ≤ hx.v) := ⟨_, rfl⟩
  obtain ⟨b2, hb2⟩ : ∃ b, b = decide (ly.v ≤ py.v ∧ py.v ≤ hy.v) := ⟨_, rfl⟩
  have kgx := good_ok px (by omega) gx hgx
  have kgy := good_ok py (by omega) gy hgy
  have ki1 := gateIn_ok px lx hx (by omega) (by omega) (by omega) b1 hb1
  have ki2 := gateIn_ok py ly hy (by omega) (by omega) (by omega) b2 hb2
  have E0 : e2 = if gx = false ∨ gy = false then 1 else if op = false then 7 else if b1 = false ∨ b2 = false then 17 else if s.people.length = 4 then 6 else 0 := by
    rw [he2, enterC, ← hst, enterI, if_neg (fun h => h rfl), hga, hit, ← hop, ← hgx, ← hgy]
    have t1 : cmpR px.v lx.v < 0 ↔ ¬ lx.v ≤ px.v := cmpR_neg
    have t2 : 0 < cmpR px.v hx.v ↔ ¬ px.v ≤ hx.v := by rw [← cmpR_le]; omega
    have t3 : cmpR py.v ly.v < 0 ↔ ¬ ly.v ≤ py.v := cmpR_neg
    have t4 : 0 < cmpR py.v hy.v ↔ ¬ py.v ≤ hy.v := by rw [← cmpR_le]; omega
    have t5 : (b1 = false ∨ b2 = false) ↔ (cmpR px.v lx.v < 0 ∨ 0 < cmpR px.v hx.v ∨ cmpR py.v ly.v < 0 ∨ 0 < cmpR py.v hy.v) := by
      rw [t1, t2, t3, t4, hb1, hb2, decide_eq_false_iff_not, decide_eq_false_iff_not]
      grind
    have t6 : (g < 0 ∨ (w.gates.length : Int) ≤ g ∨ gx = false ∨ gy = false) ↔ (gx = false ∨ gy = false) := by
      constructor
      · rintro (h | h | h)
        · omega
        · omega
        · exact h
      · intro h; exact Or.inr (Or.inr h)
    have t7 : ((s.people.length : Int) = 4) ↔ s.people.length = 4 := by omega
    simp only [t5, t6, t7]
  have hlo : s.opens.length ≤ 2 ^ 30 := hs.Few.opens
  have hlp : s.people.length ≤ 2 ^ 30 := hs.Few.people
  rw [x1, y1] at kO
  clear he1 he2 hr1 x1 y1 hO hE hp hw hs hga hgx hgy hb1 hb2 zg1 zg2 hop h1 hog hgl
  obtain ⟨arms, walls, parts, slots, gates, walk⟩ := w
  obtain ⟨tick, xs, fs, ps, os⟩ := s
  simp only at hgt hol hopg hlo hlp E0
  obtain ⟨ea, hea⟩ : ∃ es, es = lsAv Ar.c arms := ⟨_, rfl⟩
  obtain ⟨ew, hew⟩ : ∃ es, es = lsAv wallC walls := ⟨_, rfl⟩
  obtain ⟨ep, hep⟩ : ∃ es, es = lsAv Pt.c parts := ⟨_, rfl⟩
  obtain ⟨es, hes⟩ : ∃ es, es = lsAv Sl.c slots := ⟨_, rfl⟩
  obtain ⟨eg, heg⟩ : ∃ es, es = lsAv Gt.c gates := ⟨_, rfl⟩
  obtain ⟨ex, hex⟩ : ∃ es, es = lsAv As.c xs := ⟨_, rfl⟩
  obtain ⟨ef, hef⟩ : ∃ es, es = lsAv Fr.c fs := ⟨_, rfl⟩
  obtain ⟨ev, hev⟩ : ∃ es, es = lsAv V2.c ps := ⟨_, rfl⟩
  obtain ⟨eo, heo⟩ : ∃ es, es = lsAv boolC os := ⟨_, rfl⟩
  obtain ⟨eo2, heo2⟩ : ∃ es, es = lsAv boolC (os.set i is) := ⟨_, rfl⟩
  obtain ⟨ev2, hev2⟩ : ∃ es, es = lsAv V2.c (ps ++ [(⟨px, py⟩ : V2)]) := ⟨_, rfl⟩
  have hgz : eg[i]? = some (Gt.c ⟨nm, ⟨⟨lx, ly⟩, ⟨hx, hy⟩⟩⟩) := by rw [heg]; exact lsAv_get hgt
  have hoz : eo[i]? = some [.b op] := by rw [heo]; exact lsAv_get hopg
  have ati : AE.AtR i eo := ⟨by rw [heo, lsAv_len]; exact hol⟩
  have kcb := cloneBoolO_ok eo (by rw [heo, lsAv_len]; exact hlo)
  have kcv := cloneVecO_ok ev (by rw [hev, lsAv_len]; exact hlp)
  have hcO : (Ss.opened ⟨tick, xs, fs, ps, os⟩ i is).c = [.v (.int .i64 tick), .l 4 ex, .l 10 ef, .l 6 ev, .l 1 eo2] := by rw [Ss.c, hex, hef, hev, heo2]; rfl
  have hcE : (Ss.entered ⟨tick, xs, fs, ps, os⟩ ⟨px, py⟩).c = [.v (.int .i64 tick), .l 4 ex, .l 10 ef, .l 6 ev2, .l 1 eo] := by rw [Ss.c, hex, hef, hev2, heo]; rfl
  rw [hcO] at kO kSO
  rw [hcE] at kSE
  obtain ⟨rc, hrc⟩ : ∃ c, c = r2.c := ⟨_, rfl⟩
  rw [← hrc] at kE
  have okr : e2 = 0 → rc = [.v (.int .i64 tick), .l 4 ex, .l 10 ef, .l 6 ev2, .l 1 eo] := fun h => by rw [hrc, hr2, if_neg (by rw [h]; decide), hcE]
  have bad : ∀ v : Int, v ≠ 0 → e2 = v → rc = [.v (.int .i64 0), .l 4 [], .l 10 [], .l 6 [], .l 1 []] := fun v h h2 => by rw [hrc, hr2, if_pos (by rw [h2]; exact h), Ss.nil_c]
  clear hr2 hrc
  refine AE.ACallG.of_walk (fn := Tryz.f11) (c := bodyOf Tryz.f11) GG_stays tabOK Tryz.func11 rfl rfl mixed fun A hA X => ?_
  have hset : eo2 = A.lset eo i [.b is] := by rw [lset_std hA, heo, heo2, ← lsAv_set]; rfl
  have happ : ev2 = A.lapp ev [[.b px.1, .v (.string px.2), .v (.string px.3), .b py.1, .v (.string py.2), .v (.string py.3)]] := by
    rw [hev2, hev, ← lsAv_app]; subst hA
    show _ = lsAv V2.c ps ++ _
    congr 1
    rw [lsAv_eq]; rfl
  have lg : A.llen eg = (gates.length : Int) := by rw [llen hA, heg, lsAv_len]
  have lv : A.llen ev = (ps.length : Int) := by rw [llen hA, hev, lsAv_len]
  have hgrow : ∀ c, AE.GrowR (A.llen ev) (A.llen [c]) 80 := fun c => grow1 hA (n := 2 ^ 30) (by rw [hev, lsAv_len]; exact hlp) (by decide) (by decide)
  have hil : i < gates.length := (List.getElem?_eq_some_iff.1 hgt).1
  have d1 : A.cmp .lss g 0 = false := by rw [AE.c_lss hA]; exact decide_eq_false (by omega)
  have d2 : A.cmp .geq g (A.llen eg) = false := by rw [AE.c_geq hA, lg]; exact decide_eq_false (by omega)
  simp only [Wk.c, Ss.c, ← hea, ← hew, ← hep, ← hes, ← heg, ← hex, ← hef, ← hev, ← heo] at kS kO kE kSO kSE ⊢
  clear hea hew hep hes heg hex hef hev heo heo2 hev2 hcO hcE hgt hopg hlo hol lg hil
  have n1 : A.bnot true = false := by rw [AE.c_not hA]; rfl
  have n2 : A.bnot false = true := by rw [AE.c_not hA]; rfl
  have c1 : A.cmp .eql 0 0 = true := by rw [AE.c_eql hA]; rfl
  have c2 : A.cmp .neq 0 0 = false := by rw [AE.c_neq hA]; rfl
  have cv : ∀ v : Int, v ≠ 0 → A.cmp .neq v 0 = true ∧ A.cmp .eql v v = true := fun v h => ⟨by rw [AE.c_neq hA]; simpa using h, by rw [AE.c_eql hA]; exact decide_eq_true rfl⟩
  rw [hset] at kO kSO
  have np4 : ps.length = 4 → A.cmp .eql (A.llen ev) 4 = true := fun h => by rw [AE.c_eql hA, lv, h]; rfl
  have np5 : ps.length ≠ 4 → A.cmp .eql (A.llen ev) 4 = false := fun h => by rw [AE.c_eql hA, lv]; exact decide_eq_false (by omega)
  cases gx
  · have x2 : e2 = 1 := by rw [E0, if_pos (Or.inl rfl)]
    obtain ⟨v1, v2⟩ := cv 1 (by decide)
    have v3 := bad 1 (by decide) x2
    subst x2; subst v3
    clear kSE kcv hgrow bad okr cv E0 happ
    (repeat' (first | (refine X.g ?_; cbv) | refine X.splitT ?_ | refine X.splitF ?_ | refine X.sp (fun hc => ?_) (fun hc => ?_) | refine X.needT ?_ | refine X.callsGA [] kM ?_ | refine X.callsGA [] kO ?_ | refine X.callsGA [] kE ?_ | refine X.callsGA [] kS ?_ | refine X.callsGA [] kSO ?_ | refine X.callsGA [] kgx ?_ | refine X.callsGA [] kgy ?_ | refine X.callsGA [] ki1 ?_ | refine X.callsGA [] ki2 ?_ | refine X.callsGA [] kN ?_ | refine X.callsA [] kcb ?_ | refine X.idx _ _ _ _ _ _ _ _ hgz hi ?_ | refine X.idx _ _ _ _ _ _ _ _ hoz hi ?_ | refine X.idxA i ati hi ?_ | (refine X.need _ _ _ ati (X.frz 6 _ _ ?_)) | fail))
    all_goals (refine X.ret _ (X.done rfl ?_); cbv <;> (and_intros <;> first | rfl | trivial))
  cases gy
  · have x2 : e2 = 1 := by rw [E0, if_pos (Or.inr rfl)]
    obtain ⟨v1, v2⟩ := cv 1 (by decide)
    have v3 := bad 1 (by decide) x2
    subst x2; subst v3
    clear kSE kcv hgrow bad okr cv E0 happ
    (repeat' (first | (refine X.g ?_; cbv) | refine X.splitT ?_ | refine X.splitF ?_ | refine X.sp (fun hc => ?_) (fun hc => ?_) | refine X.needT ?_ | refine X.callsGA [] kM ?_ | refine X.callsGA [] kO ?_ | refine X.callsGA [] kE ?_ | refine X.callsGA [] kS ?_ | refine X.callsGA [] kSO ?_ | refine X.callsGA [] kgx ?_ | refine X.callsGA [] kgy ?_ | refine X.callsGA [] ki1 ?_ | refine X.callsGA [] ki2 ?_ | refine X.callsGA [] kN ?_ | refine X.callsA [] kcb ?_ | refine X.idx _ _ _ _ _ _ _ _ hgz hi ?_ | refine X.idx _ _ _ _ _ _ _ _ hoz hi ?_ | refine X.idxA i ati hi ?_ | (refine X.need _ _ _ ati (X.frz 6 _ _ ?_)) | fail))
    all_goals (refine X.ret _ (X.done rfl ?_); cbv <;> (and_intros <;> first | rfl | trivial))
  rw [if_neg (by simp)] at E0
  cases op
  · have x2 : e2 = 7 := by rw [E0]; rfl
    obtain ⟨v1, v2⟩ := cv 7 (by decide)
    have v3 := bad 7 (by decide) x2
    subst x2; subst v3
    clear kSE kcv hgrow bad okr cv E0 happ
    (repeat' (first | (refine X.g ?_; cbv) | refine X.splitT ?_ | refine X.splitF ?_ | refine X.sp (fun hc => ?_) (fun hc => ?_) | refine X.needT ?_ | refine X.callsGA [] kM ?_ | refine X.callsGA [] kO ?_ | refine X.callsGA [] kE ?_ | refine X.callsGA [] kS ?_ | refine X.callsGA [] kSO ?_ | refine X.callsGA [] kgx ?_ | refine X.callsGA [] kgy ?_ | refine X.callsGA [] ki1 ?_ | refine X.callsGA [] ki2 ?_ | refine X.callsGA [] kN ?_ | refine X.callsA [] kcb ?_ | refine X.idx _ _ _ _ _ _ _ _ hgz hi ?_ | refine X.idx _ _ _ _ _ _ _ _ hoz hi ?_ | refine X.idxA i ati hi ?_ | (refine X.need _ _ _ ati (X.frz 6 _ _ ?_)) | fail))
    all_goals (refine X.ret _ (X.done rfl ?_); cbv <;> (and_intros <;> first | rfl | trivial))
  rw [if_neg (by simp)] at E0
  cases b1
  · have x2 : e2 = 17 := by rw [E0, if_pos (Or.inl rfl)]
    obtain ⟨v1, v2⟩ := cv 17 (by decide)
    have v3 := bad 17 (by decide) x2
    subst x2; subst v3
    clear kSE kcv hgrow bad okr cv E0 happ
    (repeat' (first | (refine X.g ?_; cbv) | refine X.splitT ?_ | refine X.splitF ?_ | refine X.sp (fun hc => ?_) (fun hc => ?_) | refine X.needT ?_ | refine X.callsGA [] kM ?_ | refine X.callsGA [] kO ?_ | refine X.callsGA [] kE ?_ | refine X.callsGA [] kS ?_ | refine X.callsGA [] kSO ?_ | refine X.callsGA [] kgx ?_ | refine X.callsGA [] kgy ?_ | refine X.callsGA [] ki1 ?_ | refine X.callsGA [] ki2 ?_ | refine X.callsGA [] kN ?_ | refine X.callsA [] kcb ?_ | refine X.idx _ _ _ _ _ _ _ _ hgz hi ?_ | refine X.idx _ _ _ _ _ _ _ _ hoz hi ?_ | refine X.idxA i ati hi ?_ | (refine X.need _ _ _ ati (X.frz 6 _ _ ?_)) | fail))
    all_goals (refine X.ret _ (X.done rfl ?_); cbv <;> (and_intros <;> first | rfl | trivial))
  cases b2
  · have x2 : e2 = 17 := by rw [E0, if_pos (Or.inr rfl)]
    obtain ⟨v1, v2⟩ := cv 17 (by decide)
    have v3 := bad 17 (by decide) x2
    subst x2; subst v3
    clear kSE kcv hgrow bad okr cv E0 happ
    (repeat' (first | (refine X.g ?_; cbv) | refine X.splitT ?_ | refine X.splitF ?_ | refine X.sp (fun hc => ?_) (fun hc => ?_) | refine X.needT ?_ | refine X.callsGA [] kM ?_ | refine X.callsGA [] kO ?_ | refine X.callsGA [] kE ?_ | refine X.callsGA [] kS ?_ | refine X.callsGA [] kSO ?_ | refine X.callsGA [] kgx ?_ | refine X.callsGA [] kgy ?_ | refine X.callsGA [] ki1 ?_ | refine X.callsGA [] ki2 ?_ | refine X.callsGA [] kN ?_ | refine X.callsA [] kcb ?_ | refine X.idx _ _ _ _ _ _ _ _ hgz hi ?_ | refine X.idx _ _ _ _ _ _ _ _ hoz hi ?_ | refine X.idxA i ati hi ?_ | (refine X.need _ _ _ ati (X.frz 6 _ _ ?_)) | fail))
    all_goals (refine X.ret _ (X.done rfl ?_); cbv <;> (and_intros <;> first | rfl | trivial))
  rw [if_neg (by simp)] at E0
  by_cases h4 : ps.length = 4
  · have g4 := np4 h4
    have x2 : e2 = 6 := by rw [E0, if_pos h4]
    obtain ⟨v1, v2⟩ := cv 6 (by decide)
    have v3 := bad 6 (by decide) x2
    subst x2; subst v3
    clear kSE kcv hgrow bad okr cv E0 happ
    (repeat' (first | (refine X.g ?_; cbv) | refine X.splitT ?_ | refine X.splitF ?_ | refine X.sp (fun hc => ?_) (fun hc => ?_) | refine X.needT ?_ | refine X.callsGA [] kM ?_ | refine X.callsGA [] kO ?_ | refine X.callsGA [] kE ?_ | refine X.callsGA [] kS ?_ | refine X.callsGA [] kSO ?_ | refine X.callsGA [] kgx ?_ | refine X.callsGA [] kgy ?_ | refine X.callsGA [] ki1 ?_ | refine X.callsGA [] ki2 ?_ | refine X.callsGA [] kN ?_ | refine X.callsA [] kcb ?_ | refine X.idx _ _ _ _ _ _ _ _ hgz hi ?_ | refine X.idx _ _ _ _ _ _ _ _ hoz hi ?_ | refine X.idxA i ati hi ?_ | (refine X.need _ _ _ ati (X.frz 6 _ _ ?_)) | fail))
    all_goals (refine X.ret _ (X.done rfl ?_); cbv <;> (and_intros <;> first | rfl | trivial))
  have g4 := np5 h4
  have x2 : e2 = 0 := by rw [E0, if_neg h4]
  have v3 := okr x2
  rw [happ] at v3 kSE
  subst x2; subst v3
  clear bad okr cv E0 happ
  (repeat' (first | (refine X.g ?_; cbv) | refine X.splitT ?_ | refine X.splitF ?_ | refine X.sp (fun hc => ?_) (fun hc => ?_) | refine X.needT ?_ | refine X.callsGA [] kM ?_ | refine X.callsGA [] kO ?_ | refine X.callsGA [] kE ?_ | refine X.callsGA [] kS ?_ | refine X.callsGA [] kSO ?_ | refine X.callsGA [] kgx ?_ | refine X.callsGA [] kgy ?_ | refine X.callsGA [] ki1 ?_ | refine X.callsGA [] ki2 ?_ | refine X.callsGA [] kN ?_ | refine X.callsA [] kcb ?_ | refine X.callsA [] kcv ?_ | refine X.drawX _ _ _ (by kernel_rfl) (X.frzB 1 _ _ (Nat.zero_le _) (X.frzB 2 _ _ (Nat.zero_le _) ?_)) | refine X.fork _ _ ?_ ?_ | refine X.callsGA [] kSE ?_ | (refine X.need _ _ _ (hgrow _) (X.frz 8 _ _ (X.frz 9 _ _ (X.frz 10 _ _ ?_)))) | refine X.idx _ _ _ _ _ _ _ _ hgz hi ?_ | refine X.idx _ _ _ _ _ _ _ _ hoz hi ?_ | refine X.idxA i ati hi ?_ | (refine X.need _ _ _ ati (X.frz 6 _ _ ?_)) | fail))
  all_goals (refine X.ret _ (X.done rfl ?_); cbv <;> (and_intros <;> first | rfl | trivial))
end Go.Proofs.YthadehkggddgoaaGreatDoor
end
section
set_option linter.unusedVariables false
set_option linter.unusedSimpArgs false
namespace Go.Proofs.YthadehkggddgoaaGreatDoor
open Go Go.Num
theorem lw_one : ∀ l : List Bool, lw (fun _ : Bool => 1) l = l.length + 1
  | [] => rfl
  | b :: l => by
    have := lw_one l
    simp only [lw, List.map_cons, List.sum_cons, List.length_cons] at *; omega
theorem opened_fit {s : Ss} (h : s.wt ≤ 1048576) (hi : s.ints) (i : Nat) (b : Bool) : (s.opened i b).few ∧ (s.opened i b).S.size < 2 ^ 60 := by
  have e : (s.opened i b).wt = s.wt := by
    show lw As.wt s.arms + lw Fr.wt s.parts + lw V2.wt s.people + lw (fun _ : Bool => 1) (s.opens.set i b) = lw As.wt s.arms + lw Fr.wt s.parts + lw V2.wt s.people + lw (fun _ : Bool => 1) s.opens
    rw [lw_one, lw_one, List.length_set]
  refine ⟨(s.opened i b).fewI_wt (n := 1048576) (by omega) (by decide) hi, by have := (s.opened i b).S_size; omega⟩
theorem entered_fit {s : Ss} (h : s.wt ≤ 1048576) (hi : s.ints) {p : V2} (hp : p.wt ≤ 1048576) : (s.entered p).few ∧ (s.entered p).S.size < 2 ^ 60 := by
  have e0 : lw V2.wt (s.people ++ [p]) = lw V2.wt s.people + p.wt := by
    simp only [lw, List.map_append, List.sum_append, List.map_cons, List.map_nil, List.sum_cons, List.sum_nil]; omega
  have e : (s.entered p).wt = s.wt + p.wt := by
    show lw As.wt s.arms + lw Fr.wt s.parts + lw V2.wt (s.people ++ [p]) + lw (fun _ : Bool => 1) s.opens = lw As.wt s.arms + lw Fr.wt s.parts + lw V2.wt s.people + lw (fun _ : Bool => 1) s.opens + p.wt
    omega
  refine ⟨(s.entered p).fewI_wt (n := 2097152) (by omega) (by decide) hi, by have := (s.entered p).S_size; omega⟩
end Go.Proofs.YthadehkggddgoaaGreatDoor
end
end
