/- Contracts: turn.Of, frame.Zero; the reference's First. -/
import Derived.Test.YthadehkggddgoaaGreatDoorZLoop
import Derived.Test.YthadehkggddgoaaGreatDoorZRatC
import Derived.Test.YthadehkggddgoaaGreatDoorZMake
set_option maxRecDepth 100000
set_option maxHeartbeats 0
set_option linter.unusedVariables false
set_option linter.unusedSimpArgs false
namespace Go.Proofs.YthadehkggddgoaaGreatDoor
open Go Go.Num
theorem turnOf_ok (q : Q) (hq : q.sz ≤ 2 ^ 32) (r : Tn) (hr : r = ⟨false, Q.of q.v⟩) : AE.ACallG GG Tryz.prog 172 [] [.a q.c] [] (.a r.c) := by
  obtain ⟨p, hp⟩ : ∃ p, p = Q.of q.v := ⟨_, rfl⟩
  rw [← hp] at hr
  subst hr
  refine AE.ACallG.of_walk (fn := Tryz.f172) (c := bodyOf Tryz.f172) GG_stays tabOK Tryz.func172 rfl rfl mixed fun A hA X => ?_
  have k1 := ratMin_ok q q hq hq p (by rw [hp, minR]; split <;> rfl)
  (repeat' (first | (refine X.g ?_; cbv) | refine X.splitT ?_ | refine X.splitF ?_ | refine X.sp (fun hc => ?_) (fun hc => ?_) | refine X.callsGA [] k1 ?_ | refine X.needT ?_))
  all_goals (refine X.ret _ (X.done rfl ?_); cbv <;> (and_intros <;> first | rfl | trivial))
def frame0 : Fr := ⟨⟨Q.of 0, Q.of 0⟩, ⟨false, Q.of 0⟩⟩
theorem rs0 : rs 0 ≤ 1 := rs_le.2 ⟨by decide, by decide⟩
theorem frameZero_ok (r : Fr) (hr : r = frame0) : AE.ACallG GG Tryz.prog 111 [] [] [] (.a r.c) := by
  obtain ⟨p, hp⟩ : ∃ p, p = Q.of 0 := ⟨_, rfl⟩
  rw [frame0, ← hp] at hr
  subst hr
  refine AE.ACallG.of_walk (fn := Tryz.f111) (c := bodyOf Tryz.f111) GG_stays tabOK Tryz.func111 rfl rfl mixed fun A hA X => ?_
  have k1 := ratOf_ok 0 (by decide) (by decide) p hp
  obtain ⟨t, ht⟩ : ∃ t : Tn, t = ⟨false, p⟩ := ⟨_, rfl⟩
  have k2 := turnOf_ok p (by rw [hp, sz_of]; have := rs0; omega) ⟨false, p⟩ (by rw [hp, Q.v_of])
  (repeat' (first | (refine X.g ?_; cbv) | refine X.splitT ?_ | refine X.splitF ?_ | refine X.sp (fun hc => ?_) (fun hc => ?_) | refine X.needT ?_ | refine X.callsGA [] k1 ?_ | refine X.callsGA [] k2 ?_ | refine X.drawX _ _ _ (by kernel_rfl) (X.frzB 1 _ _ (Nat.zero_le _) ?_)))
  all_goals (refine X.ret _ (X.done rfl ?_); cbv <;> (and_intros <;> first | rfl | trivial))
def firstQ (l : Lk) : Q := if 0 < sgnR l.low.v then l.low else if sgnR l.high.v < 0 then l.high else Q.of 0
def firstA (a : Ar) : As := ⟨a.links.map firstQ, a.links.map fun _ => Q.of 0, false, -1⟩
def frameAt (l : List Sl) (i : Nat) : Fr := match l[i]? with | some s => s.frame | none => frame0
def firstS (w : Wk) : Ss := ⟨0, w.arms.map firstA, (List.range w.parts.length).map (frameAt w.slots), [], List.replicate w.gates.length false⟩
theorem map_snoc {α β : Type} (f : α → β) {l : List α} {i : Nat} {y : α} (h : l[i]? = some y) : (l.take (i + 1)).map f = (l.take i).map f ++ [f y] := by rw [take_snoc h, List.map_append]; rfl
theorem lapp_map {A : AE.Ari} (hA : A = AE.std) {α β : Type} (g : α → β) {f : β → List AE.AV} {l : List α} {i : Nat} {y : α} (h : l[i]? = some y) {es es' : List (List AE.AV)} (h1 : es = lsAv f ((l.take i).map g)) (h2 : es' = lsAv f ((l.take (i + 1)).map g)) : A.lapp es [f (g y)] = es' := by
  subst hA
  rw [h1, h2, map_snoc g h, ← lsAv_app, show lsAv f [g y] = [f (g y)] by rw [lsAv_eq]; rfl]; rfl
theorem refFirst_ok (w : Wk) (hzz : ∀ a ∈ w.arms, a.links.length ≤ 2 ^ 30 ∧ ∀ k ∈ a.links, k.low.sz ≤ 2 ^ 32 ∧ k.high.sz ≤ 2 ^ 32) (hl : w.arms.length ≤ 2 ^ 30 ∧ w.parts.length ≤ 2 ^ 30 ∧ w.slots.length ≤ 2 ^ 30 ∧ w.gates.length ≤ 2 ^ 30) (s : Ss) (hs : s = firstS w) : AE.ACallG GG Tryz.prog 51 [] [.a w.c] [] (.a s.c) := by
  obtain ⟨f1, f2, f3, f4⟩ := hl
  obtain ⟨arms, walls, parts, slots, gates, walk⟩ := w
  simp only at f1 f2 f3 f4 hzz
  obtain ⟨ea, hea⟩ : ∃ es, es = lsAv Ar.c arms := ⟨_, rfl⟩
  obtain ⟨ew, hew⟩ : ∃ es, es = lsAv wallC walls := ⟨_, rfl⟩
  obtain ⟨ep, hep⟩ : ∃ es, es = lsAv Pt.c parts := ⟨_, rfl⟩
  obtain ⟨es, hes⟩ : ∃ es, es = lsAv Sl.c slots := ⟨_, rfl⟩
  obtain ⟨eg, heg⟩ : ∃ es, es = lsAv Gt.c gates := ⟨_, rfl⟩
  obtain ⟨va, hva⟩ : ∃ e, e = lsAv As.c (firstS ⟨arms, walls, parts, slots, gates, walk⟩).arms := ⟨_, rfl⟩
  obtain ⟨vp, hvp⟩ : ∃ e, e = lsAv Fr.c (firstS ⟨arms, walls, parts, slots, gates, walk⟩).parts := ⟨_, rfl⟩
  obtain ⟨vw, hvw⟩ : ∃ e, e = lsAv V2.c ([] : List V2) := ⟨_, rfl⟩
  obtain ⟨vo, hvo⟩ : ∃ e, e = lsAv boolC (List.replicate gates.length false) := ⟨_, rfl⟩
  have hsc : s.c = [.v (.int .i64 0), .l 4 va, .l 10 vp, .l 6 vw, .l 1 vo] := by rw [hs, Ss.c, hva, hvp, hvw, hvo]; rfl
  rw [hsc]
  have fvw : vw = [] := by rw [hvw]; exact lsAv_nil _
  simp only [Wk.c, ← hea, ← hew, ← hep, ← hes, ← heg]
  refine AE.ACallG.of_walk (fn := Tryz.f51) (c := bodyOf Tryz.f51) GG_stays tabOK Tryz.func51 rfl rfl mixed fun A hA X => ?_
  have lg : A.llen eg = (gates.length : Int) := by rw [llen hA, heg, lsAv_len]
  have hmk : AE.MakeR (A.llen eg) (A.llen eg) 1 := by
    have : A.llen eg ≤ 2 ^ 30 ∧ 0 ≤ A.llen eg := by rw [lg]; omega
    constructor <;> omega
  have ls : A.llen es = (slots.length : Int) := by rw [llen hA, hes, lsAv_len]
  have hrep : A.lrep (A.llen eg) [.b false] = vo := by
    rw [hvo, lg, lsAv_eq]; subst hA
    show List.replicate (Int.toNat _) _ = _
    rw [List.map_replicate]; rfl
  obtain ⟨gA, hgA⟩ : ∃ g : Nat → List (List AE.AV), ∀ i, g i = lsAv As.c ((arms.take i).map firstA) := ⟨_, fun _ => rfl⟩
  obtain ⟨gP, hgP⟩ : ∃ g : Nat → List (List AE.AV), ∀ i, g i = lsAv Fr.c ((List.range i).map (frameAt slots)) := ⟨_, fun _ => rfl⟩
  obtain ⟨q0, hq0⟩ : ∃ q, q = Q.of 0 := ⟨_, rfl⟩
  have k1 := ratOf_ok 0 (by decide) (by decide) q0 hq0
  (repeat' (first | (refine X.g ?_; cbv) | refine X.splitT ?_ | refine X.splitF ?_ | refine X.sp (fun hc => ?_) (fun hc => ?_) | refine X.needT ?_ | refine X.need _ _ _ hmk ?_))
  refine X.loopG _ _ _ (X.frzB 0 _ _ (Nat.zero_le _) (X.nilB 3 1 76 4 _ _ ?_))
  (refine X.g ?_; cbv)
  refine rangeLS X hA hea (by omega) (fun _ => True) (fun z _ => [(19, .v (.int .i64 z))]) (fun i o => o.set 4 (.row 76 4 (gA i))) trivial ?_ (fun i z y hz hy hye c3 hI B hB => ?_) (fun z c3 hI B => ?_)
  · have h0 : [] = gA 0 := by rw [hgA]; exact (lsAv_nil _).symm
    (cbv <;> (and_intros <;> first | exact h0 | rfl | trivial))
  · obtain ⟨z1, z2⟩ := hzz y (List.mem_of_getElem? hy)
    have e3 := lapp_map hA firstA (f := As.c) hy (hgA i) (hgA (i + 1))
    obtain ⟨name, base, links⟩ := y
    simp only at z1 z2
    obtain ⟨gQ, hgQ⟩ : ∃ g : Nat → List (List AE.AV), ∀ i, g i = lsAv Q.c ((links.take i).map firstQ) := ⟨_, fun _ => rfl⟩
    obtain ⟨gV, hgV⟩ : ∃ g : Nat → List (List AE.AV), ∀ i, g i = lsAv Q.c ((links.take i).map fun _ => Q.of 0) := ⟨_, fun _ => rfl⟩
    obtain ⟨el, hel⟩ : ∃ es, es = lsAv Lk.c links := ⟨_, rfl⟩
    have b1 : lsAv Q.c (links.map firstQ) = gQ links.length := by rw [hgQ, List.take_length]
    have b2 : lsAv Q.c (links.map fun _ => Q.of 0) = gV links.length := by rw [hgV, List.take_length]
    simp only [Ar.c, ← hel] at hye
    simp only [firstA, As.c, b1, b2] at e3
    have hgrowA : ∀ c, AE.GrowR (A.llen (gA i)) (A.llen [c]) 64 := fun c => grow1 hA (n := 2 ^ 30) (by rw [hgA, lsAv_len, List.length_map, List.length_take]; omega) (by decide) (by decide)
    (repeat' (first | (refine X.g ?_; cbv) | refine X.splitT ?_ | refine X.splitF ?_ | refine X.sp (fun hc => ?_) (fun hc => ?_) | refine X.needT ?_ | refine X.idx _ _ _ _ _ _ _ _ hye hz ?_))
    refine X.loopG _ _ _ (X.nilB 6 0 29 3 _ _ (X.nilB 6 1 29 3 _ _ ?_))
    (refine X.g ?_; cbv)
    refine rangeLS X hA hel (by omega) (fun _ => True) (fun z _ => [(27, .v (.int .i64 z))]) (fun i o => (o.set 7 (.row 29 3 (gQ i))).set 8 (.row 29 3 (gV i))) trivial ?_ (fun k zk yl hzk hyl hyel c4 hI2 B2 hB2 => ?_) (fun zk c4 hI2 B2 => ?_)
    · have h0 : [] = gQ 0 := by rw [hgQ]; exact (lsAv_nil _).symm
      have h1 : [] = gV 0 := by rw [hgV]; exact (lsAv_nil _).symm
      clear hB
      (cbv <;> (and_intros <;> first | exact h0 | exact h1 | rfl | trivial))
    · have e1 := lapp_map hA firstQ (f := Q.c) hyl (hgQ k) (hgQ (k + 1))
      have e2 := lapp_map hA (fun _ => Q.of 0) (f := Q.c) hyl (hgV k) (hgV (k + 1))
      rw [← hq0] at e2
      obtain ⟨y1, y2⟩ := z2 yl (List.mem_of_getElem? hyl)
      obtain ⟨s1, hs1⟩ : ∃ z, z = sgnR yl.low.v := ⟨_, rfl⟩
      obtain ⟨s2, hs2⟩ : ∃ z, z = sgnR yl.high.v := ⟨_, rfl⟩
      have k2 := sign_ok yl.low (by omega) s1 hs1
      have k3 := sign_ok yl.high (by omega) s2 hs2
      have hgrowQ : ∀ c, AE.GrowR (A.llen (gQ k)) (A.llen [c]) 40 := fun c => grow1 hA (n := 2 ^ 30) (by rw [hgQ, lsAv_len, List.length_map, List.length_take]; omega) (by decide) (by decide)
      have hgrowV : ∀ c, AE.GrowR (A.llen (gV k)) (A.llen [c]) 40 := fun c => grow1 hA (n := 2 ^ 30) (by rw [hgV, lsAv_len, List.length_map, List.length_take]; omega) (by decide) (by decide)
      clear hB
      by_cases h1 : 0 < s1
      · have c5 : A.cmp .gtr s1 0 = true := by rw [AE.c_gtr hA]; exact decide_eq_true h1
        rw [show firstQ yl = yl.low by rw [firstQ, if_pos (by rw [← hs1]; exact h1)]] at e1
        (repeat' (first | (refine X.g ?_; cbv) | refine X.splitT ?_ | refine X.splitF ?_ | refine X.sp (fun hc => ?_) (fun hc => ?_) | refine X.needT ?_ | refine X.idx _ _ _ _ _ _ _ _ hyel hzk ?_ | refine X.callsGA [] k1 ?_ | refine X.callsGA [] k2 ?_ | refine X.callsGA [] k3 ?_ | refine X.need _ _ _ (hgrowQ _) ?_ | refine X.need _ _ _ (hgrowV _) ?_))
        apply shareG X
        · intro hs
          (repeat' (first | (refine X.g ?_; cbv) | refine X.splitT ?_ | refine X.splitF ?_ | refine X.sp (fun hc => ?_) (fun hc => ?_) | refine X.needT ?_ | refine X.drawX _ _ _ (by kernel_rfl) (X.frzB 10 _ _ (Nat.zero_le _) ?_) | refine X.fork _ _ ?_ ?_ | refine X.callsGA [] k1 ?_ | refine X.need _ _ _ (hgrowQ _) ?_ | refine X.need _ _ _ (hgrowV _) ?_ | exact hs))
        · refine hB2 trivial _ ?_; clear hB2; (cbv <;> (and_intros <;> first | exact e1 | exact e2 | rfl | trivial))
      · have c5 : A.cmp .gtr s1 0 = false := by rw [AE.c_gtr hA]; exact decide_eq_false h1
        by_cases h2 : s2 < 0
        · have c6 : A.cmp .lss s2 0 = true := by rw [AE.c_lss hA]; exact decide_eq_true h2
          rw [show firstQ yl = yl.high by rw [firstQ, if_neg (by rw [← hs1]; exact h1), if_pos (by rw [← hs2]; exact h2)]] at e1
          (repeat' (first | (refine X.g ?_; cbv) | refine X.splitT ?_ | refine X.splitF ?_ | refine X.sp (fun hc => ?_) (fun hc => ?_) | refine X.needT ?_ | refine X.idx _ _ _ _ _ _ _ _ hyel hzk ?_ | refine X.callsGA [] k1 ?_ | refine X.callsGA [] k2 ?_ | refine X.callsGA [] k3 ?_ | refine X.need _ _ _ (hgrowQ _) ?_ | refine X.need _ _ _ (hgrowV _) ?_))
          apply shareG X
          · intro hs
            (repeat' (first | (refine X.g ?_; cbv) | refine X.splitT ?_ | refine X.splitF ?_ | refine X.sp (fun hc => ?_) (fun hc => ?_) | refine X.needT ?_ | refine X.drawX _ _ _ (by kernel_rfl) (X.frzB 10 _ _ (Nat.zero_le _) ?_) | refine X.fork _ _ ?_ ?_ | refine X.callsGA [] k1 ?_ | refine X.need _ _ _ (hgrowQ _) ?_ | refine X.need _ _ _ (hgrowV _) ?_ | exact hs))
          · refine hB2 trivial _ ?_; clear hB2; (cbv <;> (and_intros <;> first | exact e1 | exact e2 | rfl | trivial))
        · have c6 : A.cmp .lss s2 0 = false := by rw [AE.c_lss hA]; exact decide_eq_false h2
          rw [show firstQ yl = q0 by rw [hq0, firstQ, if_neg (by rw [← hs1]; exact h1), if_neg (by rw [← hs2]; exact h2)]] at e1
          (repeat' (first | (refine X.g ?_; cbv) | refine X.splitT ?_ | refine X.splitF ?_ | refine X.sp (fun hc => ?_) (fun hc => ?_) | refine X.needT ?_ | refine X.idx _ _ _ _ _ _ _ _ hyel hzk ?_ | refine X.callsGA [] k1 ?_ | refine X.callsGA [] k2 ?_ | refine X.callsGA [] k3 ?_ | refine X.need _ _ _ (hgrowQ _) ?_ | refine X.need _ _ _ (hgrowV _) ?_))
          apply shareG X
          · intro hs
            (repeat' (first | (refine X.g ?_; cbv) | refine X.splitT ?_ | refine X.splitF ?_ | refine X.sp (fun hc => ?_) (fun hc => ?_) | refine X.needT ?_ | refine X.drawX _ _ _ (by kernel_rfl) (X.frzB 10 _ _ (Nat.zero_le _) ?_) | refine X.fork _ _ ?_ ?_ | refine X.callsGA [] k1 ?_ | refine X.need _ _ _ (hgrowQ _) ?_ | refine X.need _ _ _ (hgrowV _) ?_ | exact hs))
          · refine hB2 trivial _ ?_; clear hB2; (cbv <;> (and_intros <;> first | exact e1 | exact e2 | rfl | trivial))
    · refine X.frz 7 _ _ (X.frz 8 _ _ ?_)
      (repeat' (first | (refine X.g ?_; cbv) | refine X.splitT ?_ | refine X.splitF ?_ | refine X.sp (fun hc => ?_) (fun hc => ?_) | refine X.needT ?_ | refine X.need _ _ _ (hgrowA _) ?_))
      all_goals (refine hB trivial _ ?_; clear hB; (cbv <;> (and_intros <;> first | exact e3 | rfl | trivial)))
  obtain ⟨f0, hf0⟩ : ∃ f, f = frame0 := ⟨_, rfl⟩
  have k4 := frameZero_ok f0 hf0
  have r1 : gA arms.length = va := by rw [hgA, List.take_length, hva]; rfl
  have r2 : gP parts.length = vp := by rw [hgP, hvp]; rfl
  clear k1 hzz
  (repeat' (first | (refine X.g ?_; cbv) | refine X.splitT ?_ | refine X.splitF ?_ | refine X.sp (fun hc => ?_) (fun hc => ?_) | refine X.needT ?_))
  refine X.loopG _ _ _ (X.nilB 3 2 66 10 _ _ ?_)
  (refine X.g ?_; cbv)
  refine rangeLS X hA hep (by omega) (fun _ => True) (fun z _ => [(67, .v (.int .i64 z))]) (fun i o => o.set 5 (.row 66 10 (gP i))) trivial ?_ (fun i z y hz hy hye c3 hI B hB => ?_) (fun z c3 hI B => ?_)
  · have h0 : [] = gP 0 := by rw [hgP]; exact (lsAv_nil _).symm
    (cbv <;> (and_intros <;> first | exact h0 | rfl | trivial))
  · have hil : i < parts.length := (List.getElem?_eq_some_iff.1 hy).1
    have e1 : A.lapp (gP i) [(frameAt slots i).c] = gP (i + 1) := by
      rw [hgP, hgP, List.range_succ, List.map_append, ← lsAv_app, show lsAv Fr.c (List.map (frameAt slots) [i]) = [(frameAt slots i).c] by rw [lsAv_eq]; rfl]
      subst hA; rfl
    have hgrowP : ∀ c, AE.GrowR (A.llen (gP i)) (A.llen [c]) 128 := fun c => grow1 hA (n := 2 ^ 30) (by rw [hgP, lsAv_len, List.length_map, List.length_range]; omega) (by decide) (by decide)
    by_cases h : i < slots.length
    · have c5 : A.cmp .lss z (A.llen es) = true := ltT hA hz ls h
      obtain ⟨s0, hs0⟩ : ∃ s, slots[i]? = some s := ⟨_, List.getElem?_eq_getElem h⟩
      have hse : es[i]? = some s0.c := by rw [hes]; exact lsAv_get hs0
      rw [show frameAt slots i = s0.frame by rw [frameAt, hs0]] at e1
      (repeat' (first | (refine X.g ?_; cbv) | refine X.splitT ?_ | refine X.splitF ?_ | refine X.sp (fun hc => ?_) (fun hc => ?_) | refine X.needT ?_ | refine X.drawX _ _ _ (by kernel_rfl) ?_ | refine X.fork _ _ ?_ ?_ | refine X.idx _ _ _ _ _ _ _ _ hse hz ?_ | refine X.need _ _ _ (hgrowP _) ?_))
      all_goals (refine hB trivial _ ?_; clear hB; (cbv <;> (and_intros <;> first | exact e1 | rfl | trivial)))
    · have c5 : A.cmp .lss z (A.llen es) = false := ltF hA hz ls h
      rw [show frameAt slots i = f0 by rw [frameAt, List.getElem?_eq_none (by omega), hf0]] at e1
      (repeat' (first | (refine X.g ?_; cbv) | refine X.splitT ?_ | refine X.splitF ?_ | refine X.sp (fun hc => ?_) (fun hc => ?_) | refine X.needT ?_ | refine X.drawX _ _ _ (by kernel_rfl) ?_ | refine X.fork _ _ ?_ ?_ | refine X.callsGA [] k4 ?_ | refine X.need _ _ _ (hgrowP _) ?_))
      all_goals (refine hB trivial _ ?_; clear hB; (cbv <;> (and_intros <;> first | exact e1 | rfl | trivial)))
  · refine X.frz 2 _ _ (X.frz 4 _ _ (X.frz 5 _ _ ?_))
    (repeat' (first | (refine X.g ?_; cbv) | refine X.splitT ?_ | refine X.splitF ?_ | refine X.sp (fun hc => ?_) (fun hc => ?_) | refine X.needT ?_))
    all_goals (refine X.ret _ (X.done rfl ?_); cbv <;> (and_intros <;> first | exact r1 | exact r2 | exact fvw.symm | exact fvw | exact hrep | rfl | trivial))
end Go.Proofs.YthadehkggddgoaaGreatDoor
