/- Contract: the law DoneFirst. -/
import Derived.Test.YthadehkggddgoaaGreatDoorZBegunW
import Derived.Test.YthadehkggddgoaaGreatDoorZDone
set_option linter.unusedVariables false
set_option linter.unusedSimpArgs false
namespace Go.Proofs.YthadehkggddgoaaGreatDoor
open Go Go.Num
theorem rsub_self (a : Rat) : a - a = 0 := by rw [Rat.sub_eq_add_neg, Rat.add_neg_cancel]
theorem off_same (f : Fr) (c : V2) : offV f f c = ⟨0, 0⟩ := by
  rw [offV, RV.sub, rsub_self, rsub_self]
theorem step_same (f : Fr) (c : V2) : offStep f f 0 c = 0 := by
  rw [offStep, off_same]
  decide +kernel
theorem offR_same (f : Fr) : ∀ l : List V2, offR f f l = 0
  | [] => rfl
  | c :: l => by
    show l.foldl (offStep f f) (offStep f f 0 c) = 0
    rw [step_same]; exact offR_same f l
theorem step_nonneg (f g : Fr) (m : Rat) (c : V2) (h : 0 ≤ m) : 0 ≤ offStep f g m c := by
  rw [offStep, maxR]
  split
  · exact h
  · rename_i h2; exact Rat.le_trans h (Rat.le_of_lt (Rat.not_le.1 h2))
theorem foldR_nonneg (f g : Fr) : ∀ (l : List V2) (m : Rat), 0 ≤ m → 0 ≤ l.foldl (offStep f g) m
  | [], m, h => h
  | c :: l, m, h => foldR_nonneg f g l _ (step_nonneg f g m c h)
theorem offR_nonneg (f g : Fr) (l : List V2) : 0 ≤ offR f g l := foldR_nonneg f g l 0 Rat.le_refl
theorem best_nonneg (w : Wk) (s : Ss) (p : Int) : ∀ k, 0 ≤ (bestAt w s p k).2
  | 0 => Rat.le_refl
  | k + 1 => by
    rw [bestAt]
    split
    · exact offR_nonneg _ _ _
    · exact best_nonneg w s p k
theorem best_le (w : Wk) (s : Ss) (p : Int) : ∀ k : Nat, (bestAt w s p k).1 ≤ k - 1 ∨ (bestAt w s p k).1 ≤ 0
  | 0 => .inr (Int.le_refl _)
  | k + 1 => by
    rw [bestAt]
    split
    · left; show (k : Int) ≤ _; omega
    · rcases best_le w s p k with h | h
      · left; omega
      · right; exact h
theorem best_zero (w : Wk) (s : Ss) (p : Int) (i : Nat) (hi : offR (frAt s p) (slotAt w i).frame (partAt w p).shape = 0) : ∀ k, i < k → (bestAt w s p k).2 = 0 ∧ (bestAt w s p k).1 ≤ i
  | 0, h => by omega
  | k + 1, h => by
    rw [bestAt]
    by_cases hk : k = i
    · subst hk
      split
      · exact ⟨hi, Int.le_refl _⟩
      · rename_i h2
        have h3 := best_nonneg w s p k
        have h4 : (bestAt w s p k).2 ≤ 0 := by
          rw [← Rat.not_lt]; intro h5
          exact h2 (.inr (by rw [hi]; exact h5))
        refine ⟨Rat.le_antisymm h4 h3, ?_⟩
        rcases best_le w s p k with h5 | h5 <;> omega
    · obtain ⟨h1, h2⟩ := best_zero w s p i hi k (by omega)
      split
      · rename_i h3
        rcases h3 with h3 | h3
        · omega
        · rw [h1] at h3
          exact absurd h3 (Rat.not_lt.2 (offR_nonneg _ _ _))
      · exact ⟨h1, h2⟩
theorem stateC_opens' {w : Wk} {s : Ss} (h : stateC w s = 0) : s.opens.length = w.gates.length ∧ s.people.length ≤ 4 ∧ s.arms.length = w.arms.length ∧ s.parts.length = w.parts.length ∧ worksC w = 0 ∧ stateE w s = 0 ∧ 0 ≤ s.tick ∧ s.tick ≤ 2000 := by
  rw [stateC, stateI] at h
  split at h
  · omega
  · split at h
    · omega
    · split at h
      · omega
      · omega
def Fr.moved (f : Fr) (m : Rat) : Fr := ⟨⟨Q.of (f.at_.x.v + m), f.at_.y⟩, f.turn⟩
theorem off_moved (f : Fr) (m : Rat) (c : V2) : offV (f.moved m) f c = ⟨m, 0⟩ := by
  have h1 : (offV (f.moved m) f c).x = m := by
    show (Q.of (f.at_.x.v + m)).v + (c.v.turn f.turn).x - (f.at_.x.v + (c.v.turn f.turn).x) = m
    rw [Q.v_of]
    generalize (c.v.turn f.turn).x = u
    rw [Rat.add_comm f.at_.x.v m, Rat.add_assoc, Rat.sub_eq_add_neg, Rat.add_assoc, ← Rat.sub_eq_add_neg, rsub_self, Rat.add_zero]
  have h2 : (offV (f.moved m) f c).y = 0 := by
    show f.at_.y.v + _ - (f.at_.y.v + _) = 0
    exact rsub_self _
  have e : offV (f.moved m) f c = ⟨(offV (f.moved m) f c).x, (offV (f.moved m) f c).y⟩ := rfl
  rw [e, h1, h2]
theorem abs_pos {m : Rat} (h : 0 < m) : absR m = m := by rw [absR, if_neg (fun h2 => absurd (rlt_trans h h2) Rat.lt_irrefl)]
theorem step_moved (f : Fr) {m : Rat} (hm : 0 < m) (u : Rat) (hu : u ≤ m) (c : V2) : offStep (f.moved m) f u c = m := by
  have e : maxR (absR m) (absR 0) = m := by rw [abs_pos hm, show absR 0 = 0 by decide +kernel, maxR, if_pos (Rat.le_of_lt hm)]
  rw [offStep, off_moved]
  show maxR u (maxR (absR m) (absR 0)) = m
  rw [e, maxR]
  split
  · rename_i h; exact Rat.le_antisymm hu h
  · rfl
theorem fold_moved (f : Fr) {m : Rat} (hm : 0 < m) : ∀ l : List V2, l.foldl (offStep (f.moved m) f) m = m
  | [] => rfl
  | c :: l => by rw [List.foldl_cons, step_moved f hm m Rat.le_refl]; exact fold_moved f hm l
theorem offR_moved (f : Fr) {m : Rat} (hm : 0 < m) : ∀ {l : List V2}, l ≠ [] → offR (f.moved m) f l = m
  | [], h => absurd rfl h
  | c :: l, _ => by
    show l.foldl _ (offStep _ _ 0 c) = m
    rw [step_moved f hm 0 (Rat.le_of_lt hm)]; exact fold_moved f hm l
theorem wM_slot {l0 : List Int} {q : Sl} (h : q ∈ (worksM l0).slots) : q.frame.le 3 ∧ q.within.Small ∧ 0 < q.within.v ∧ q.frame.Fine := by
  obtain ⟨na, nw, np, ns, ng, l1, l2, l3, l4, l5, g, a1, a2, a3, a4, a5, a6, a7, a8, a9, hw⟩ := worksM_eq l0
  rw [hw] at h
  obtain ⟨i, l', hi, rfl⟩ := iterM_mem _ h
  obtain ⟨h1, h2, h3, h4, h5, h6⟩ := slotM_good i l'
  exact ⟨⟨h2.sz, h3.sz⟩, h5, h6, frameB_fine (frame_ok h2 h3 h4)⟩
theorem wM_part {l0 : List Int} {p : Pt} (h : p ∈ (worksM l0).parts) : (∀ c ∈ p.shape, c.sz ≤ 3) ∧ p.shape ≠ [] := by
  obtain ⟨na, nw, np, ns, ng, l1, l2, l3, l4, l5, g, a1, a2, a3, a4, a5, a6, a7, a8, a9, hw⟩ := worksM_eq l0
  rw [hw] at h
  obtain ⟨i, l', hi, rfl⟩ := iterM_mem _ h
  have hg := polyM_good l'
  refine ⟨fun c hc => (hg.2 c hc).sz, fun he => ?_⟩
  have he : (polyM l').1 = [] := he
  have h1 := hg.1
  rw [he] at h1
  exact absurd h1 (by decide)
theorem wM_len (l0 : List Int) : (worksM l0).parts.length ≤ (worksM l0).slots.length := by
  obtain ⟨na, nw, np, ns, ng, l1, l2, l3, l4, l5, g, a1, a2, a3, a4, a5, a6, a7, a8, a9, hw⟩ := worksM_eq l0
  rw [hw]
  show (iterM partM l3 np).1.length ≤ (iterM slotM l4 ns).1.length
  rw [(iterM_len (f := partM) (fun _ => polyM_len) l3 np).2, (iterM_len slotM_len l4 ns).2]; omega
theorem first_parts {l0 : List Int} {f : Fr} (h : f ∈ (firstS (worksM l0)).parts) : f.le 3 ∧ f.Fine := by
  obtain ⟨i, hi, rfl⟩ := List.mem_map.1 h
  rw [frameAt]
  split
  · rename_i s hs
    have := wM_slot (List.mem_of_getElem? hs)
    exact ⟨this.1, this.2.2.2⟩
  · refine ⟨?_, frame0_fine⟩
    have := rs0
    refine ⟨?_, ?_⟩
    · show max (Q.of 0).sz (Q.of 0).sz ≤ _; rw [sz_of]; omega
    · show (Q.of 0).sz ≤ _; rw [sz_of]; omega
theorem first_frAt {w : Wk} {i : Nat} (h : i < w.parts.length) (h2 : i < w.slots.length) : frAt (firstS w) i = (slotAt w i).frame := by
  have e1 : (firstS w).parts[i]? = some (frameAt w.slots i) := by
    show ((List.range w.parts.length).map (frameAt w.slots))[i]? = _
    rw [List.getElem?_map, List.getElem?_range h]; rfl
  have e2 : frAt (firstS w) i = frameAt w.slots i := by
    rw [frAt, Int.toNat_natCast, List.getD_eq_getElem?_getD, e1]; rfl
  rw [e2, frameAt, slotAt, Int.toNat_natCast, getD_some h2 ⟨⟨⟨[]⟩⟩, ⟨⟨Q.nil, Q.nil⟩, ⟨false, Q.nil⟩⟩, Q.nil⟩]
def Ss.shift (s : Ss) (i : Nat) (f : Fr) : Ss := { s with parts := s.parts.set i f }
theorem stateC_shift {w : Wk} {s : Ss} (h : stateC w s = 0) (i : Nat) {f0 : Fr} (hf : f0.Fine) : stateC w (s.shift i f0) = 0 := by
  obtain ⟨h1, h2, h3, h4, h5, h6, h7, h8⟩ := stateC_opens' h
  rw [stateE] at h6
  have e0 : armsC w.parts.length [] w.arms s.arms = 0 := by
    apply Classical.byContradiction
    intro hn
    rw [if_pos hn] at h6
    exact hn h6
  rw [if_neg (by rw [e0]; decide)] at h6
  have e1 : (∀ f ∈ s.parts, f.Fine) ∧ ∀ p ∈ s.people, p.Fine := by
    apply Classical.byContradiction
    intro hn
    rw [if_neg hn] at h6
    exact absurd h6 (by decide)
  have e2 : (∀ f ∈ (s.shift i f0).parts, f.Fine) ∧ ∀ p ∈ (s.shift i f0).people, p.Fine := ⟨fun g hg => by
    rcases List.mem_or_eq_of_mem_set hg with hg | hg
    · exact e1.1 _ hg
    · exact hg ▸ hf, e1.2⟩
  have e3 : stateE w (s.shift i f0) = 0 := by
    rw [stateE, if_neg (by show ¬ armsC w.parts.length [] w.arms s.arms ≠ 0; rw [e0]; decide)]
    exact if_pos e2
  have l2 : (s.shift i f0).parts.length = s.parts.length := List.length_set
  rw [stateC, h5, e3, l2]
  show stateI 0 s.people.length s.tick s.arms.length w.arms.length s.parts.length w.parts.length s.opens.length w.gates.length 0 = 0
  rw [stateI, if_neg (by decide), if_neg (by omega), if_neg (by omega)]
theorem moved_fine {f : Fr} (h : f.Fine) (m : Rat) : (f.moved m).Fine := by
  refine ⟨?_, h.2⟩
  have h1 := h.1
  simp only [List.mem_cons, List.not_mem_nil, or_false, forall_eq_or_imp, forall_eq] at h1 ⊢
  exact ⟨Q.of_good _, h1.2.1, h1.2.2⟩
theorem moved_le {f : Fr} (h : f.le 3) {m : Rat} (hm : rs m ≤ 100) : (f.moved m).le 200 := by
  obtain ⟨h1, h2⟩ := h
  simp only [V2.sz] at h1
  have a1 := rs_add f.at_.x.v m
  have a2 := f.at_.x.rs
  refine ⟨?_, by show f.turn.t.sz ≤ _; omega⟩
  show max (Q.of (f.at_.x.v + m)).sz f.at_.y.sz ≤ _
  rw [sz_of]; omega
theorem q_self {A : AE.Ari} (hA : A = AE.std) (q : Q) : A.band (A.bcmp .eql q.1 q.1) (A.band (A.scmp .eql q.2 q.2) (A.scmp .eql q.3 q.3)) = true := by
  have e : A.bcmp .eql q.1 q.1 = true := by rw [hA]; cases q.1 <;> rfl
  have e2 : A.band true true = true := by rw [hA]; rfl
  rw [c_seql hA, c_seql hA]
  simp only [e, e2, eq_self, decide_true]
set_option maxRecDepth 100000 in
set_option maxHeartbeats 0 in
theorem doneFirst_ok (l0 : List Int) (hl : l0.length < 2 ^ 40) (e0 : List (List AE.AV)) (he0 : e0 = lsAv numC l0) (ix by_ : Int) : AE.ACallG GG Tryz.prog 4 [] [.l 1 e0, .v (.int .i64 ix), .v (.int .i64 by_)] [] (.b true) := by
  refine AE.ACallG.of_walk (fn := Tryz.f4) (c := bodyOf Tryz.f4) GG_stays tabOK Tryz.func4 rfl rfl mixed fun A hA X => ?_
  obtain ⟨w, hw⟩ : ∃ w, w = worksM l0 := ⟨_, rfl⟩
  obtain ⟨s, hs⟩ : ∃ s, s = firstS w := ⟨_, rfl⟩
  have h0 : worksC w = 0 := by rw [hw]; exact worksM_ok l0
  have hle : w.Le := by rw [hw]; exact worksM_le l0
  have hok := worksC_zero h0
  have hsle : s.Le := by rw [hs]; exact firstS_le hle hok
  have hst : stateC w s = 0 := by rw [hs]; exact firstS_ok h0
  obtain ⟨va, hva⟩ : ∃ e, e = lsAv As.c s.arms := ⟨_, rfl⟩
  obtain ⟨vp, hvp⟩ : ∃ e, e = lsAv Fr.c s.parts := ⟨_, rfl⟩
  obtain ⟨vo, hvo⟩ : ∃ e, e = lsAv boolC s.opens := ⟨_, rfl⟩
  have hsp : ∀ f ∈ s.parts, f.le 3 ∧ f.Fine := fun f hf => by rw [hs, hw] at hf; exact first_parts hf
  have hsp2 : ∀ f ∈ s.parts, f.le (2 ^ 20) := fun f hf => by
    obtain ⟨⟨h1, h2⟩, _⟩ := hsp f hf
    exact ⟨by omega, by omega⟩
  have hpl : s.parts.length = w.parts.length := by rw [hs]; simp [firstS]
  have hws : ∀ q ∈ w.slots, q.frame.le 3 ∧ q.within.Small ∧ 0 < q.within.v ∧ q.frame.Fine := fun q hq => by rw [hw] at hq; exact wM_slot hq
  have hwp : ∀ p ∈ w.parts, (∀ c ∈ p.shape, c.sz ≤ 3) ∧ p.shape ≠ [] := fun p hp => by rw [hw] at hp; exact wM_part hp
  have hwl : w.parts.length ≤ w.slots.length := by rw [hw]; exact wM_len l0
  have kb := begunP_ok l0 hl e0 he0 w hw s hs va vp vo hva hvp hvo
  have hscw : ∀ x : Ss, x.tick = 0 → x.people = [] → ∀ b, b = lsAv Fr.c x.parts → ∀ a, a = lsAv As.c x.arms → ∀ o, o = lsAv boolC x.opens → x.c = [.v (.int .i64 0), .l 4 a, .l 10 b, .l 6 [], .l 1 o] := fun x h1 h2 b hb a ha o ho => by
    rw [Ss.c, ← hb, ← ha, ← ho, h2, lsAv_nil, h1]
  have hsc := hscw s (by rw [hs]; rfl) (by rw [hs]; rfl) vp hvp va hva vo hvo
  by_cases hnp : w.parts.length = 0
  · have k1 := doneIn_ok w hle s hsle hsp2 0 0 1 (by rw [doneI, hst, if_neg (by decide), if_pos (by omega)]) (fun h => absurd h (by decide)) hpl false rfl
    rw [hsc] at k1
    clear hscw hsc hw hs hle hok hsle hst hva hvp hvo hsp hsp2 hpl hws hwp hwl h0
    obtain ⟨arms, walls, parts, slots, gates, walk⟩ := w
    simp only at hnp
    obtain ⟨ea, hea⟩ : ∃ es, es = lsAv Ar.c arms := ⟨_, rfl⟩
    obtain ⟨ew, hew⟩ : ∃ es, es = lsAv wallC walls := ⟨_, rfl⟩
    obtain ⟨ep, hep⟩ : ∃ es, es = lsAv Pt.c parts := ⟨_, rfl⟩
    obtain ⟨es, hes⟩ : ∃ es, es = lsAv Sl.c slots := ⟨_, rfl⟩
    obtain ⟨eg, heg⟩ : ∃ es, es = lsAv Gt.c gates := ⟨_, rfl⟩
    simp only [Wk.c, ← hea, ← hew, ← hep, ← hes, ← heg] at k1 kb ⊢
    have c1 : A.cmp .eql (A.llen ep) 0 = true := by rw [AE.c_eql hA, llen hA, hep, lsAv_len, hnp]; rfl
    have c2 : A.cmp .eql 1 1 = true := by rw [AE.c_eql hA]; rfl
    have c3 : A.bnot true = false := by rw [AE.c_not hA]; rfl
    (repeat' (first | (refine X.go 500 _ _ ?_; cbv) | (first | refine X.splitT ?_ | refine X.splitF ?_ | refine X.split _ _ _ _ _ (fun hc => ?_) (fun hc => ?_)) | refine X.need _ _ _ trivial ?_ | refine X.callsGA [] kb ?_ | (refine X.isCall ?_; refine X.lendsG [7] k1 rfl ?_ (by cbv) ?_; focus (cbv <;> ((repeat' apply And.intro) <;> first | rfl | trivial))) | fail))
    all_goals (refine X.ret _ (X.done rfl ?_); cbv <;> ((repeat' apply And.intro) <;> first | exact c2 | rfl | trivial))
  obtain ⟨i, hi⟩ : ∃ i : Nat, i = (ix % (w.parts.length : Int)).toNat := ⟨_, rfl⟩
  have hi2 : ix % (w.parts.length : Int) = (i : Int) := by
    have := Int.emod_nonneg ix (b := (w.parts.length : Int)) (by omega)
    omega
  have hin : i < w.parts.length := by
    have := Int.emod_lt_of_pos ix (b := (w.parts.length : Int)) (by omega)
    omega
  have his : i < w.slots.length := by omega
  have hip : i < s.parts.length := by omega
  obtain ⟨f, hf⟩ : ∃ f, f = (slotAt w i).frame := ⟨_, rfl⟩
  have hfa : frAt s i = f := by rw [hf, hs]; exact first_frAt hin his
  have hsl := hws (slotAt w i) (by rw [slotAt, Int.toNat_natCast]; exact List.mem_of_getElem? (getD_some his _))
  have hpt := hwp (partAt w i) (by rw [partAt, Int.toNat_natCast]; exact List.mem_of_getElem? (getD_some hin _))
  have hdz : doneI (stateC w s) i w.parts.length i w.slots.length = 0 := by rw [doneI, hst, if_neg (by decide), if_neg (by omega)]
  have hz0 : (∀ c ∈ (partAt w i).shape, c.sz ≤ 2 ^ 20) ∧ (slotAt w i).frame.le (2 ^ 20) := ⟨fun c hc => Nat.le_trans (hpt.1 c hc) (by decide), ⟨Nat.le_trans hsl.1.1 (by decide), Nat.le_trans hsl.1.2 (by decide)⟩⟩
  have ho0 : offR (frAt s i) (slotAt w i).frame (partAt w i).shape = 0 := by rw [hfa, ← hf]; exact offR_same f _
  have hin0 : inB w s i i = true := by
    rw [inB, if_neg, ho0]
    · refine decide_eq_true (cmpR_le.2 (Rat.le_of_lt hsl.2.2.1))
    · rw [List.any_eq_true]
      rintro ⟨x, hx, h⟩
      rw [hs] at hx
      obtain ⟨a, _, rfl⟩ := List.mem_map.1 hx
      have := of_decide_eq_true h
      exact absurd this (by show ¬ (-1 : Int) = _; omega)
  obtain ⟨q0, hq0⟩ : ∃ q, q = Q.of 0 := ⟨_, rfl⟩
  have k1 := doneIn_ok w hle s hsle hsp2 i i 0 hdz.symm (fun _ => hz0) hpl true (by rw [if_neg (by decide)]; exact hin0.symm)
  have k2 := doneOff_ok w hle s hsle hsp2 i i 0 hdz.symm (fun _ => hz0) hpl q0 (by rw [if_neg (by decide), ho0]; exact hq0)
  obtain ⟨bb, hbb⟩ : ∃ b, b = (bestAt w s i w.slots.length).1 := ⟨_, rfl⟩
  obtain ⟨hbz, hbl⟩ := best_zero w s i i ho0 w.slots.length his
  have k3 := doneBest_ok w hle s hsle hsp2 i hst (by omega) (by omega) (fun h => by rw [h] at his; simp at his) hz0.1 (fun q hq => ⟨Nat.le_trans (hws q hq).1.1 (by decide), Nat.le_trans (hws q hq).1.2 (by decide)⟩) hpl bb q0 hbb (by rw [hbz]; exact hq0)
  rw [← hbb] at hbl
  have hq0s : q0.sz ≤ 1 := by rw [hq0, sz_of]; exact rs0
  have k4 := sign_ok q0 (by omega) 0 (by rw [hq0, Q.v_of]; decide +kernel)
  obtain ⟨u, hu⟩ : ∃ u : Int, u = by_ % 50 := ⟨_, rfl⟩
  have hu1 := Int.emod_nonneg by_ (b := 50) (by decide)
  have hu2 := Int.emod_lt_of_pos by_ (b := 50) (by decide)
  rw [← hu] at hu1 hu2
  obtain ⟨t, ht⟩ : ∃ t, t = Q.of (mkRat (1 + u) 100) := ⟨_, rfl⟩
  obtain ⟨m, hm⟩ : ∃ m, m = (slotAt w i).within.v + mkRat (1 + u) 100 := ⟨_, rfl⟩
  obtain ⟨mq, hmq⟩ : ∃ q, q = Q.of m := ⟨_, rfl⟩
  have hm0 : 0 < m := by
    rw [hm]
    have h1 := hsl.2.2.1
    have h2 : 0 < mkRat (1 + u) 100 := mk_pos (by decide) (by omega)
    have h3 : (slotAt w i).within.v ≤ (slotAt w i).within.v + mkRat (1 + u) 100 := by
      have := (Rat.add_le_add_left (c := (slotAt w i).within.v)).2 (Rat.le_of_lt h2)
      rwa [Rat.add_zero] at this
    rw [← Rat.not_le]; intro h4
    exact Rat.not_le.2 h1 (Rat.le_trans h3 h4)
  have hmw : (slotAt w i).within.v < m := by
    rw [hm, ← Rat.not_le]; intro h4
    have h2 : 0 < mkRat (1 + u) 100 := mk_pos (by decide) (by omega)
    have h5 : (slotAt w i).within.v + mkRat (1 + u) 100 ≤ (slotAt w i).within.v + 0 := by rw [Rat.add_zero]; exact h4
    exact Rat.not_le.2 h2 ((Rat.add_le_add_left).1 h5)
  have hts : rs (mkRat (1 + u) 100) ≤ 1 := rs_mk (by decide) (by omega) (by decide)
  have hws2 := hsl.2.1.sz
  have hms : rs m ≤ 20 := by
    rw [hm]
    have := rs_add (slotAt w i).within.v (mkRat (1 + u) 100)
    have := (slotAt w i).within.rs
    omega
  have k5 := makeBelow_ok by_ 50 (by decide) (by decide) u hu
  have k6 := fun x (hx : x = 1 + u) => makeOfE (x := x) (d := 100) hx rfl (by omega) (by decide) t ht
  have k7 := ratAdd_ok (slotAt w i).within t (by omega) (by rw [ht, sz_of]; omega) mq (by rw [hmq, hm, ht, Q.v_of])
  have k8 := makeBelow_ok ix w.parts.length (by omega) (by have := hok.nparts; omega) i hi2.symm
  obtain ⟨g, hg⟩ : ∃ g, g = f.moved m := ⟨_, rfl⟩
  have hfl := hsl.1
  rw [← hf] at hfl
  have k9 := ratAdd_ok f.at_.x mq (by have := hfl.1; simp only [V2.sz] at this; omega) (by rw [hmq, sz_of]; omega) g.at_.x (by rw [hg, hmq, Q.v_of]; rfl)
  obtain ⟨s2, hs2⟩ : ∃ x, x = s.shift i g := ⟨_, rfl⟩
  have hgl : g.le 200 := by rw [hg]; exact moved_le hfl (by omega)
  have hst2 : stateC w s2 = 0 := by rw [hs2]; exact stateC_shift hst i (by rw [hg]; exact moved_fine (by rw [hf]; exact hsl.2.2.2) m)
  have hs2p : ∀ x ∈ s2.parts, x.le (2 ^ 20) := fun x hx => by
    rw [hs2] at hx
    rcases List.mem_or_eq_of_mem_set hx with hx | rfl
    · exact hsp2 x hx
    · exact ⟨Nat.le_trans hgl.1 (by decide), Nat.le_trans hgl.2 (by decide)⟩
  have hs2le : s2.Le := by
    rw [hs2]
    refine ⟨hsle.arms, hsle.narms, fun x hx => ?_, by show (s.parts.set i g).length < _; rw [List.length_set]; exact hsle.nparts, hsle.people, hsle.npeople, hsle.nopens⟩
    have := hs2p x (by rw [hs2]; exact hx)
    exact ⟨Nat.le_trans this.1 (by decide), Nat.le_trans this.2 (by decide)⟩
  have hpl2 : s2.parts.length = w.parts.length := by rw [hs2]; show (s.parts.set i g).length = _; rw [List.length_set]; exact hpl
  have hfa2 : frAt s2 i = g := by
    rw [hs2, frAt, Int.toNat_natCast]
    show (s.parts.set i g).getD i _ = g
    rw [List.getD_eq_getElem?_getD, List.getElem?_set_self hip]; rfl
  have hdz2 : doneI (stateC w s2) i w.parts.length i w.slots.length = 0 := by rw [doneI, hst2, if_neg (by decide), if_neg (by omega)]
  have ho2 : offR (frAt s2 i) (slotAt w i).frame (partAt w i).shape = m := by rw [hfa2, ← hf, hg]; exact offR_moved f hm0 hpt.2
  have hin2 : inB w s2 i i = false := by
    rw [inB, ho2]
    split
    · rfl
    · exact decide_eq_false fun h => Rat.not_le.2 hmw (cmpR_le.1 h)
  have k10 := doneIn_ok w hle s2 hs2le hs2p i i 0 hdz2.symm (fun _ => hz0) hpl2 false (by rw [if_neg (by decide)]; exact hin2.symm)
  have k11 := doneOff_ok w hle s2 hs2le hs2p i i 0 hdz2.symm (fun _ => hz0) hpl2 mq (by rw [if_neg (by decide), ho2]; exact hmq)
  obtain ⟨vp2, hvp2⟩ : ∃ e, e = lsAv Fr.c s2.parts := ⟨_, rfl⟩
  have hsc2 := hscw s2 (by rw [hs2, hs]; rfl) (by rw [hs2, hs]; rfl) vp2 hvp2 va (by rw [hva, hs2]; rfl) vo (by rw [hvo, hs2]; rfl)
  have hgf : s.parts[i]? = some f := by
    rw [← hfa, frAt, Int.toNat_natCast]; exact getD_some hip _
  have hvf : vp[i]? = some f.c := by rw [hvp]; exact lsAv_get hgf
  obtain ⟨gx, hgx⟩ : ∃ x, x = g.at_.x := ⟨_, rfl⟩
  rw [← hgx] at k9
  have hset : vp.set i (gx.c ++ (f.at_.y.c ++ f.turn.c)) = vp2 := by
    have e := lsAv_set Fr.c s.parts i g
    rw [hvp2, hs2, hvp, hgx]
    refine Eq.trans ?_ e
    rw [hg]; rfl
  have hsw : w.slots[i]? = some (slotAt w i) := by rw [slotAt, Int.toNat_natCast]; exact getD_some his _
  obtain ⟨sl, hslw⟩ : ∃ x, x = slotAt w i := ⟨_, rfl⟩
  rw [← hslw] at hsw k7
  rw [hsc] at k1 k2 k3
  rw [hsc2] at k10 k11
  have lp : ∀ ep, ep = lsAv Pt.c w.parts → A.llen ep = (w.parts.length : Int) := fun ep h => by rw [llen hA, h, lsAv_len]
  obtain ⟨n, hn⟩ : ∃ n : Int, n = w.parts.length := ⟨_, rfl⟩
  have hn0 : ¬ n = 0 := by omega
  obtain ⟨z, hz⟩ : ∃ z : Int, z = i := ⟨_, rfl⟩
  rw [← hn] at k8
  simp only [← hz] at k1 k2 k3 k8 k10 k11 hbl
  have c3 : A.bnot true = false := by rw [AE.c_not hA]; rfl
  have c4 : A.bnot false = true := by rw [AE.c_not hA]; rfl
  have c5 : A.cmp .neq 0 0 = false := by rw [AE.c_neq hA]; rfl
  have c6 : A.cmp .eql 0 0 = true := by rw [AE.c_eql hA]; rfl
  have c7 : A.cmp .gtr bb z = false := by rw [AE.c_gtr hA]; exact decide_eq_false (by omega)
  have a1 : A.bin .add .i64 1 u = 1 + u := zadd hA rfl rfl (by omega)
  have k6 := k6 _ a1
  have c9 := q_self hA mq
  clear hscw hsc hsc2 hs hle hok hsle hst hva hvp hvo hsp hsp2 hpl hws hwp hwl h0 hw hi hi2 hin his hip hfa hsl hpt hdz hz0 ho0 hin0 hq0 hbb hbz hq0s hu1 hu2 hu ht hm hmq hm0 hmw hts hws2 hms hfl hs2 hgl hst2 hs2p hs2le hpl2 hfa2 hdz2 ho2 hin2 hgf hf hvp2 hbl hslw hnp
  obtain ⟨arms, walls, parts, slots, gates, walk⟩ := w
  simp only at lp hsw hn
  obtain ⟨ea, hea⟩ : ∃ es, es = lsAv Ar.c arms := ⟨_, rfl⟩
  obtain ⟨ew, hew⟩ : ∃ es, es = lsAv wallC walls := ⟨_, rfl⟩
  obtain ⟨ep, hep⟩ : ∃ es, es = lsAv Pt.c parts := ⟨_, rfl⟩
  obtain ⟨es, hes⟩ : ∃ es, es = lsAv Sl.c slots := ⟨_, rfl⟩
  obtain ⟨eg, heg⟩ : ∃ es, es = lsAv Gt.c gates := ⟨_, rfl⟩
  have lp1 := lp ep hep
  rw [← hn] at lp1
  have hesw : es[i]? = some sl.c := by rw [hes]; exact lsAv_get hsw
  simp only [Wk.c, ← hea, ← hew, ← hep, ← hes, ← heg] at kb k1 k2 k3 k10 k11 ⊢
  have c8 : A.cmp .eql (A.llen ep) 0 = false := by rw [AE.c_eql hA, lp1]; exact decide_eq_false hn0
  rw [← lp1] at k8
  clear hea hew hep hes heg lp hsw hn lp1 hn0
  (repeat' (first | (refine X.go 500 _ _ ?_; cbv) | (first | refine X.splitT ?_ | refine X.splitF ?_ | refine X.split _ _ _ _ _ (fun hc => ?_) (fun hc => ?_)) | refine X.need _ _ _ trivial ?_ | refine X.callsGA [] kb ?_ | refine X.callsA [] k8 ?_ | (refine X.isCall ?_; refine X.lendsG [7] k1 rfl ?_ (by cbv) ?_; focus (cbv <;> ((repeat' apply And.intro) <;> first | rfl | trivial))) | (refine X.isCall ?_; refine X.lendsG [7] k2 rfl ?_ (by cbv) ?_; focus (cbv <;> ((repeat' apply And.intro) <;> first | rfl | trivial))) | (refine X.isCall ?_; refine X.lendsG [7] k3 rfl ?_ (by cbv) ?_; focus (cbv <;> ((repeat' apply And.intro) <;> first | rfl | trivial))) | refine X.callsGA [] k4 ?_ | fail))
  apply shareG X
  · intro hs
    apply share8 X
    · intro y2q0 y2q1 y2q2 y2q3 y2q4 y2q5 y2q6 y2q7
      apply share8 X
      · intro y1q0 y1q1 y1q2 y1q3 y1q4 y1q5 y1q6 y1q7
        apply share8 X
        · intro y0q0 y0q1 y0q2 y0q3 y0q4 y0q5 y0q6 y0q7
          refine X.drawX _ _ _ (by kernel_rfl) (X.frzB 8 _ _ (Nat.zero_le _) ?_)
          (repeat' (first | (refine X.go 500 _ _ ?_; cbv) | (first | refine X.splitT ?_ | refine X.splitF ?_ | refine X.split _ _ _ _ _ (fun hc => ?_) (fun hc => ?_)) | refine X.need _ _ _ trivial ?_ | refine X.fork _ _ ?_ ?_ | refine X.idx _ _ _ _ _ _ _ _ hesw hz ?_ | fail))
          all_goals first | exact y0q0 | exact y0q1 | exact y0q2 | exact y0q3 | exact y0q4 | exact y0q5 | exact y0q6 | exact y0q7
        all_goals first | ((fail_if_success (apply X.needT)); refine X.calls [] k5 ?_ ?_ ?_ ?_; (focus (cbv; done)); (focus (cbv <;> ((repeat' apply And.intro) <;> first | rfl | trivial))); (focus (cbv; done)); (repeat' (first | (refine X.go 500 _ _ ?_; cbv) | (first | refine X.splitT ?_ | refine X.splitF ?_ | refine X.split _ _ _ _ _ (fun hc => ?_) (fun hc => ?_)) | refine X.need _ _ _ trivial ?_ | refine X.fork _ _ ?_ ?_ | refine X.idx _ _ _ _ _ _ _ _ hesw hz ?_ | fail)) <;> first | exact y1q0 | exact y1q1 | exact y1q2 | exact y1q3 | exact y1q4 | exact y1q5 | exact y1q6 | exact y1q7) | exact hs
      all_goals first | ((fail_if_success (apply X.needT)); refine X.calls [] k6 ?_ ?_ ?_ ?_; (focus (cbv; done)); (focus (cbv <;> ((repeat' apply And.intro) <;> first | rfl | trivial))); (focus (cbv; done)); (repeat' (first | (refine X.go 500 _ _ ?_; cbv) | (first | refine X.splitT ?_ | refine X.splitF ?_ | refine X.split _ _ _ _ _ (fun hc => ?_) (fun hc => ?_)) | refine X.need _ _ _ trivial ?_ | refine X.fork _ _ ?_ ?_ | refine X.idx _ _ _ _ _ _ _ _ hesw hz ?_ | fail)) <;> first | exact y2q0 | exact y2q1 | exact y2q2 | exact y2q3 | exact y2q4 | exact y2q5 | exact y2q6 | exact y2q7) | exact hs
    all_goals first | ((fail_if_success (apply X.needT)); refine X.callsG [] k7 ?_ ?_ ?_ ?_; (focus (cbv; done)); (focus (cbv <;> ((repeat' apply And.intro) <;> first | rfl | trivial))); (focus (cbv; done)); (repeat' (first | (refine X.go 500 _ _ ?_; cbv) | (first | refine X.splitT ?_ | refine X.splitF ?_ | refine X.split _ _ _ _ _ (fun hc => ?_) (fun hc => ?_)) | refine X.need _ _ _ trivial ?_ | refine X.fork _ _ ?_ ?_ | refine X.idx _ _ _ _ _ _ _ _ hesw hz ?_ | fail)) <;> first | exact hs) | exact hs
  (repeat' (first | (refine X.go 500 _ _ ?_; cbv) | (first | refine X.splitT ?_ | refine X.splitF ?_ | refine X.split _ _ _ _ _ (fun hc => ?_) (fun hc => ?_)) | refine X.need _ _ _ trivial ?_ | fail))
  apply shareG X
  · intro hs
    apply share8 X
    · intro y0q0 y0q1 y0q2 y0q3 y0q4 y0q5 y0q6 y0q7
      refine X.drawX _ _ _ (by kernel_rfl) (X.frzB 12 _ _ (Nat.zero_le _) ?_)
      (repeat' (first | (refine X.go 500 _ _ ?_; cbv) | (first | refine X.splitT ?_ | refine X.splitF ?_ | refine X.split _ _ _ _ _ (fun hc => ?_) (fun hc => ?_)) | refine X.need _ _ _ trivial ?_ | refine X.fork _ _ ?_ ?_ | refine X.idx _ _ _ _ _ _ _ _ hvf hz ?_ | refine X.ldq _ _ _ _ _ _ _ _ _ hvf ?_ | refine X.stq _ _ _ _ _ _ _ _ _ _ hvf ?_ | fail))
      all_goals first | exact y0q0 | exact y0q1 | exact y0q2 | exact y0q3 | exact y0q4 | exact y0q5 | exact y0q6 | exact y0q7
    all_goals first | ((fail_if_success (apply X.needT)); refine X.callsG [] k9 ?_ ?_ ?_ ?_; (focus (cbv; done)); (focus (cbv <;> ((repeat' apply And.intro) <;> first | rfl | trivial))); (focus (cbv; done)); (repeat' (first | (refine X.go 500 _ _ ?_; cbv) | (first | refine X.splitT ?_ | refine X.splitF ?_ | refine X.split _ _ _ _ _ (fun hc => ?_) (fun hc => ?_)) | refine X.need _ _ _ trivial ?_ | refine X.fork _ _ ?_ ?_ | refine X.idx _ _ _ _ _ _ _ _ hvf hz ?_ | refine X.ldq _ _ _ _ _ _ _ _ _ hvf ?_ | refine X.stq _ _ _ _ _ _ _ _ _ _ hvf ?_ | fail)) <;> first | exact hs) | exact hs
  have hset2 := hset
  cbv at hset2
  rw [hset2]
  (repeat' (first | (refine X.go 500 _ _ ?_; cbv) | (first | refine X.splitT ?_ | refine X.splitF ?_ | refine X.split _ _ _ _ _ (fun hc => ?_) (fun hc => ?_)) | refine X.need _ _ _ trivial ?_ | (refine X.isCall ?_; refine X.lendsG [7] k10 rfl ?_ (by cbv) ?_; focus (cbv <;> ((repeat' apply And.intro) <;> first | rfl | trivial))) | (refine X.isCall ?_; refine X.lendsG [7] k11 rfl ?_ (by cbv) ?_; focus (cbv <;> ((repeat' apply And.intro) <;> first | rfl | trivial))) | fail))
  all_goals (refine X.ret _ (X.done rfl ?_); cbv <;> ((repeat' apply And.intro) <;> first | exact c9 | rfl | trivial))
end Go.Proofs.YthadehkggddgoaaGreatDoor
