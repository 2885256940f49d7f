/- Contracts: slices.Equal of numbers, points, frames and truth values; world.Same, world.Moving, world.Copy as a value. Contract: the law WorksChecks. Contract: the law WorksChecks. Works of a small bulk: few elements, short encodings. States of a small bulk: what the contracts ask; the bulk of a first state. Contract: the law WorldChecks. -/
import Derived.Test.YthadehkggddgoaaGreatDoorZMoveO
import Derived.Test.YthadehkggddgoaaGreatDoorZFitS
import Derived.Test.YthadehkggddgoaaGreatDoorZPlain
import Derived.Test.YthadehkggddgoaaGreatDoorZFirst
import Derived.Test.YthadehkggddgoaaGreatDoorZFuncsB
import Derived.Test.YthadehkggddgoaaGreatDoorZRefB
import Derived.Test.YthadehkggddgoaaGreatDoorZInj
import Derived.Test.YthadehkggddgoaaGreatDoorZBegun
import Derived.Test.YthadehkggddgoaaGreatDoorZRState
section
set_option maxRecDepth 100000
set_option maxHeartbeats 0
set_option linter.unusedVariables false
set_option linter.unusedSimpArgs false
namespace Go.Proofs.YthadehkggddgoaaGreatDoor
open Go Go.Num
theorem eqsRat_ok (l m : List Q) (hl : l.length < 2 ^ 40) (hm : m.length < 2 ^ 40) (es et : List (List AE.AV)) (hes : es = lsAv Q.c l) (het : et = lsAv Q.c m) (r : Bool) (hr : r = decide (l = m)) : AE.ACall Tryz.prog 82 [] [.l 3 es, .l 3 et] [] (.b r) := by
  refine AE.ACall.of_walk (fn := Tryz.f82) (c := bodyOf Tryz.f82) tabOK Tryz.func82 rfl rfl mixed fun A hA X => ?_
  have h1 : A.llen es = (l.length : Int) := by rw [llen hA, hes, lsAv_len]
  have h2 : A.llen et = (m.length : Int) := by rw [llen hA, het, lsAv_len]
  by_cases hlm : l.length = m.length
  · have c1 : A.cmp .neq (A.llen es) (A.llen et) = false := by rw [AE.c_neq hA, h1, h2, hlm]; simp
    (repeat' (first | (refine X.g ?_; cbv) | refine X.splitT ?_ | refine X.splitF ?_ | refine X.sp (fun hc => ?_) (fun hc => ?_) | refine X.needT ?_ | fail))
    refine rangeL0 X hA hes (by omega) (fun i => l.take i = m.take i) (fun z _ => [(13, .v (.int .i64 z))]) rfl ?_ (fun i z y hz hy hey c3 hI B hB => ?_) (fun z c3 hI B => ?_)
    · (cbv <;> (and_intros <;> first | rfl | trivial))
    · have hi : i < l.length := (List.getElem?_eq_some_iff.1 hy).1
      obtain ⟨u, hu⟩ : ∃ x, m[i]? = some x := ⟨_, List.getElem?_eq_getElem (by omega)⟩
      have heu : et[i]? = some (Q.c u) := by rw [het]; exact lsAv_get hu
      have hq : A.bnot (A.band (A.bcmp .eql y.1 u.1) (A.band (A.scmp .eql y.2 u.2) (A.scmp .eql y.3 u.3))) = !decide (y = u) := by rw [AE.c_not hA]; exact congrArg _ (eqQ_eq hA y u)
      by_cases h : y = u
      · rw [decide_eq_true h] at hq
        have hq : A.bnot (A.band (A.bcmp .eql y.1 u.1) (A.band (A.scmp .eql y.2 u.2) (A.scmp .eql y.3 u.3))) = false := hq
        have hI' : l.take (i + 1) = m.take (i + 1) := by rw [take_snoc hy, take_snoc hu, hI, h]
        (repeat' (first | (refine X.g ?_; cbv) | refine X.splitT ?_ | refine X.splitF ?_ | refine X.sp (fun hc => ?_) (fun hc => ?_) | refine X.needT ?_ | refine X.drawX _ _ _ (by kernel_rfl) ?_ | refine X.fork _ _ ?_ ?_ | refine X.idx _ _ _ _ _ _ _ _ hey hz ?_ | refine X.idx _ _ _ _ _ _ _ _ heu hz ?_ | fail))
        all_goals (refine hB hI' _ ?_; clear hB; (cbv <;> (and_intros <;> first | rfl | trivial)))
      · rw [decide_eq_false h] at hq
        have hq : A.bnot (A.band (A.bcmp .eql y.1 u.1) (A.band (A.scmp .eql y.2 u.2) (A.scmp .eql y.3 u.3))) = true := hq
        have e1 : false = r := by
          rw [hr]; symm; apply decide_eq_false
          intro e; subst e; rw [hy] at hu; exact h (Option.some.inj hu)
        clear hB
        (repeat' (first | (refine X.g ?_; cbv) | refine X.splitT ?_ | refine X.splitF ?_ | refine X.sp (fun hc => ?_) (fun hc => ?_) | refine X.needT ?_ | refine X.drawX _ _ _ (by kernel_rfl) ?_ | refine X.fork _ _ ?_ ?_ | refine X.idx _ _ _ _ _ _ _ _ hey hz ?_ | refine X.idx _ _ _ _ _ _ _ _ heu hz ?_ | fail))
        all_goals (refine X.ret _ (X.done rfl ?_); cbv <;> (and_intros <;> first | exact e1 | rfl | trivial))
    · have e1 : true = r := by
        rw [hr]; symm; apply decide_eq_true
        rw [List.take_length, hlm, List.take_length] at hI; exact hI
      (repeat' (first | (refine X.g ?_; cbv) | refine X.splitT ?_ | refine X.splitF ?_ | refine X.sp (fun hc => ?_) (fun hc => ?_) | refine X.needT ?_ | fail))
      all_goals (refine X.ret _ (X.done rfl ?_); cbv <;> (and_intros <;> first | exact e1 | rfl | trivial))
  · have c1 : A.cmp .neq (A.llen es) (A.llen et) = true := by rw [AE.c_neq hA, h1, h2]; simp; omega
    have e1 : false = r := by rw [hr]; symm; apply decide_eq_false; intro e; exact hlm (by rw [e])
    (repeat' (first | (refine X.g ?_; cbv) | refine X.splitT ?_ | refine X.splitF ?_ | refine X.sp (fun hc => ?_) (fun hc => ?_) | refine X.needT ?_ | fail))
    all_goals (refine X.ret _ (X.done rfl ?_); cbv <;> (and_intros <;> first | exact e1 | rfl | trivial))
def Ss.Short (s : Ss) : Prop := s.arms.length < 2 ^ 40 ∧ (∀ y ∈ s.arms, y.q.length < 2 ^ 40 ∧ y.v.length < 2 ^ 40) ∧ s.parts.length < 2 ^ 40 ∧ s.people.length < 2 ^ 40 ∧ s.opens.length < 2 ^ 40
theorem Ss.Few.short {s : Ss} (h : s.Few) : s.Short := by
  obtain ⟨⟨h1, h2⟩, h3, h4, h5⟩ := h
  refine ⟨by omega, fun y hy => ?_, by omega, by omega, by omega⟩
  obtain ⟨a, b⟩ := h2 y hy
  exact ⟨by omega, by omega⟩
end Go.Proofs.YthadehkggddgoaaGreatDoor
end
section
section
section
section
set_option maxRecDepth 100000
set_option maxHeartbeats 0
section
set_option linter.unusedVariables false
set_option linter.unusedSimpArgs false
namespace Go.Proofs.YthadehkggddgoaaGreatDoor
open Go Go.Num
theorem plain_ok (w : Wk) (s : Ss) (hw : w = works0) (hs : s = firstS works0) : AE.ACallG GG Tryz.prog 115 [] [] [] (.t [.a w.c, .a s.c]) := by
  refine AE.ACallG.of_walk (fn := Tryz.f115) (c := bodyOf Tryz.f115) GG_stays tabOK Tryz.func115 rfl rfl mixed fun A hA X => ?_
  have k1 := makeWorks0_ok w hw
  have k2 := refFirst_ok w (by
    rw [hw]; intro a ha
    have h : a = arm0 := by simpa [works0] using ha
    subst h
    rw [arm0_eq]
    refine ⟨by decide, fun k hk => ?_⟩
    have h2 : k = link0 := by simpa using hk
    subst h2
    obtain ⟨_, h3, h4, _⟩ := link0_le
    exact ⟨by omega, by omega⟩) (by rw [hw]; exact ⟨by decide, by decide, by decide, by decide⟩) s (by rw [hs, hw])
  (repeat' (first | (refine X.g ?_; cbv) | refine X.splitT ?_ | refine X.splitF ?_ | refine X.sp (fun hc => ?_) (fun hc => ?_) | refine X.needT ?_ | refine X.callsA [] k1 ?_ | refine X.callsGA [] k2 ?_ | refine X.drawX _ _ _ (by kernel_rfl) (X.frzB 2 _ _ (Nat.zero_le _) ?_) | fail))
  all_goals (refine X.ret _ (X.done rfl ?_); cbv <;> (and_intros <;> first | rfl | trivial))
end Go.Proofs.YthadehkggddgoaaGreatDoor
end
section
set_option linter.unusedVariables false
set_option linter.unusedSimpArgs false
namespace Go.Proofs.YthadehkggddgoaaGreatDoor
open Go Go.Num
end Go.Proofs.YthadehkggddgoaaGreatDoor
end
end
section
set_option linter.unusedVariables false
set_option linter.unusedSimpArgs false
namespace Go.Proofs.YthadehkggddgoaaGreatDoor
open Go
theorem Wk.few_wt (w : Wk) {n : Nat} (h : w.wt ≤ n) (hn : n ≤ 2 ^ 28) : w.Few := by
  obtain ⟨h1, h2, h3, h4, h5, h6⟩ := w.parts_wt h
  have := lw_len Ar.wt1 w.arms; have := lw_len (lw1 V2.wt) w.walls; have := lw_len Pt.wt1 w.parts; have := lw_len Sl.wt1 w.slots; have := lw_len Gt.wt1 w.gates
  refine ⟨by omega, fun a ha => ?_, ⟨by omega, fun l hl => ?_⟩, ⟨by omega, fun p hp => ?_⟩, by omega, by omega⟩
  · have h7 := lw_mem (ρ := Ar.wt) ha
    simp only [Ar.wt] at h7
    have := lw_len Lk.wt1 a.links
    refine ⟨by omega, fun k hk => ?_⟩
    have h8 := lw_mem (ρ := Lk.wt) hk
    simp only [Lk.wt] at h8
    have := lw_len V2.wt1 k.shape
    omega
  · have h7 := lw_mem (ρ := lw V2.wt) hl
    have := lw_len V2.wt1 l
    omega
  · have h7 := lw_mem (ρ := Pt.wt) hp
    simp only [Pt.wt] at h7
    have := lw_len V2.wt1 p.shape
    omega
theorem Wk.Few.low {w : Wk} (h : w.Few) : w.Low := by
  have h1 := h.arms; have h2 := h.slots; have h3 := h.gates
  obtain ⟨h4, h5⟩ := h.walls
  obtain ⟨h6, h7⟩ := h.parts
  refine ⟨by omega, fun a ha => ?_, ⟨by omega, fun l hl => ?_⟩, ⟨by omega, fun p hp => ?_⟩, by omega, by omega⟩
  · obtain ⟨h8, h9⟩ := h.links a ha
    exact ⟨by omega, fun k hk => by have := h9 k hk; omega⟩
  · have := h5 l hl; omega
  · have := h7 p hp; omega
theorem app_sz (a b : ByteArray) : (a ++ b).size = a.size + b.size := ByteArray.size_append
theorem textS_size (s : ByteArray) : (textS s).size ≤ 10 + s.size := by
  have := natS_size s.size
  rw [textS, app_sz]; omega
theorem Q.S_size (q : Q) : q.S.size ≤ 32 * q.wt := by
  have := textS_size q.num; have := textS_size q.den
  rw [Q.S, app_sz, app_sz, boolS_size, Q.wt]; omega
theorem V2.S_size (p : V2) : p.S.size ≤ 32 * p.wt := by
  have := p.x.S_size; have := p.y.S_size
  rw [V2.S, app_sz, V2.wt]; omega
theorem Fr.S_size (p : Fr) : p.S.size ≤ 33 * p.wt := by
  have := p.at_.S_size; have := p.turn.t.S_size; have := p.turn.t.wt1
  rw [Fr.S, app_sz, app_sz, boolS_size, Fr.wt, Tn.wt]; omega
theorem fold_size {α : Type} {f : α → ByteArray} {ρ : α → Nat} (h : ∀ a, (f a).size ≤ 64 * ρ a) : ∀ (l : List α) (b : ByteArray), (l.foldl (fun acc x => acc ++ f x) b).size ≤ b.size + 64 * (l.map ρ).sum
  | [], b => by simp
  | x :: l, b => by
    have h1 := fold_size h l (b ++ f x)
    have h2 := h x
    rw [app_sz] at h1
    simp only [List.foldl_cons, List.map_cons, List.sum_cons]
    omega
theorem lsS_size {α : Type} {f : α → ByteArray} {ρ : α → Nat} (h : ∀ a, (f a).size ≤ 64 * ρ a) (l : List α) : (lsS f l).size ≤ 64 * lw ρ l := by
  have h1 := fold_size h (l.take l.length) (natS l.length)
  have h2 := natS_size l.length
  rw [lsS, upS, lw]
  rw [List.take_length] at h1 ⊢
  omega
theorem V2.S_size' (p : V2) : p.S.size ≤ 64 * p.wt := by have := p.S_size; omega
theorem Lk.S_size (p : Lk) : p.S.size ≤ 64 * p.wt := by
  have := p.length.S_size; have := p.low.S_size; have := p.high.S_size; have := p.speed.S_size; have := p.brake.S_size
  have := lsS_size V2.S_size' p.shape
  rw [Lk.S, app_sz, app_sz, app_sz, app_sz, app_sz, Lk.wt]; omega
theorem Ar.S_size (p : Ar) : p.S.size ≤ 64 * p.wt := by
  have := textS_size p.name; have := p.base.S_size; have := lsS_size Lk.S_size p.links; have := p.base.wt1
  rw [Ar.S, app_sz, app_sz, Ar.wt]; omega
theorem Pt.S_size (p : Pt) : p.S.size ≤ 64 * p.wt := by
  have := textS_size p.name; have := p.grasp.S_size; have := lsS_size V2.S_size' p.shape; have := p.grasp.wt1
  rw [Pt.S, app_sz, app_sz, Pt.wt]; omega
theorem Sl.S_size (p : Sl) : p.S.size ≤ 64 * p.wt := by
  have := textS_size p.name; have := p.frame.S_size; have := p.within.S_size; have := p.frame.wt1
  rw [Sl.S, app_sz, app_sz, Sl.wt]; omega
theorem Gt.S_size (p : Gt) : p.S.size ≤ 64 * p.wt := by
  have := textS_size p.name; have := p.zone.low.S_size; have := p.zone.high.S_size; have := p.zone.low.wt1
  rw [Gt.S, app_sz, app_sz, Gt.wt, Bx.wt]; omega
theorem Wk.S_size (w : Wk) : w.S.size ≤ 64 * w.wt + 2 := by
  have := lsS_size Ar.S_size w.arms; have := lsS_size (f := fun l => lsS V2.S l) (lsS_size V2.S_size') w.walls; have := lsS_size Pt.S_size w.parts; have := lsS_size Sl.S_size w.slots; have := lsS_size Gt.S_size w.gates
  rw [Wk.S, app_sz, app_sz, app_sz, app_sz, app_sz, Wk.wt]
  have : (⟨⟨[71, 49]⟩⟩ : ByteArray).size = 2 := rfl
  omega
end Go.Proofs.YthadehkggddgoaaGreatDoor
end
end
section
set_option linter.unusedVariables false
set_option linter.unusedSimpArgs false
namespace Go.Proofs.YthadehkggddgoaaGreatDoor
open Go Go.Num
theorem Ss.few_wt (s : Ss) {n : Nat} (h : s.wt ≤ n) (hn : n ≤ 2 ^ 28) : s.Few := by
  obtain ⟨h1, h2, h3, h4⟩ := s.parts_wt h
  have := lw_len As.wt1 s.arms; have := lw_len Fr.wt1 s.parts; have := lw_len V2.wt1 s.people; have := lw_len (ρ := fun _ : Bool => 1) (fun _ => Nat.le_refl _) s.opens
  refine ⟨⟨by omega, fun x hx => ?_⟩, by omega, by omega, by omega⟩
  have h5 := lw_mem (ρ := As.wt) hx
  obtain ⟨_, g1, g2⟩ := x.le_wt (n := n) (by omega) hn
  omega
theorem Q.few_wt (q : Q) {n : Nat} (h : q.wt ≤ n) (hn : n ≤ 2 ^ 55) : q.few := by
  simp only [Q.wt] at h; exact ⟨by omega, by omega⟩
theorem Ss.fewI_wt (s : Ss) {n : Nat} (h : s.wt ≤ n) (hn : n ≤ 2 ^ 55) (hi : s.ints) : s.few := by
  obtain ⟨ht, hh⟩ := hi
  obtain ⟨h1, h2, h3, h4⟩ := s.parts_wt h
  have := lw_len As.wt1 s.arms; have := lw_len Fr.wt1 s.parts; have := lw_len V2.wt1 s.people; have := lw_len (ρ := fun _ : Bool => 1) (fun _ => Nat.le_refl _) s.opens
  refine ⟨ht, ⟨by omega, fun x hx => ?_⟩, ⟨by omega, fun f hf => ?_⟩, ⟨by omega, fun p hp => ?_⟩, ⟨by omega, fun _ _ => trivial⟩⟩
  · have h5 := lw_mem (ρ := As.wt) hx
    simp only [As.wt] at h5
    have := lw_len Q.wt1 x.q; have := lw_len Q.wt1 x.v
    refine ⟨⟨by omega, fun q hq => ?_⟩, ⟨by omega, fun q hq => ?_⟩, hh x hx⟩
    · have := lw_mem (ρ := Q.wt) hq; exact q.few_wt (n := n) (by omega) hn
    · have := lw_mem (ρ := Q.wt) hq; exact q.few_wt (n := n) (by omega) hn
  · have h5 := lw_mem (ρ := Fr.wt) hf
    simp only [Fr.wt, V2.wt, Tn.wt] at h5
    exact ⟨⟨f.at_.x.few_wt (n := n) (by omega) hn, f.at_.y.few_wt (n := n) (by omega) hn⟩, f.turn.t.few_wt (n := n) (by omega) hn⟩
  · have h5 := lw_mem (ρ := V2.wt) hp
    simp only [V2.wt] at h5
    exact ⟨p.x.few_wt (n := n) (by omega) hn, p.y.few_wt (n := n) (by omega) hn⟩
theorem As.S_size (p : As) : p.S.size ≤ 64 * (p.wt + 1) := by
  have h1 := lsS_size (ρ := Q.wt) (f := Q.S) (fun q => by have := q.S_size; omega) p.q
  have h2 := lsS_size (ρ := Q.wt) (f := Q.S) (fun q => by have := q.S_size; omega) p.v
  have h3 := boolS_size p.power
  have h4 := natS_size (p.holds + 1)
  simp only [As.S, app_sz, As.wt]; omega
theorem Ss.S_size (s : Ss) : s.S.size ≤ 128 * (s.wt + 1) := by
  have h1 := lsS_size (ρ := fun x : As => 2 * x.wt) (f := As.S) (fun x => by have := x.S_size; have := x.wt1; omega) s.arms
  have h2 := lsS_size (ρ := Fr.wt) (f := Fr.S) (fun x => by have := x.S_size; omega) s.parts
  have h3 := lsS_size (ρ := V2.wt) (f := V2.S) (fun x => x.S_size') s.people
  have h4 := lsS_size (ρ := fun _ : Bool => 1) (f := boolS) (fun x => by have := boolS_size x; omega) s.opens
  have h5 := natS_size s.tick
  have h6 : lw (fun x : As => 2 * x.wt) s.arms ≤ 2 * lw As.wt s.arms := by
    simp only [lw]
    have : ∀ l : List As, (l.map fun x => 2 * x.wt).sum = 2 * (l.map As.wt).sum := by
      intro l
      induction l with
      | nil => rfl
      | cons a l ih => simp only [List.map_cons, List.sum_cons, ih]; omega
    rw [this]; omega
  simp only [Ss.S, app_sz, Ss.wt]; omega
end Go.Proofs.YthadehkggddgoaaGreatDoor
end
end
section
set_option maxRecDepth 100000
set_option maxHeartbeats 0
set_option linter.unusedVariables false
set_option linter.unusedSimpArgs false
namespace Go.Proofs.YthadehkggddgoaaGreatDoor
open Go Go.Num
theorem nil_short : Ss.nil.Short := ⟨by decide, (fun y hy => by cases hy), by decide, by decide, by decide⟩
theorem sameState_ok (a b : Ss) (ha : a.Short) (hb : b.Short) (fa : a.few) (fb : b.few) (sa : a.S.size < 2 ^ 60) (sb : b.S.size < 2 ^ 60) (r : Bool) (hr : r = decide (a = b)) : AE.ACallG GG Tryz.prog 46 [] [.a a.c, .a b.c] [] (.b r) := by
  obtain ⟨s1, hs1⟩ : ∃ s, s = a.S := ⟨_, rfl⟩
  obtain ⟨s2, hs2⟩ : ∃ s, s = b.S := ⟨_, rfl⟩
  have k1 := refBytes_ok a ha s1 hs1 (by rw [hs1]; exact sa)
  have k2 := refBytes_ok b hb s2 hs2 (by rw [hs2]; exact sb)
  have e0 : decide (s1 = s2) = r := by
    rw [hr, hs1, hs2, decide_eq_decide]
    exact ⟨fun h => Ss.S_inj fa fb h, fun h => by rw [h]⟩
  clear hs1 hs2 hr
  obtain ⟨t1, x1, f1, p1, o1⟩ := a
  obtain ⟨t2, x2, f2, p2, o2⟩ := b
  obtain ⟨ex1, hx1⟩ : ∃ es, es = lsAv As.c x1 := ⟨_, rfl⟩
  obtain ⟨ex2, hx2⟩ : ∃ es, es = lsAv As.c x2 := ⟨_, rfl⟩
  obtain ⟨ef1, hf1⟩ : ∃ es, es = lsAv Fr.c f1 := ⟨_, rfl⟩
  obtain ⟨ef2, hf2⟩ : ∃ es, es = lsAv Fr.c f2 := ⟨_, rfl⟩
  obtain ⟨ev1, hv1⟩ : ∃ es, es = lsAv V2.c p1 := ⟨_, rfl⟩
  obtain ⟨ev2, hv2⟩ : ∃ es, es = lsAv V2.c p2 := ⟨_, rfl⟩
  obtain ⟨eo1, ho1⟩ : ∃ es, es = lsAv boolC o1 := ⟨_, rfl⟩
  obtain ⟨eo2, ho2⟩ : ∃ es, es = lsAv boolC o2 := ⟨_, rfl⟩
  simp only [Ss.c, ← hx1, ← hx2, ← hf1, ← hf2, ← hv1, ← hv2, ← ho1, ← ho2] at k1 k2 ⊢
  clear ha hb fa fb sa sb hx1 hx2 hf1 hf2 hv1 hv2 ho1 ho2
  refine AE.ACallG.of_walk (fn := Tryz.f46) (c := bodyOf Tryz.f46) GG_stays tabOK Tryz.func46 rfl rfl mixed fun A hA X => ?_
  have e1 : A.scmp .eql s1 s2 = r := by rw [c_seql hA]; exact e0
  (repeat' (first | (refine X.g ?_; cbv) | refine X.splitT ?_ | refine X.splitF ?_ | refine X.sp (fun hc => ?_) (fun hc => ?_) | refine X.needT ?_ | refine X.drawX _ _ _ (by kernel_rfl) (X.frzB 0 _ _ (Nat.zero_le _) (X.frzB 1 _ _ (Nat.zero_le _) ?_)) | refine X.fork _ _ ?_ ?_ | refine X.callsA [] k1 ?_ | refine X.callsA [] k2 ?_ | fail))
  all_goals (refine X.ret _ (X.done rfl ?_); cbv <;> (and_intros <;> first | exact e1 | rfl | trivial))
structure Ss.Fit (s : Ss) : Prop where
  le : s.Le
  Few : s.Few
  few : s.few
  size : s.S.size < 2 ^ 60
end Go.Proofs.YthadehkggddgoaaGreatDoor
end
end
