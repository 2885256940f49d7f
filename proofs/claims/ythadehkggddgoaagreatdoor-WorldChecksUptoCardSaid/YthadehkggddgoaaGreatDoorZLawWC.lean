/- Contract: the law WorksChecks. Contract: the law WorksChecks. Works of a small bulk: few elements, short encodings. States of a small bulk: what the contracts ask; the bulk of a first state. Contract: the law WorldChecks. -/
import Derived.Test.YthadehkggddgoaaGreatDoorZPlain
import Derived.Test.YthadehkggddgoaaGreatDoorZFirst
import Derived.Test.YthadehkggddgoaaGreatDoorZFuncsB
import Derived.Test.YthadehkggddgoaaGreatDoorZRefB
import Derived.Test.YthadehkggddgoaaGreatDoorZInj
import Derived.Test.YthadehkggddgoaaGreatDoorZFitS
import Derived.Test.YthadehkggddgoaaGreatDoorZMoveO
import Derived.Test.YthadehkggddgoaaGreatDoorZBegun
import Derived.Test.YthadehkggddgoaaGreatDoorZRState
import Derived.Test.YthadehkggddgoaaGreatDoorZSame
section
section
section
set_option maxRecDepth 100000
set_option maxHeartbeats 0
section
set_option linter.unusedVariables false
set_option linter.unusedSimpArgs false
namespace Go.Proofs.YthadehkggddgoaaGreatDoor
open Go Go.Num
theorem plain_ok (w : Wk) (s : Ss) (hw : w = works0) (hs : s = firstS works0) : AE.ACallG GG Tryz.prog 115 [] [] [] (.t [.a w.c, .a s.c]) := by
  refine AE.ACallG.of_walk (fn := Tryz.f115) (c := bodyOf Tryz.f115) GG_stays tabOK Tryz.func115 rfl rfl mixed fun A hA X => ?_
  have k1 := makeWorks0_ok w hw
  have k2 := refFirst_ok w (by
    rw [hw]; intro a ha
    have h : a = arm0 := by simpa [works0] using ha
    subst h
    rw [arm0_eq]
    refine ⟨by decide, fun k hk => ?_⟩
    have h2 : k = link0 := by simpa using hk
    subst h2
    obtain ⟨_, h3, h4, _⟩ := link0_le
    exact ⟨by omega, by omega⟩) (by rw [hw]; exact ⟨by decide, by decide, by decide, by decide⟩) s (by rw [hs, hw])
  (repeat' (first | (refine X.g ?_; cbv) | refine X.splitT ?_ | refine X.splitF ?_ | refine X.sp (fun hc => ?_) (fun hc => ?_) | refine X.needT ?_ | refine X.callsA [] k1 ?_ | refine X.callsGA [] k2 ?_ | refine X.drawX _ _ _ (by kernel_rfl) (X.frzB 2 _ _ (Nat.zero_le _) ?_) | fail))
  all_goals (refine X.ret _ (X.done rfl ?_); cbv <;> (and_intros <;> first | rfl | trivial))
end Go.Proofs.YthadehkggddgoaaGreatDoor
end
section
set_option linter.unusedVariables false
set_option linter.unusedSimpArgs false
namespace Go.Proofs.YthadehkggddgoaaGreatDoor
open Go Go.Num
end Go.Proofs.YthadehkggddgoaaGreatDoor
end
end
section
set_option linter.unusedVariables false
set_option linter.unusedSimpArgs false
namespace Go.Proofs.YthadehkggddgoaaGreatDoor
open Go
theorem Wk.few_wt (w : Wk) {n : Nat} (h : w.wt ≤ n) (hn : n ≤ 2 ^ 28) : w.Few := by
  obtain ⟨h1, h2, h3, h4, h5, h6⟩ := w.parts_wt h
  have := lw_len Ar.wt1 w.arms; have := lw_len (lw1 V2.wt) w.walls; have := lw_len Pt.wt1 w.parts; have := lw_len Sl.wt1 w.slots; have := lw_len Gt.wt1 w.gates
  refine ⟨by omega, fun a ha => ?_, ⟨by omega, fun l hl => ?_⟩, ⟨by omega, fun p hp => ?_⟩, by omega, by omega⟩
  · have h7 := lw_mem (ρ := Ar.wt) ha
    simp only [Ar.wt] at h7
    have := lw_len Lk.wt1 a.links
    refine ⟨by omega, fun k hk => ?_⟩
    have h8 := lw_mem (ρ := Lk.wt) hk
    simp only [Lk.wt] at h8
    have := lw_len V2.wt1 k.shape
    omega
  · have h7 := lw_mem (ρ := lw V2.wt) hl
    have := lw_len V2.wt1 l
    omega
  · have h7 := lw_mem (ρ := Pt.wt) hp
    simp only [Pt.wt] at h7
    have := lw_len V2.wt1 p.shape
    omega
theorem Wk.Few.low {w : Wk} (h : w.Few) : w.Low := by
  have h1 := h.arms; have h2 := h.slots; have h3 := h.gates
  obtain ⟨h4, h5⟩ := h.walls
  obtain ⟨h6, h7⟩ := h.parts
  refine ⟨by omega, fun a ha => ?_, ⟨by omega, fun l hl => ?_⟩, ⟨by omega, fun p hp => ?_⟩, by omega, by omega⟩
  · obtain ⟨h8, h9⟩ := h.links a ha
    exact ⟨by omega, fun k hk => by have := h9 k hk; omega⟩
  · have := h5 l hl; omega
  · have := h7 p hp; omega
theorem app_sz (a b : ByteArray) : (a ++ b).size = a.size + b.size := ByteArray.size_append
theorem textS_size (s : ByteArray) : (textS s).size ≤ 10 + s.size := by
  have := natS_size s.size
  rw [textS, app_sz]; omega
theorem Q.S_size (q : Q) : q.S.size ≤ 32 * q.wt := by
  have := textS_size q.num; have := textS_size q.den
  rw [Q.S, app_sz, app_sz, boolS_size, Q.wt]; omega
theorem V2.S_size (p : V2) : p.S.size ≤ 32 * p.wt := by
  have := p.x.S_size; have := p.y.S_size
  rw [V2.S, app_sz, V2.wt]; omega
theorem Fr.S_size (p : Fr) : p.S.size ≤ 33 * p.wt := by
  have := p.at_.S_size; have := p.turn.t.S_size; have := p.turn.t.wt1
  rw [Fr.S, app_sz, app_sz, boolS_size, Fr.wt, Tn.wt]; omega
theorem fold_size {α : Type} {f : α → ByteArray} {ρ : α → Nat} (h : ∀ a, (f a).size ≤ 64 * ρ a) : ∀ (l : List α) (b : ByteArray), (l.foldl (fun acc x => acc ++ f x) b).size ≤ b.size + 64 * (l.map ρ).sum
  | [], b => by simp
  | x :: l, b => by
    have h1 := fold_size h l (b ++ f x)
    have h2 := h x
    rw [app_sz] at h1
    simp only [List.foldl_cons, List.map_cons, List.sum_cons]
    omega
theorem lsS_size {α : Type} {f : α → ByteArray} {ρ : α → Nat} (h : ∀ a, (f a).size ≤ 64 * ρ a) (l : List α) : (lsS f l).size ≤ 64 * lw ρ l := by
  have h1 := fold_size h (l.take l.length) (natS l.length)
  have h2 := natS_size l.length
  rw [lsS, upS, lw]
  rw [List.take_length] at h1 ⊢
  omega
theorem V2.S_size' (p : V2) : p.S.size ≤ 64 * p.wt := by have := p.S_size; omega
theorem Lk.S_size (p : Lk) : p.S.size ≤ 64 * p.wt := by
  have := p.length.S_size; have := p.low.S_size; have := p.high.S_size; have := p.speed.S_size; have := p.brake.S_size
  have := lsS_size V2.S_size' p.shape
  rw [Lk.S, app_sz, app_sz, app_sz, app_sz, app_sz, Lk.wt]; omega
theorem Ar.S_size (p : Ar) : p.S.size ≤ 64 * p.wt := by
  have := textS_size p.name; have := p.base.S_size; have := lsS_size Lk.S_size p.links; have := p.base.wt1
  rw [Ar.S, app_sz, app_sz, Ar.wt]; omega
theorem Pt.S_size (p : Pt) : p.S.size ≤ 64 * p.wt := by
  have := textS_size p.name; have := p.grasp.S_size; have := lsS_size V2.S_size' p.shape; have := p.grasp.wt1
  rw [Pt.S, app_sz, app_sz, Pt.wt]; omega
theorem Sl.S_size (p : Sl) : p.S.size ≤ 64 * p.wt := by
  have := textS_size p.name; have := p.frame.S_size; have := p.within.S_size; have := p.frame.wt1
  rw [Sl.S, app_sz, app_sz, Sl.wt]; omega
theorem Gt.S_size (p : Gt) : p.S.size ≤ 64 * p.wt := by
  have := textS_size p.name; have := p.zone.low.S_size; have := p.zone.high.S_size; have := p.zone.low.wt1
  rw [Gt.S, app_sz, app_sz, Gt.wt, Bx.wt]; omega
theorem Wk.S_size (w : Wk) : w.S.size ≤ 64 * w.wt + 2 := by
  have := lsS_size Ar.S_size w.arms; have := lsS_size (f := fun l => lsS V2.S l) (lsS_size V2.S_size') w.walls; have := lsS_size Pt.S_size w.parts; have := lsS_size Sl.S_size w.slots; have := lsS_size Gt.S_size w.gates
  rw [Wk.S, app_sz, app_sz, app_sz, app_sz, app_sz, Wk.wt]
  have : (⟨⟨[71, 49]⟩⟩ : ByteArray).size = 2 := rfl
  omega
end Go.Proofs.YthadehkggddgoaaGreatDoor
end
end
section
set_option linter.unusedVariables false
set_option linter.unusedSimpArgs false
namespace Go.Proofs.YthadehkggddgoaaGreatDoor
open Go Go.Num
theorem Ss.few_wt (s : Ss) {n : Nat} (h : s.wt ≤ n) (hn : n ≤ 2 ^ 28) : s.Few := by
  obtain ⟨h1, h2, h3, h4⟩ := s.parts_wt h
  have := lw_len As.wt1 s.arms; have := lw_len Fr.wt1 s.parts; have := lw_len V2.wt1 s.people; have := lw_len (ρ := fun _ : Bool => 1) (fun _ => Nat.le_refl _) s.opens
  refine ⟨⟨by omega, fun x hx => ?_⟩, by omega, by omega, by omega⟩
  have h5 := lw_mem (ρ := As.wt) hx
  obtain ⟨_, g1, g2⟩ := x.le_wt (n := n) (by omega) hn
  omega
theorem Q.few_wt (q : Q) {n : Nat} (h : q.wt ≤ n) (hn : n ≤ 2 ^ 55) : q.few := by
  simp only [Q.wt] at h; exact ⟨by omega, by omega⟩
theorem Ss.fewI_wt (s : Ss) {n : Nat} (h : s.wt ≤ n) (hn : n ≤ 2 ^ 55) (hi : s.ints) : s.few := by
  obtain ⟨ht, hh⟩ := hi
  obtain ⟨h1, h2, h3, h4⟩ := s.parts_wt h
  have := lw_len As.wt1 s.arms; have := lw_len Fr.wt1 s.parts; have := lw_len V2.wt1 s.people; have := lw_len (ρ := fun _ : Bool => 1) (fun _ => Nat.le_refl _) s.opens
  refine ⟨ht, ⟨by omega, fun x hx => ?_⟩, ⟨by omega, fun f hf => ?_⟩, ⟨by omega, fun p hp => ?_⟩, ⟨by omega, fun _ _ => trivial⟩⟩
  · have h5 := lw_mem (ρ := As.wt) hx
    simp only [As.wt] at h5
    have := lw_len Q.wt1 x.q; have := lw_len Q.wt1 x.v
    refine ⟨⟨by omega, fun q hq => ?_⟩, ⟨by omega, fun q hq => ?_⟩, hh x hx⟩
    · have := lw_mem (ρ := Q.wt) hq; exact q.few_wt (n := n) (by omega) hn
    · have := lw_mem (ρ := Q.wt) hq; exact q.few_wt (n := n) (by omega) hn
  · have h5 := lw_mem (ρ := Fr.wt) hf
    simp only [Fr.wt, V2.wt, Tn.wt] at h5
    exact ⟨⟨f.at_.x.few_wt (n := n) (by omega) hn, f.at_.y.few_wt (n := n) (by omega) hn⟩, f.turn.t.few_wt (n := n) (by omega) hn⟩
  · have h5 := lw_mem (ρ := V2.wt) hp
    simp only [V2.wt] at h5
    exact ⟨p.x.few_wt (n := n) (by omega) hn, p.y.few_wt (n := n) (by omega) hn⟩
theorem As.S_size (p : As) : p.S.size ≤ 64 * (p.wt + 1) := by
  have h1 := lsS_size (ρ := Q.wt) (f := Q.S) (fun q => by have := q.S_size; omega) p.q
  have h2 := lsS_size (ρ := Q.wt) (f := Q.S) (fun q => by have := q.S_size; omega) p.v
  have h3 := boolS_size p.power
  have h4 := natS_size (p.holds + 1)
  simp only [As.S, app_sz, As.wt]; omega
theorem Ss.S_size (s : Ss) : s.S.size ≤ 128 * (s.wt + 1) := by
  have h1 := lsS_size (ρ := fun x : As => 2 * x.wt) (f := As.S) (fun x => by have := x.S_size; have := x.wt1; omega) s.arms
  have h2 := lsS_size (ρ := Fr.wt) (f := Fr.S) (fun x => by have := x.S_size; omega) s.parts
  have h3 := lsS_size (ρ := V2.wt) (f := V2.S) (fun x => x.S_size') s.people
  have h4 := lsS_size (ρ := fun _ : Bool => 1) (f := boolS) (fun x => by have := boolS_size x; omega) s.opens
  have h5 := natS_size s.tick
  have h6 : lw (fun x : As => 2 * x.wt) s.arms ≤ 2 * lw As.wt s.arms := by
    simp only [lw]
    have : ∀ l : List As, (l.map fun x => 2 * x.wt).sum = 2 * (l.map As.wt).sum := by
      intro l
      induction l with
      | nil => rfl
      | cons a l ih => simp only [List.map_cons, List.sum_cons, ih]; omega
    rw [this]; omega
  simp only [Ss.S, app_sz, Ss.wt]; omega
theorem lw_map {α β : Type} {ρ : α → Nat} {σ : β → Nat} {f : α → β} {k : Nat} (hk : 1 ≤ k) (h : ∀ a, σ (f a) ≤ k * ρ a) : ∀ l : List α, lw σ (l.map f) ≤ k * lw ρ l
  | [] => by simp only [lw, List.map_nil, List.sum_nil]; omega
  | a :: l => by
    have h1 := lw_map hk h l
    have h2 := h a
    simp only [lw, List.map_cons, List.sum_cons, Nat.mul_add] at *; omega
theorem lw_const {α : Type} {ρ : α → Nat} {k : Nat} : ∀ l : List α, (∀ a ∈ l, ρ a ≤ k) → lw ρ l ≤ k * l.length + 1
  | [], _ => by simp [lw]
  | a :: l, h => by
    have h1 := lw_const (k := k) l (fun x hx => h x (List.mem_cons_of_mem _ hx))
    have h2 := h a (List.mem_cons_self ..)
    simp only [lw, List.map_cons, List.sum_cons, List.length_cons, Nat.mul_add] at *; omega
theorem zero_wt : (Q.of 0).wt = 2 := by rw [Q.of_zero]; rfl
theorem firstQ_wt (k : Lk) : (firstQ k).wt ≤ k.wt := by
  have := zero_wt; have := k.length.wt1; have := k.speed.wt1; have := k.low.wt1; have := k.high.wt1
  rw [firstQ]; simp only [Lk.wt]
  split
  · omega
  · split <;> omega
theorem firstA_wt (a : Ar) : (firstA a).wt ≤ 4 * a.wt := by
  have h1 := lw_map (ρ := Lk.wt) (σ := Q.wt) (f := firstQ) (k := 1) (Nat.le_refl _) (fun k => by have := firstQ_wt k; omega) a.links
  have h2 := lw_map (ρ := Lk.wt) (σ := Q.wt) (f := fun _ => Q.of 0) (k := 2) (by decide) (fun k => by have := zero_wt; have := k.wt1; omega) a.links
  have : (firstA a).wt = lw Q.wt (a.links.map firstQ) + lw Q.wt (a.links.map fun _ => Q.of 0) := rfl
  simp only [Ar.wt]; omega
theorem firstS_wt (w : Wk) {n : Nat} (h : w.wt ≤ n) (hn : n ≤ 2 ^ 20) : (firstS w).wt ≤ 2 ^ 50 := by
  obtain ⟨h1, h2, h3, h4, h5, h6⟩ := w.parts_wt h
  have g1 := lw_map (ρ := Ar.wt) (σ := As.wt) (f := firstA) (k := 4) (by decide) firstA_wt w.arms
  have g2 : lw Fr.wt (firstS w).parts ≤ 2 ^ 21 * (firstS w).parts.length + 1 := by
    refine lw_const _ fun f hf => ?_
    obtain ⟨i, hi, rfl⟩ := List.mem_map.1 hf
    rw [frameAt]
    split
    · rename_i s hs
      have h7 := lw_mem (ρ := Sl.wt) (List.mem_of_getElem? hs)
      simp only [Sl.wt] at h7; omega
    · have := zero_wt; simp only [frame0, Fr.wt, V2.wt, Tn.wt]; omega
  have g3 : (firstS w).parts.length = w.parts.length := by show ((List.range _).map _).length = _; simp
  have g4 := lw_const (ρ := fun _ : Bool => 1) (k := 1) (firstS w).opens (fun _ _ => Nat.le_refl _)
  have g5 : (firstS w).opens.length = w.gates.length := by show (List.replicate _ _).length = _; simp
  have g6 := lw_len Pt.wt1 w.parts; have g7 := lw_len Gt.wt1 w.gates
  have g8 : (firstS w).wt = lw As.wt (w.arms.map firstA) + lw Fr.wt (firstS w).parts + 1 + lw (fun _ : Bool => 1) (firstS w).opens := rfl
  rw [g3] at g2
  have : 2 ^ 21 * w.parts.length ≤ 2 ^ 21 * 2 ^ 20 := Nat.mul_le_mul_left _ (by omega)
  omega
theorem firstS_fit (w : Wk) (h : w.wt ≤ 1048576) : (firstS w).few ∧ (firstS w).S.size < 2 ^ 60 := by
  have h1 := firstS_wt w h (by decide)
  refine ⟨(firstS w).fewI_wt h1 (by decide) ⟨(show I64 0 from ⟨by decide, by decide⟩), fun x hx => ?_⟩, by have := (firstS w).S_size; omega⟩
  obtain ⟨a, _, rfl⟩ := List.mem_map.1 hx
  exact (show I64 (-1) from ⟨by decide, by decide⟩)
end Go.Proofs.YthadehkggddgoaaGreatDoor
end
end
section
set_option maxRecDepth 100000
set_option maxHeartbeats 0
set_option linter.unusedVariables false
set_option linter.unusedSimpArgs false
namespace Go.Proofs.YthadehkggddgoaaGreatDoor
open Go Go.Num
theorem nil_short : Ss.nil.Short := ⟨by decide, (fun y hy => by cases hy), by decide, by decide, by decide⟩
theorem sameState_ok (a b : Ss) (ha : a.Short) (hb : b.Short) (fa : a.few) (fb : b.few) (sa : a.S.size < 2 ^ 60) (sb : b.S.size < 2 ^ 60) (r : Bool) (hr : r = decide (a = b)) : AE.ACallG GG Tryz.prog 46 [] [.a a.c, .a b.c] [] (.b r) := by
  obtain ⟨s1, hs1⟩ : ∃ s, s = a.S := ⟨_, rfl⟩
  obtain ⟨s2, hs2⟩ : ∃ s, s = b.S := ⟨_, rfl⟩
  have k1 := refBytes_ok a ha s1 hs1 (by rw [hs1]; exact sa)
  have k2 := refBytes_ok b hb s2 hs2 (by rw [hs2]; exact sb)
  have e0 : decide (s1 = s2) = r := by
    rw [hr, hs1, hs2, decide_eq_decide]
    exact ⟨fun h => Ss.S_inj fa fb h, fun h => by rw [h]⟩
  clear hs1 hs2 hr
  obtain ⟨t1, x1, f1, p1, o1⟩ := a
  obtain ⟨t2, x2, f2, p2, o2⟩ := b
  obtain ⟨ex1, hx1⟩ : ∃ es, es = lsAv As.c x1 := ⟨_, rfl⟩
  obtain ⟨ex2, hx2⟩ : ∃ es, es = lsAv As.c x2 := ⟨_, rfl⟩
  obtain ⟨ef1, hf1⟩ : ∃ es, es = lsAv Fr.c f1 := ⟨_, rfl⟩
  obtain ⟨ef2, hf2⟩ : ∃ es, es = lsAv Fr.c f2 := ⟨_, rfl⟩
  obtain ⟨ev1, hv1⟩ : ∃ es, es = lsAv V2.c p1 := ⟨_, rfl⟩
  obtain ⟨ev2, hv2⟩ : ∃ es, es = lsAv V2.c p2 := ⟨_, rfl⟩
  obtain ⟨eo1, ho1⟩ : ∃ es, es = lsAv boolC o1 := ⟨_, rfl⟩
  obtain ⟨eo2, ho2⟩ : ∃ es, es = lsAv boolC o2 := ⟨_, rfl⟩
  simp only [Ss.c, ← hx1, ← hx2, ← hf1, ← hf2, ← hv1, ← hv2, ← ho1, ← ho2] at k1 k2 ⊢
  clear ha hb fa fb sa sb hx1 hx2 hf1 hf2 hv1 hv2 ho1 ho2
  refine AE.ACallG.of_walk (fn := Tryz.f46) (c := bodyOf Tryz.f46) GG_stays tabOK Tryz.func46 rfl rfl mixed fun A hA X => ?_
  have e1 : A.scmp .eql s1 s2 = r := by rw [c_seql hA]; exact e0
  (repeat' (first | (refine X.g ?_; cbv) | refine X.splitT ?_ | refine X.splitF ?_ | refine X.sp (fun hc => ?_) (fun hc => ?_) | refine X.needT ?_ | refine X.drawX _ _ _ (by kernel_rfl) (X.frzB 0 _ _ (Nat.zero_le _) (X.frzB 1 _ _ (Nat.zero_le _) ?_)) | refine X.fork _ _ ?_ ?_ | refine X.callsA [] k1 ?_ | refine X.callsA [] k2 ?_ | fail))
  all_goals (refine X.ret _ (X.done rfl ?_); cbv <;> (and_intros <;> first | exact e1 | rfl | trivial))
theorem worldFirstBad_ok (w : Wk) (hw : w.Le) (e : Int) (he : e = worksC w) (h0 : e ≠ 0) : AE.ACallG GG Tryz.prog 49 [] [.a w.c] [] (.t [.a [.v (.int .i64 0), .l 4 [], .l 10 [], .l 6 [], .l 1 []], .v (.int .i64 e)]) := by
  have kc := worksCheck_ok w hw e he
  obtain ⟨arms, walls, parts, slots, gates, walk⟩ := w
  obtain ⟨ea, hea⟩ : ∃ es, es = lsAv Ar.c arms := ⟨_, rfl⟩
  obtain ⟨ew, hew⟩ : ∃ es, es = lsAv wallC walls := ⟨_, rfl⟩
  obtain ⟨ep, hep⟩ : ∃ es, es = lsAv Pt.c parts := ⟨_, rfl⟩
  obtain ⟨es, hes⟩ : ∃ es, es = lsAv Sl.c slots := ⟨_, rfl⟩
  obtain ⟨eg, heg⟩ : ∃ es, es = lsAv Gt.c gates := ⟨_, rfl⟩
  simp only [Wk.c, ← hea, ← hew, ← hep, ← hes, ← heg] at kc ⊢
  refine AE.ACallG.of_walk (fn := Tryz.f49) (c := bodyOf Tryz.f49) GG_stays tabOK Tryz.func49 rfl rfl mixed fun A hA X => ?_
  have c0 : A.cmp .neq e 0 = true := by rw [AE.c_neq hA]; simpa using h0
  (repeat' (first | (refine X.g ?_; cbv) | refine X.splitT ?_ | refine X.splitF ?_ | refine X.sp (fun hc => ?_) (fun hc => ?_) | refine X.needT ?_ | refine X.callsGA [] kc ?_ | fail))
  all_goals (refine X.ret _ (X.done rfl ?_); cbv <;> (and_intros <;> first | rfl | trivial))
theorem nil_C : stateC works0 Ss.nil = 1 := by
  rw [stateC, stateI, works0_ok]
  have : works0.arms.length = 1 := rfl
  rw [this]
  rfl
theorem worldBegun_ok : AE.ACallG GG Tryz.prog 44 [] [] [] (.b true) := by
  obtain ⟨w, hw⟩ : ∃ w, w = works0 := ⟨_, rfl⟩
  obtain ⟨s, hs⟩ : ∃ s, s = firstS w := ⟨_, rfl⟩
  have h0 : worksC w = 0 := by rw [hw]; exact works0_ok
  have hle : w.Le := by rw [hw]; exact works0_le
  have hok := worksC_zero h0
  have hsle : s.Le := by rw [hs]; exact firstS_le hle hok
  obtain ⟨va, hva⟩ : ∃ e, e = lsAv As.c s.arms := ⟨_, rfl⟩
  obtain ⟨vp, hvp⟩ : ∃ e, e = lsAv Fr.c s.parts := ⟨_, rfl⟩
  obtain ⟨vo, hvo⟩ : ∃ e, e = lsAv boolC s.opens := ⟨_, rfl⟩
  have hsc : s.c = [.v (.int .i64 0), .l 4 va, .l 10 vp, .l 6 [], .l 1 vo] := by
    rw [Ss.c, ← hva, ← hvp, ← hvo, show lsAv V2.c s.people = [] by rw [hs]; exact lsAv_nil _, show s.tick = 0 by rw [hs]; rfl]
  have hsh : s.Short := ⟨hsle.narms, fun y hy => (hsle.arms y hy).2.2, hsle.nparts, hsle.npeople, hsle.nopens⟩
  have k1 := plain_ok w s hw (by rw [hs, hw])
  have k2 := worldFirst_ok w hle h0 va vp vo (by rw [hva, hs]) (by rw [hvp, hs]) (by rw [hvo, hs])
  have k3 := worldSame_ok s s hsh hsh true (by simp)
  have k4 := worldCheck_ok w hle s hsle 0 (by rw [hs]; exact (firstS_ok h0).symm)
  have k5 := worldCheck_ok w hle Ss.nil nil_le 1 (by rw [hw]; exact nil_C.symm)
  rw [hsc] at k1 k3 k4
  rw [Ss.nil_c] at k5
  clear hw hs h0 hle hok hsle hva hvp hvo hsc hsh
  obtain ⟨arms, walls, parts, slots, gates, walk⟩ := w
  obtain ⟨ea, hea⟩ : ∃ es, es = lsAv Ar.c arms := ⟨_, rfl⟩
  obtain ⟨ew, hew⟩ : ∃ es, es = lsAv wallC walls := ⟨_, rfl⟩
  obtain ⟨ep, hep⟩ : ∃ es, es = lsAv Pt.c parts := ⟨_, rfl⟩
  obtain ⟨es, hes⟩ : ∃ es, es = lsAv Sl.c slots := ⟨_, rfl⟩
  obtain ⟨eg, heg⟩ : ∃ es, es = lsAv Gt.c gates := ⟨_, rfl⟩
  simp only [Wk.c, ← hea, ← hew, ← hep, ← hes, ← heg] at k1 k2 k4 k5
  clear hea hew hep hes heg
  refine AE.ACallG.of_walk (fn := Tryz.f44) (c := bodyOf Tryz.f44) GG_stays tabOK Tryz.func44 rfl rfl mixed fun A hA X => ?_
  have c1 : A.cmp .eql 0 0 = true := by rw [AE.c_eql hA]; rfl
  have c2 : A.cmp .eql 1 1 = true := by rw [AE.c_eql hA]; rfl
  (repeat' (first | (refine X.g ?_; cbv) | refine X.splitT ?_ | refine X.splitF ?_ | refine X.sp (fun hc => ?_) (fun hc => ?_) | refine X.needT ?_ | refine X.callsGA [] k1 ?_ | refine X.callsGA [] k2 ?_ | fail))
  (repeat' (first | (refine X.g ?_; cbv) | refine X.splitT ?_ | refine X.splitF ?_ | refine X.sp (fun hc => ?_) (fun hc => ?_) | refine X.needT ?_ | (refine X.isCall ?_; refine X.lendsG [5, 6] k3 rfl ?_ (by cbv) ?_; focus (cbv <;> (and_intros <;> first | rfl | trivial))) | refine X.callsGA [] k4 ?_ | refine X.callsGA [] k5 ?_ | fail))
  all_goals (refine X.ret _ (X.done rfl ?_); cbv <;> (and_intros <;> first | rfl | trivial))
structure Ss.Fit (s : Ss) : Prop where
  le : s.Le
  Few : s.Few
  few : s.few
  size : s.S.size < 2 ^ 60
theorem law1_ok (q : Q) (h : q.sz ≤ 2 ^ 34) (r : Bool) (hr : r = decide (sgnR q.v ≠ 0)) : AE.ACallG GG Tryz.prog 48 [] [.a q.c] [] (.b r) := by
  refine AE.ACallG.of_walk (fn := Tryz.f48) (c := bodyOf Tryz.f48) GG_stays tabOK Tryz.func48 rfl rfl mixed fun A hA X => ?_
  obtain ⟨g, hg⟩ : ∃ g, g = sgnR q.v := ⟨_, rfl⟩
  have k1 := sign_ok q h g hg
  have e1 : A.cmp .neq g 0 = r := by rw [AE.c_neq hA, hr, hg]; simp
  (repeat' (first | (refine X.g ?_; cbv) | refine X.splitT ?_ | refine X.splitF ?_ | refine X.sp (fun hc => ?_) (fun hc => ?_) | refine X.callsGA [] k1 ?_ | refine X.needT ?_ | fail))
  all_goals (refine X.ret _ (X.done rfl ?_); cbv <;> (and_intros <;> first | exact e1 | rfl | trivial))
theorem worldChecks_ok (w : Wk) (s t : Ss) (h1 : w.Le) (h2 : w.Few) (hs : s.Fit) (ht : t.Fit) (hf : worksC w = 0 → (firstS w).few ∧ (firstS w).S.size < 2 ^ 60) : AE.ACallG GG Tryz.prog 8 [] [.a w.c, .a s.c, .a t.c] [] (.b true) := by
  obtain ⟨cc, hcc⟩ : ∃ b, b = stateC w s := ⟨_, rfl⟩
  obtain ⟨bb, hbb⟩ : ∃ b, b = decide (s = t) := ⟨_, rfl⟩
  obtain ⟨wc, hwc⟩ : ∃ b, b = worksC w := ⟨_, rfl⟩
  have k1 := worldBegun_ok
  have k2 := worldCheck_ok w h1 s hs.le cc hcc
  have k3 := refState_ok w h1 s hs.le cc hcc
  have k4 := worldSame_ok s t hs.Few.short ht.Few.short bb hbb
  have k5 := sameState_ok s t hs.Few.short ht.Few.short hs.few ht.few hs.size ht.size bb hbb
  have k6 := worldCopyR_ok s hs.Few
  have k7 := worldSame_ok s s hs.Few.short hs.Few.short true (by simp)
  have k8 := refWorks_ok w h1 wc hwc
  have kx : ∀ y ∈ s.arms, y.le (2 ^ 30) := hs.le.arms
  have kn : s.arms.length < 2 ^ 40 := hs.le.narms
  obtain ⟨ea, hea⟩ : ∃ es, es = lsAv Ar.c w.arms := ⟨_, rfl⟩
  obtain ⟨ew, hew⟩ : ∃ es, es = lsAv wallC w.walls := ⟨_, rfl⟩
  obtain ⟨ep, hep⟩ : ∃ es, es = lsAv Pt.c w.parts := ⟨_, rfl⟩
  obtain ⟨es, hes⟩ : ∃ es, es = lsAv Sl.c w.slots := ⟨_, rfl⟩
  obtain ⟨eg, heg⟩ : ∃ es, es = lsAv Gt.c w.gates := ⟨_, rfl⟩
  obtain ⟨ex, hex⟩ : ∃ es, es = lsAv As.c s.arms := ⟨_, rfl⟩
  obtain ⟨ef, hef⟩ : ∃ es, es = lsAv Fr.c s.parts := ⟨_, rfl⟩
  obtain ⟨ev, hev⟩ : ∃ es, es = lsAv V2.c s.people := ⟨_, rfl⟩
  obtain ⟨eo, heo⟩ : ∃ es, es = lsAv boolC s.opens := ⟨_, rfl⟩
  obtain ⟨tx, htx⟩ : ∃ es, es = lsAv As.c t.arms := ⟨_, rfl⟩
  obtain ⟨tf, htf⟩ : ∃ es, es = lsAv Fr.c t.parts := ⟨_, rfl⟩
  obtain ⟨tv, htv⟩ : ∃ es, es = lsAv V2.c t.people := ⟨_, rfl⟩
  obtain ⟨to, hto⟩ : ∃ es, es = lsAv boolC t.opens := ⟨_, rfl⟩
  have hwC : w.c = [.l 12 ea, .l 1 ew, .l 12 ep, .l 14 es, .l 13 eg, .b w.walk.neg, .v (.string w.walk.num), .v (.string w.walk.den)] := by
    rw [Wk.c, hea, hew, hep, hes, heg]; rfl
  simp only [Ss.c, ← hex, ← hef, ← hev, ← heo, ← htx, ← htf, ← htv, ← hto] at k2 k3 k4 k5 k6 k7 ⊢
  rw [hwC] at k2 k3 k8 ⊢
  refine AE.ACallG.of_walk (fn := Tryz.f8) (c := bodyOf Tryz.f8) GG_stays tabOK Tryz.func8 rfl rfl mixed fun A hA X => ?_
  have n1 : A.bnot true = false := by rw [AE.c_not hA]; rfl
  have c1 : A.cmp .neq cc cc = false := by rw [AE.c_neq hA]; simp
  have c2 : ∀ b, A.bcmp .neq b b = false := fun b => by rw [AE.c_bne hA]; simp
  have c2b := c2 bb
  (repeat' (first | (refine X.g ?_; cbv) | refine X.splitT ?_ | refine X.splitF ?_ | refine X.sp (fun hc => ?_) (fun hc => ?_) | refine X.needT ?_ | refine X.drawX _ _ _ (by kernel_rfl) (X.frzB 0 _ _ (Nat.zero_le _) (X.frzB 1 _ _ (Nat.zero_le _) (X.frzB 2 _ _ (Nat.zero_le _) ?_))) | refine X.fork _ _ ?_ ?_ | refine X.callsGA [] k1 ?_ | refine X.callsGA [] k2 ?_ | refine X.callsGA [] k3 ?_ | refine X.callsGA [] k4 ?_ | refine X.callsGA [] k5 ?_ | refine X.callsGA [] k7 ?_ | refine X.callsA [] k6 ?_ | fail))
  clear k1 k2 k3 k4 k5 k6 k7
  refine rangeL0 X hA hex (by omega) (fun i => True) (fun z _ => [(42, .v (.int .i64 z))]) trivial ?_ (fun i z y hz hy hey c3 hI B hB => ?_) (fun z c3 hI B => ?_)
  · (cbv <;> (and_intros <;> first | rfl | trivial))
  · obtain ⟨x1, x2, x3, x4⟩ := kx y (List.mem_of_getElem? hy)
    obtain ⟨mv, hmv⟩ : ∃ b, b = movB y := ⟨_, rfl⟩
    have k1 := worldMoving_ok y ⟨fun q hq => by have := x2 q hq; omega, x4⟩ mv hmv
    obtain ⟨yq, yv, yp, yh⟩ := y
    obtain ⟨eq, heq⟩ : ∃ es, es = lsAv Q.c yq := ⟨_, rfl⟩
    obtain ⟨ey, hey2⟩ : ∃ es, es = lsAv Q.c yv := ⟨_, rfl⟩
    have k2 := hasRat_ok yv x4 ey hey2 48 (fun q => decide (sgnR q.v ≠ 0)) (fun q hq b hb => law1_ok q (by have := x2 q hq; omega) b hb) mv hmv
    simp only [As.c, ← heq, ← hey2] at hey k1
    have c4 := c2 mv
    clear hmv x1 x2 x3 x4
    (repeat' (first | (refine X.g ?_; cbv) | refine X.splitT ?_ | refine X.splitF ?_ | refine X.sp (fun hc => ?_) (fun hc => ?_) | refine X.needT ?_ | refine X.drawX _ _ _ (by kernel_rfl) (X.frzB 3 _ _ (Nat.zero_le _) ?_) | refine X.fork _ _ ?_ ?_ | refine X.idx _ _ _ _ _ _ _ _ hey hz ?_ | refine X.callsGA [] k1 ?_ | refine X.callsGA [] k2 ?_ | fail))
    all_goals (refine hB trivial _ ?_; clear hB; (cbv <;> (and_intros <;> first | rfl | trivial)))
  · clear kx kn hex hef hev heo htx htf htv hto hs ht c2 c2b c1 hbb hcc
    by_cases h0 : wc = 0
    · obtain ⟨va, hva⟩ : ∃ e, e = lsAv As.c (firstS w).arms := ⟨_, rfl⟩
      obtain ⟨vp, hvp⟩ : ∃ e, e = lsAv Fr.c (firstS w).parts := ⟨_, rfl⟩
      obtain ⟨vo, hvo⟩ : ∃ e, e = lsAv boolC (firstS w).opens := ⟨_, rfl⟩
      have hsc : (firstS w).c = [.v (.int .i64 0), .l 4 va, .l 10 vp, .l 6 [], .l 1 vo] := by
        rw [Ss.c, ← hva, ← hvp, ← hvo, show lsAv V2.c (firstS w).people = [] from lsAv_nil _, show (firstS w).tick = 0 from rfl]
      have h00 : worksC w = 0 := by rw [← hwc]; exact h0
      have hle := firstS_le h1 (worksC_zero h00)
      have hsh : (firstS w).Short := ⟨hle.narms, fun y hy => (hle.arms y hy).2.2, hle.nparts, hle.npeople, hle.nopens⟩
      obtain ⟨f1, f2⟩ := hf h00
      have k1 := worldFirst_ok w h1 h00 va vp vo hva hvp hvo
      have k2 := refFirst_ok w (fun a ha => ⟨(h2.links a ha).1, fun k hk => by
        obtain ⟨_, g1, g2, _⟩ := (h1.arms a ha).2.2.1 k hk
        exact ⟨by omega, by omega⟩⟩) ⟨h2.arms, h2.parts.1, h2.slots, h2.gates⟩ (firstS w) rfl
      have k3 := sameState_ok (firstS w) (firstS w) hsh hsh f1 f1 f2 f2 true (by simp)
      rw [hsc] at k2 k3
      rw [hwC] at k1 k2
      have c5 : A.cmp .neq wc 0 = false := by rw [AE.c_neq hA, h0]; rfl
      have c6 : A.cmp .eql 0 0 = true := by rw [AE.c_eql hA]; rfl
      clear hwC hea hew hep hes heg hva hvp hvo hsc hle hsh f1 f2 h00 h1 h2 hf hwc
      (repeat' (first | (refine X.g ?_; cbv) | refine X.splitT ?_ | refine X.splitF ?_ | refine X.sp (fun hc => ?_) (fun hc => ?_) | refine X.needT ?_ | refine X.callsGA [] k1 ?_ | refine X.callsGA [] k8 ?_ | fail))
      refine X.drawX _ _ _ (by kernel_rfl) (X.frz 6 _ _ (X.frz 7 _ _ (X.frzB 8 _ _ (Nat.zero_le _) ?_)))
      (repeat' (first | (refine X.g ?_; cbv) | refine X.splitT ?_ | refine X.splitF ?_ | refine X.sp (fun hc => ?_) (fun hc => ?_) | refine X.needT ?_ | refine X.fork _ _ ?_ ?_ | refine X.callsGA [] k2 ?_ | refine X.callsGA [] k3 ?_ | fail))
      all_goals (refine X.ret _ (X.done rfl ?_); cbv <;> (and_intros <;> first | rfl | trivial))
    · have k1 := worldFirstBad_ok w h1 wc hwc h0
      have k2 := worldSame_ok Ss.nil Ss.nil nil_short nil_short true (by simp)
      rw [Ss.nil_c] at k2
      rw [hwC] at k1
      have c5 : A.cmp .neq wc 0 = true := by rw [AE.c_neq hA]; simpa using h0
      have c6 : A.cmp .eql wc wc = true := by rw [AE.c_eql hA]; exact decide_eq_true rfl
      clear hwC hea hew hep hes heg h1 h2 hf hwc
      (repeat' (first | (refine X.g ?_; cbv) | refine X.splitT ?_ | refine X.splitF ?_ | refine X.sp (fun hc => ?_) (fun hc => ?_) | refine X.needT ?_ | refine X.callsGA [] k1 ?_ | refine X.callsGA [] k8 ?_ | refine X.callsGA [] k2 ?_ | fail))
      all_goals (refine X.ret _ (X.done rfl ?_); cbv <;> (and_intros <;> first | rfl | trivial))
end Go.Proofs.YthadehkggddgoaaGreatDoor
end
