/- Contract: gantmake.Works of any numbers. -/
import Derived.Test.YthadehkggddgoaaGreatDoorZMakeE
import Derived.Test.YthadehkggddgoaaGreatDoorZWorks
set_option maxRecDepth 100000
set_option maxHeartbeats 0
set_option linter.unusedVariables false
set_option linter.unusedSimpArgs false
namespace Go.Proofs.YthadehkggddgoaaGreatDoor
open Go Go.Num
theorem anyK {A : AE.Ari} {P : Program} {T : AE.Tab} {fn : Func} {n0 : Nat} {own' : List AE.OB} {res : AE.AV} {GG : (Nat → Option Obj) → Prop} (X : AE.Walk A P T fn n0 own' res GG) {x : Code} {B : Act → World → Prop} {K : List AE.Item} {σ : AE.St} (h : ∀ K0, X.H (.c x :: .back B :: K0) σ) : X.H (.c x :: .back B :: K) σ := h K
def iterM {α : Type} (f : Nat → List Int → α × List Int) (l : List Int) : Nat → List α × List Int
  | 0 => ([], l)
  | k + 1 => ((iterM f l k).1 ++ [(f k (iterM f l k).2).1], (f k (iterM f l k).2).2)
theorem iterM_len {α : Type} {f : Nat → List Int → α × List Int} (h : ∀ k l, (f k l).2.length ≤ l.length) (l : List Int) : ∀ k, (iterM f l k).2.length ≤ l.length ∧ (iterM f l k).1.length = k
  | 0 => ⟨Nat.le_refl _, rfl⟩
  | k + 1 => by
    have := iterM_len h l k
    have h2 := h k (iterM f l k).2
    exact ⟨by show (f k _).2.length ≤ _; omega, by show ((iterM f l k).1 ++ _).length = _; simp; exact this.2⟩
theorem iterM_mem {α : Type} {f : Nat → List Int → α × List Int} {l : List Int} {x : α} : ∀ k, x ∈ (iterM f l k).1 → ∃ i l', i < k ∧ x = (f i l').1
  | 0, h => by cases h
  | k + 1, h => by
    rcases List.mem_append.1 h with h | h
    · obtain ⟨i, l', hi, hx⟩ := iterM_mem k h
      exact ⟨i, l', by omega, hx⟩
    · exact ⟨k, _, by omega, List.mem_singleton.1 h⟩
theorem iter_app {A : AE.Ari} (hA : A = AE.std) {α : Type} {c : α → List AE.AV} {f : Nat → List Int → α × List Int} {l l' : List Int} {g : Nat → List (List AE.AV)} (hg : ∀ i, g i = lsAv c (iterM f l i).1) {i : Nat} {y : α} (hy : f i (iterM f l i).2 = (y, l')) : A.lapp (g i) [c y] = g (i + 1) := by
  rw [hg, hg, iterM, hy, ← lsAv_app, show lsAv c [y] = [c y] by rw [lsAv_eq]; rfl]
  subst hA; rfl
theorem iter_st {α : Type} {f : Nat → List Int → α × List Int} {l l' : List Int} {g : Nat → List (List AE.AV)} (hg : ∀ i, g i = lsAv numC (iterM f l i).2) {i : Nat} {y : α} (hy : f i (iterM f l i).2 = (y, l')) : g (i + 1) = lsAv numC l' := by
  rw [hg, iterM, hy]
theorem polyM_len (l : List Int) : (polyM l).2.length ≤ l.length := by
  obtain ⟨a, l1, h1⟩ : ∃ a l', nextM 6 l = (a, l') := ⟨_, _, rfl⟩
  obtain ⟨b, l2, h2⟩ : ∃ a l', nextM 6 l1 = (a, l') := ⟨_, _, rfl⟩
  obtain ⟨c, l3, h3⟩ : ∃ a l', nextM 4 l2 = (a, l') := ⟨_, _, rfl⟩
  obtain ⟨d, l4, h4⟩ : ∃ d l', nextM (2 * (1 + a) + 1) l3 = (d, l') := ⟨_, _, rfl⟩
  have b1 := next_bd h1 (by decide)
  have b2 := next_bd h2 (by decide)
  have b3 := next_bd h3 (by decide)
  have b4 := next_bd h4 (by omega)
  simp only [polyM, h1, h2, h3, h4]
  split
  · show l3.length ≤ _; omega
  · split
    · show l4.length ≤ _; omega
    · split
      · show l3.length ≤ _; omega
      · show l3.length ≤ _; omega
theorem armM_len (n : Nat) (l : List Int) : (armM n l).2.length ≤ l.length := by
  have h1 := nextM_len 4 l
  have h2 := nextM_len 3 (nextM 4 l).2
  have h3 := nextM_len 3 (nextM 3 (nextM 4 l).2).2
  have h4 := (linksM_len (nextM 3 (nextM 3 (nextM 4 l).2).2).2 (1 + (nextM 3 (nextM 3 (nextM 4 l).2).2).1).toNat).1
  show (linksM (1 + (nextM 3 (nextM 3 (nextM 4 l).2).2).1).toNat (nextM 3 (nextM 3 (nextM 4 l).2).2).2).2.length ≤ _
  omega
def wallM (l : List Int) : List V2 × List Int :=
  match nextM 80 l with
  | (a, l1) => match nextM 30 l1 with
    | (b, l2) => match nextM 2 l2 with
      | (c, l3) => match nextM 20 l3 with
        | (d, l4) => match nextM 5 l4 with
          | (e, l5) => (rectM (a - 30) (if c = 1 then -(12 + b) - 6 else 12 + b) (a - 30 + 1 + d) ((if c = 1 then -(12 + b) - 6 else 12 + b) + 1 + e), l5)
theorem wallM_len (l : List Int) : (wallM l).2.length ≤ l.length := by
  have h1 := nextM_len 80 l
  have h2 := nextM_len 30 (nextM 80 l).2
  have h3 := nextM_len 2 (nextM 30 (nextM 80 l).2).2
  have h4 := nextM_len 20 (nextM 2 (nextM 30 (nextM 80 l).2).2).2
  have h5 := nextM_len 5 (nextM 20 (nextM 2 (nextM 30 (nextM 80 l).2).2).2).2
  show (nextM 5 (nextM 20 (nextM 2 (nextM 30 (nextM 80 l).2).2).2).2).2.length ≤ _
  omega
def pnameM (n : Nat) : ByteArray := if n = 0 then ⟨⟨[98, 111, 108, 116]⟩⟩ else ⟨⟨[110, 117, 116]⟩⟩
def still0 : Fr := ⟨atM 0 0, ⟨false, Q.of (mkRat 0 1)⟩⟩
def partM (n : Nat) (l : List Int) : Pt × List Int := (⟨pnameM n, (polyM l).1, still0⟩, (polyM l).2)
def snameM (n : Nat) : ByteArray := if n = 0 then ⟨⟨[104, 101, 114, 101]⟩⟩ else if n = 1 then ⟨⟨[116, 104, 101, 114, 101]⟩⟩ else ⟨⟨[98, 101, 121, 111, 110, 100]⟩⟩
def slotM (n : Nat) (l : List Int) : Sl × List Int :=
  match nextM 40 l with
  | (a, l1) => match nextM 24 l1 with
    | (b, l2) => match nextM 5 l2 with
      | (c, l3) => match nextM 20 l3 with
        | (d, l4) => (⟨snameM n, ⟨atM (a - 20) (b - 12), ⟨false, Q.of (mkRat (c - 2) 2)⟩⟩, Q.of (mkRat 1 (8 + d).toNat)⟩, l4)
theorem slotM_len (n : Nat) (l : List Int) : (slotM n l).2.length ≤ l.length := by
  have h1 := nextM_len 40 l
  have h2 := nextM_len 24 (nextM 40 l).2
  have h3 := nextM_len 5 (nextM 24 (nextM 40 l).2).2
  have h4 := nextM_len 20 (nextM 5 (nextM 24 (nextM 40 l).2).2).2
  show (nextM 20 (nextM 5 (nextM 24 (nextM 40 l).2).2).2).2.length ≤ _
  omega
def doorM : ByteArray := ⟨⟨[100, 111, 111, 114]⟩⟩
def gateM (l : List Int) : Gt × List Int :=
  match nextM 60 l with
  | (a, l1) => match nextM 60 l1 with
    | (b, l2) => match nextM 12 l2 with
      | (c, l3) => match nextM 12 l3 with
        | (d, l4) => (⟨doorM, ⟨atM (a - 30) (b - 30), atM (a - 30 + c) (b - 30 + d)⟩⟩, l4)
theorem gateM_len (l : List Int) : (gateM l).2.length ≤ l.length := by
  have h1 := nextM_len 60 l
  have h2 := nextM_len 60 (nextM 60 l).2
  have h3 := nextM_len 12 (nextM 60 (nextM 60 l).2).2
  have h4 := nextM_len 12 (nextM 12 (nextM 60 (nextM 60 l).2).2).2
  show (nextM 12 (nextM 12 (nextM 60 (nextM 60 l).2).2).2).2.length ≤ _
  omega
def worksM (l0 : List Int) : Wk :=
  match nextM 2 l0 with
  | (a, l1) => match nextM 3 (iterM armM l1 (1 + a).toNat).2 with
    | (b, l2) => match nextM 3 (iterM (fun _ => wallM) l2 b.toNat).2 with
      | (c, l3) => match nextM 2 (iterM partM l3 c.toNat).2 with
        | (d, l4) => match nextM 2 (iterM slotM l4 (c + d).toNat).2 with
          | (e, l5) => match nextM 4 (iterM (fun _ => gateM) l5 e.toNat).2 with
            | (g, _) => ⟨(iterM armM l1 (1 + a).toNat).1, (iterM (fun _ => wallM) l2 b.toNat).1, (iterM partM l3 c.toNat).1, (iterM slotM l4 (c + d).toNat).1, (iterM (fun _ => gateM) l5 e.toNat).1, Q.of (mkRat g 8)⟩
theorem makeWorks_ok (l0 : List Int) (hl : l0.length < 2 ^ 40) (e0 : List (List AE.AV)) (he0 : e0 = lsAv numC l0) (w : Wk) (hw : w = worksM l0) : AE.ACall Tryz.prog 67 [] [.l 1 e0] [] (.a w.c) := by
  obtain ⟨a, l1, h1⟩ : ∃ a l, nextM 2 l0 = (a, l) := ⟨_, _, rfl⟩
  have b1 := next_bd h1 (by decide)
  obtain ⟨na, hna⟩ : ∃ k : Nat, k = (1 + a).toNat := ⟨_, rfl⟩
  have zA := iterM_len armM_len l1
  obtain ⟨b, l2, h2⟩ : ∃ a l, nextM 3 (iterM armM l1 na).2 = (a, l) := ⟨_, _, rfl⟩
  have b2 := next_bd h2 (by decide)
  have y2 := (zA na).1
  obtain ⟨nw, hnw⟩ : ∃ k : Nat, k = b.toNat := ⟨_, rfl⟩
  have zW := iterM_len (f := fun _ => wallM) (fun _ => wallM_len) l2
  obtain ⟨c, l3, h3⟩ : ∃ a l, nextM 3 (iterM (fun _ => wallM) l2 nw).2 = (a, l) := ⟨_, _, rfl⟩
  have b3 := next_bd h3 (by decide)
  have y3 := (zW nw).1
  obtain ⟨np, hnp⟩ : ∃ k : Nat, k = c.toNat := ⟨_, rfl⟩
  have zP := iterM_len (f := partM) (fun _ => polyM_len) l3
  obtain ⟨d, l4, h4⟩ : ∃ a l, nextM 2 (iterM partM l3 np).2 = (a, l) := ⟨_, _, rfl⟩
  have b4 := next_bd h4 (by decide)
  have y4 := (zP np).1
  obtain ⟨ns, hns⟩ : ∃ k : Nat, k = (c + d).toNat := ⟨_, rfl⟩
  have zS := iterM_len slotM_len l4
  obtain ⟨e, l5, h5⟩ : ∃ a l, nextM 2 (iterM slotM l4 ns).2 = (a, l) := ⟨_, _, rfl⟩
  have b5 := next_bd h5 (by decide)
  have y5 := (zS ns).1
  obtain ⟨ng, hng⟩ : ∃ k : Nat, k = e.toNat := ⟨_, rfl⟩
  have zG := iterM_len (f := fun _ => gateM) (fun _ => gateM_len) l5
  obtain ⟨g, l6, h6⟩ : ∃ a l, nextM 4 (iterM (fun _ => gateM) l5 ng).2 = (a, l) := ⟨_, _, rfl⟩
  have b6 := next_bd h6 (by decide)
  have y6 := (zG ng).1
  obtain ⟨q, hq⟩ : ∃ q, q = Q.of (mkRat g 8) := ⟨_, rfl⟩
  have hw : w = ⟨(iterM armM l1 na).1, (iterM (fun _ => wallM) l2 nw).1, (iterM partM l3 np).1, (iterM slotM l4 ns).1, (iterM (fun _ => gateM) l5 ng).1, q⟩ := by
    rw [hw, worksM]
    simp only [h1, ← hna, h2, ← hnw, h3, ← hnp, h4, ← hns, h5, ← hng, h6, ← hq]
  subst hw
  obtain ⟨gA, hgA⟩ : ∃ g : Nat → List (List AE.AV), ∀ i, g i = lsAv Ar.c (iterM armM l1 i).1 := ⟨_, fun _ => rfl⟩
  obtain ⟨gW, hgW⟩ : ∃ g : Nat → List (List AE.AV), ∀ i, g i = lsAv wallC (iterM (fun _ => wallM) l2 i).1 := ⟨_, fun _ => rfl⟩
  obtain ⟨gP, hgP⟩ : ∃ g : Nat → List (List AE.AV), ∀ i, g i = lsAv Pt.c (iterM partM l3 i).1 := ⟨_, fun _ => rfl⟩
  obtain ⟨gS, hgS⟩ : ∃ g : Nat → List (List AE.AV), ∀ i, g i = lsAv Sl.c (iterM slotM l4 i).1 := ⟨_, fun _ => rfl⟩
  obtain ⟨gG, hgG⟩ : ∃ g : Nat → List (List AE.AV), ∀ i, g i = lsAv Gt.c (iterM (fun _ => gateM) l5 i).1 := ⟨_, fun _ => rfl⟩
  obtain ⟨sA, hsA⟩ : ∃ g : Nat → List (List AE.AV), ∀ i, g i = lsAv numC (iterM armM l1 i).2 := ⟨_, fun _ => rfl⟩
  obtain ⟨sW, hsW⟩ : ∃ g : Nat → List (List AE.AV), ∀ i, g i = lsAv numC (iterM (fun _ => wallM) l2 i).2 := ⟨_, fun _ => rfl⟩
  obtain ⟨sP, hsP⟩ : ∃ g : Nat → List (List AE.AV), ∀ i, g i = lsAv numC (iterM partM l3 i).2 := ⟨_, fun _ => rfl⟩
  obtain ⟨sS, hsS⟩ : ∃ g : Nat → List (List AE.AV), ∀ i, g i = lsAv numC (iterM slotM l4 i).2 := ⟨_, fun _ => rfl⟩
  obtain ⟨sG, hsG⟩ : ∃ g : Nat → List (List AE.AV), ∀ i, g i = lsAv numC (iterM (fun _ => gateM) l5 i).2 := ⟨_, fun _ => rfl⟩
  obtain ⟨e6, he6⟩ : ∃ e, e = lsAv numC l6 := ⟨_, rfl⟩
  simp only [Wk.c, ← hgA, ← hgW, ← hgP, ← hgS, ← hgG]
  refine AE.ACall.of_walk (fn := Tryz.f67) (c := bodyOf Tryz.f67) tabOK Tryz.func67 rfl rfl mixed fun A hA X => ?_
  have n1 := nextE (n := 2) rfl l0 hl (by decide) h1 e0 (sA 0) he0 (hsA 0)
  have n2 := nextE (n := 3) rfl (iterM armM l1 na).2 (by omega) (by decide) h2 (sA na) (sW 0) (hsA na) (hsW 0)
  have n3 := nextE (n := 3) rfl (iterM (fun _ => wallM) l2 nw).2 (by omega) (by decide) h3 (sW nw) (sP 0) (hsW nw) (hsP 0)
  have n4 := nextE (n := 2) rfl (iterM partM l3 np).2 (by omega) (by decide) h4 (sP np) (sS 0) (hsP np) (hsS 0)
  have n5 := nextE (n := 2) rfl (iterM slotM l4 ns).2 (by omega) (by decide) h5 (sS ns) (sG 0) (hsS ns) (hsG 0)
  have n6 := nextE (n := 4) rfl (iterM (fun _ => gateM) l5 ng).2 (by omega) (by decide) h6 (sG ng) e6 (hsG ng) he6
  have hq8 := makeOf_ok g 8 (by omega) (by decide) q hq
  have v1 : A.bin .add .i64 1 a = (na : Int) := by rw [zadd hA (x := 1) rfl (y := a) rfl (by omega), hna]; omega
  have v2 : b = (nw : Int) := by omega
  have v3 : c = (np : Int) := by omega
  have v5 : e = (ng : Int) := by omega
  have na2 : na ≤ 2 := by omega
  have nw2 : nw ≤ 2 := by omega
  have np2 : np ≤ 2 := by omega
  have ns2 : ns ≤ 3 := by omega
  have ng2 : ng ≤ 1 := by omega
  have v4 : A.bin .add .i64 (A.llen (gP np)) d = (ns : Int) := by
    have : A.llen (gP np) = (np : Int) := by rw [llen hA, hgP, lsAv_len, (zP np).2]
    rw [this, zadd hA (x := (np : Int)) rfl (y := d) rfl (by omega), hns]; omega
  have q0 : [] = gA 0 := by rw [hgA]; exact (lsAv_nil _).symm
  have q1 : [] = gW 0 := by rw [hgW]; exact (lsAv_nil _).symm
  have q2 : [] = gP 0 := by rw [hgP]; exact (lsAv_nil _).symm
  have q3 : [] = gS 0 := by rw [hgS]; exact (lsAv_nil _).symm
  have q4 : [] = gG 0 := by rw [hgG]; exact (lsAv_nil _).symm
  clear h1 h2 h3 h4 h5 h6 hq hns hng hnp hnw hna
  (repeat' (first | (refine X.g ?_; cbv) | refine X.splitT ?_ | refine X.splitF ?_ | refine X.sp (fun hc => ?_) (fun hc => ?_) | refine X.needT ?_ | (refine X.calls [1] n1 ?_ ?_ ?_ ?_; (focus (cbv; done)); (focus (cbv <;> (and_intros <;> first | rfl | trivial))); (focus (cbv; done))) | fail))
  refine X.loopG _ _ _ (X.nilB 2 0 79 12 _ _ ?_)
  (refine X.g ?_; cbv)
  refine rangesS X 0 na (fun _ => True) (fun z _ => [(18, .v (.int .i64 z))]) (fun i o => (o.set 1 (.box [.l 1 (sA i)] 188)).set 3 (.row 79 12 (gA i))) trivial ?_ (fun i z hz hi hI B hB => ?_) (fun z hz hI B => ?_)
  · (cbv <;> (and_intros <;> first | exact q0 | rfl | trivial))
  · refine anyK X fun K0 => ?_
    rw [Nat.zero_add] at hz
    have c1 : A.cmp .lss z (A.bin .add .i64 1 a) = true := ltT hA hz v1 hi
    have hll := (zA i).1
    obtain ⟨y, l', hy⟩ : ∃ y l', armM i (iterM armM l1 i).2 = (y, l') := ⟨_, _, rfl⟩
    have k1 := makeArm_ok i (by omega) z hz (iterM armM l1 i).2 (by omega) (sA i) (sA (i + 1)) (hsA i) (by rw [iter_st hsA hy, hy]) y (by rw [hy])
    have e1 := iter_app hA hgA hy
    have hgrow : ∀ c, AE.GrowR (A.llen (gA i)) (A.llen [c]) 168 := fun c => grow1 hA (n := 8) (by rw [hgA, lsAv_len, (zA i).2]; omega) (by decide) (by decide)
    have hB' := hB (A.bin .add .i64 z 1) (by rw [Nat.zero_add]; exact addI hA hz (y := 1) (b := 1) rfl (by omega)) trivial
    clear hB n1 n2 n3 n4 n5 n6
    (repeat' (first | (refine X.g ?_; cbv) | refine X.splitT ?_ | refine X.splitF ?_ | refine X.sp (fun hc => ?_) (fun hc => ?_) | refine X.needT ?_ | fail))
    apply shareG X
    · intro hs
      apply share8 X
      · intro y0q0 y0q1 y0q2 y0q3 y0q4 y0q5 y0q6 y0q7
        refine X.drawX _ _ _ (by kernel_rfl) ?_
        (repeat' (first | (refine X.g ?_; cbv) | refine X.splitT ?_ | refine X.splitF ?_ | refine X.sp (fun hc => ?_) (fun hc => ?_) | refine X.needT ?_ | refine X.fork _ _ ?_ ?_ | refine X.need _ _ _ (hgrow _) ?_ | fail))
        all_goals first | exact y0q0 | exact y0q1 | exact y0q2 | exact y0q3 | exact y0q4 | exact y0q5 | exact y0q6 | exact y0q7
      all_goals first | ((fail_if_success (apply X.needT)); refine X.calls [1] k1 ?_ ?_ ?_ ?_; (focus (cbv; done)); (focus (cbv <;> (and_intros <;> first | rfl | trivial))); (focus (cbv; done)); (repeat' (first | (refine X.g ?_; cbv) | refine X.splitT ?_ | refine X.splitF ?_ | refine X.sp (fun hc => ?_) (fun hc => ?_) | refine X.needT ?_ | refine X.fork _ _ ?_ ?_ | refine X.need _ _ _ (hgrow _) ?_ | fail)) <;> first | exact hs) | exact hs
    · refine hB' _ ?_; clear hB'; (cbv <;> (and_intros <;> first | exact e1 | rfl | trivial))
  rw [Nat.zero_add] at hz
  have c1 : A.cmp .lss z (A.bin .add .i64 1 a) = false := ltF hA hz v1 (by omega)
  clear hz hI
  (repeat' (first | (refine X.g ?_; cbv) | refine X.splitT ?_ | refine X.splitF ?_ | refine X.sp (fun hc => ?_) (fun hc => ?_) | refine X.needT ?_ | (refine X.calls [1] n2 ?_ ?_ ?_ ?_; (focus (cbv; done)); (focus (cbv <;> (and_intros <;> first | rfl | trivial))); (focus (cbv; done))) | fail))
  refine X.loopG _ _ _ (X.nilB 2 1 34 1 _ _ ?_)
  (refine X.g ?_; cbv)
  refine rangesS X 0 nw (fun _ => True) (fun z _ => [(32, .v (.int .i64 z))]) (fun i o => (o.set 1 (.box [.l 1 (sW i)] 188)).set 4 (.row 34 1 (gW i))) trivial ?_ (fun i z hz hi hI B hB => ?_) (fun z hz hI B => ?_)
  · (cbv <;> (and_intros <;> first | exact q1 | rfl | trivial))
  · refine anyK X fun K0 => ?_
    rw [Nat.zero_add] at hz
    have c2 : A.cmp .lss z b = true := ltT hA hz v2 hi
    have hll := (zW i).1
    obtain ⟨u0, hu0⟩ : ∃ u, u = (iterM (fun _ => wallM) l2 i).2 := ⟨_, rfl⟩
    rw [← hu0] at hll
    obtain ⟨x1, u1, j1⟩ : ∃ a l, nextM 80 u0 = (a, l) := ⟨_, _, rfl⟩
    obtain ⟨x2, u2, j2⟩ : ∃ a l, nextM 30 u1 = (a, l) := ⟨_, _, rfl⟩
    obtain ⟨x3, u3, j3⟩ : ∃ a l, nextM 2 u2 = (a, l) := ⟨_, _, rfl⟩
    obtain ⟨x4, u4, j4⟩ : ∃ a l, nextM 20 u3 = (a, l) := ⟨_, _, rfl⟩
    obtain ⟨x5, u5, j5⟩ : ∃ a l, nextM 5 u4 = (a, l) := ⟨_, _, rfl⟩
    have d1 := next_bd j1 (by decide)
    have d2 := next_bd j2 (by decide)
    have d3 := next_bd j3 (by decide)
    have d4 := next_bd j4 (by decide)
    have d5 := next_bd j5 (by decide)
    obtain ⟨t1, ht1⟩ : ∃ e, e = lsAv numC u1 := ⟨_, rfl⟩
    obtain ⟨t2, ht2⟩ : ∃ e, e = lsAv numC u2 := ⟨_, rfl⟩
    obtain ⟨t3, ht3⟩ : ∃ e, e = lsAv numC u3 := ⟨_, rfl⟩
    obtain ⟨t4, ht4⟩ : ∃ e, e = lsAv numC u4 := ⟨_, rfl⟩
    obtain ⟨Y, hY⟩ : ∃ y : Int, y = if x3 = 1 then -(12 + x2) - 6 else 12 + x2 := ⟨_, rfl⟩
    have hlm : wallM u0 = (rectM (x1 - 30) Y (x1 - 30 + 1 + x4) (Y + 1 + x5), u5) := by
      simp only [wallM, j1, j2, j3, j4, j5, ← hY]
    have hYb : -60 ≤ Y ∧ Y ≤ 60 := by rw [hY]; split <;> omega
    obtain ⟨er, her⟩ : ∃ e, e = lsAv V2.c (rectM (x1 - 30) Y (x1 - 30 + 1 + x4) (Y + 1 + x5)) := ⟨_, rfl⟩
    rw [hu0] at hlm
    have ht5 := iter_st hsW hlm
    have e1 := iter_app hA hgW hlm
    simp only [wallC, ← her] at e1
    have m1 := nextE (n := 80) rfl u0 (by omega) (by decide) j1 (sW i) t1 (by rw [hsW, hu0]) ht1
    have m2 := nextE (n := 30) rfl u1 (by omega) (by decide) j2 t1 t2 ht1 ht2
    have m3 := nextE (n := 2) rfl u2 (by omega) (by decide) j3 t2 t3 ht2 ht3
    have m4 := nextE (n := 20) rfl u3 (by omega) (by decide) j4 t3 t4 ht3 ht4
    have m5 := nextE (n := 5) rfl u4 (by omega) (by decide) j5 t4 (sW (i + 1)) ht4 ht5
    have o1 := zsub hA (x := x1) rfl (y := 30) rfl (by omega)
    have o2 := zadd hA (x := 12) rfl (y := x2) rfl (by omega)
    have o3 := zsub hA (zneg hA o2 (by omega)) (y := 6) rfl (by omega)
    have o4 := zadd hA (zadd hA o1 (y := 1) rfl (by omega)) (y := x4) rfl (by omega)
    have hgrow : ∀ c, AE.GrowR (A.llen (gW i)) (A.llen [c]) 24 := fun c => grow1 hA (n := 8) (by rw [hgW, lsAv_len, (zW i).2]; omega) (by decide) (by decide)
    have hB' := hB (A.bin .add .i64 z 1) (by rw [Nat.zero_add]; exact addI hA hz (y := 1) (b := 1) rfl (by omega)) trivial
    clear hB n1 n2 n3 n4 n5 n6 ht1 ht2 ht3 ht4 ht5 j1 j2 j3 j4 j5
    by_cases h3 : x3 = 1
    · have c3 : A.cmp .eql x3 1 = true := by rw [AE.c_eql hA]; exact decide_eq_true h3
      rw [if_pos h3] at hY
      have o5 := zadd hA (zadd hA (o3.trans hY.symm) (y := 1) rfl (by omega)) (y := x5) rfl (by omega)
      have k1 := makeRectE o1 (o3.trans hY.symm) o4 o5 (by omega) (by omega) (by omega) (by omega) er her
      (repeat' (first | (refine X.g ?_; cbv) | refine X.splitT ?_ | refine X.splitF ?_ | refine X.sp (fun hc => ?_) (fun hc => ?_) | refine X.needT ?_ | (refine X.calls [1] m1 ?_ ?_ ?_ ?_; (focus (cbv; done)); (focus (cbv <;> (and_intros <;> first | rfl | trivial))); (focus (cbv; done))) | (refine X.calls [1] m2 ?_ ?_ ?_ ?_; (focus (cbv; done)); (focus (cbv <;> (and_intros <;> first | rfl | trivial))); (focus (cbv; done))) | (refine X.calls [1] m3 ?_ ?_ ?_ ?_; (focus (cbv; done)); (focus (cbv <;> (and_intros <;> first | rfl | trivial))); (focus (cbv; done))) | fail))
      apply shareG X
      · intro hs
        apply share8 X
        · intro y2q0 y2q1 y2q2 y2q3 y2q4 y2q5 y2q6 y2q7
          apply share8 X
          · intro y1q0 y1q1 y1q2 y1q3 y1q4 y1q5 y1q6 y1q7
            apply share8 X
            · intro y0q0 y0q1 y0q2 y0q3 y0q4 y0q5 y0q6 y0q7
              refine X.drawX _ _ _ (by kernel_rfl) ?_
              (repeat' (first | (refine X.g ?_; cbv) | refine X.splitT ?_ | refine X.splitF ?_ | refine X.sp (fun hc => ?_) (fun hc => ?_) | refine X.needT ?_ | refine X.fork _ _ ?_ ?_ | refine X.need _ _ _ (hgrow _) ?_ | fail))
              all_goals first | exact y0q0 | exact y0q1 | exact y0q2 | exact y0q3 | exact y0q4 | exact y0q5 | exact y0q6 | exact y0q7
            all_goals first | ((fail_if_success (apply X.needT)); refine X.calls [1] m4 ?_ ?_ ?_ ?_; (focus (cbv; done)); (focus (cbv <;> (and_intros <;> first | rfl | trivial))); (focus (cbv; done)); (repeat' (first | (refine X.g ?_; cbv) | refine X.splitT ?_ | refine X.splitF ?_ | refine X.sp (fun hc => ?_) (fun hc => ?_) | refine X.needT ?_ | refine X.fork _ _ ?_ ?_ | refine X.need _ _ _ (hgrow _) ?_ | fail)) <;> first | exact y1q0 | exact y1q1 | exact y1q2 | exact y1q3 | exact y1q4 | exact y1q5 | exact y1q6 | exact y1q7) | exact hs
          all_goals first | ((fail_if_success (apply X.needT)); refine X.calls [1] m5 ?_ ?_ ?_ ?_; (focus (cbv; done)); (focus (cbv <;> (and_intros <;> first | rfl | trivial))); (focus (cbv; done)); (repeat' (first | (refine X.g ?_; cbv) | refine X.splitT ?_ | refine X.splitF ?_ | refine X.sp (fun hc => ?_) (fun hc => ?_) | refine X.needT ?_ | refine X.fork _ _ ?_ ?_ | refine X.need _ _ _ (hgrow _) ?_ | fail)) <;> first | exact y2q0 | exact y2q1 | exact y2q2 | exact y2q3 | exact y2q4 | exact y2q5 | exact y2q6 | exact y2q7) | exact hs
        all_goals first | ((fail_if_success (apply X.needT)); refine X.calls [] k1 ?_ ?_ ?_ ?_; (focus (cbv; done)); (focus (cbv <;> (and_intros <;> first | rfl | trivial))); (focus (cbv; done)); (repeat' (first | (refine X.g ?_; cbv) | refine X.splitT ?_ | refine X.splitF ?_ | refine X.sp (fun hc => ?_) (fun hc => ?_) | refine X.needT ?_ | refine X.fork _ _ ?_ ?_ | refine X.need _ _ _ (hgrow _) ?_ | fail)) <;> first | exact hs) | exact hs
      · refine hB' _ ?_; clear hB'; (cbv <;> (and_intros <;> first | exact e1 | rfl | trivial))
    · have c3 : A.cmp .eql x3 1 = false := by rw [AE.c_eql hA]; exact decide_eq_false h3
      rw [if_neg h3] at hY
      have o5 := zadd hA (zadd hA (o2.trans hY.symm) (y := 1) rfl (by omega)) (y := x5) rfl (by omega)
      have k1 := makeRectE o1 (o2.trans hY.symm) o4 o5 (by omega) (by omega) (by omega) (by omega) er her
      (repeat' (first | (refine X.g ?_; cbv) | refine X.splitT ?_ | refine X.splitF ?_ | refine X.sp (fun hc => ?_) (fun hc => ?_) | refine X.needT ?_ | (refine X.calls [1] m1 ?_ ?_ ?_ ?_; (focus (cbv; done)); (focus (cbv <;> (and_intros <;> first | rfl | trivial))); (focus (cbv; done))) | (refine X.calls [1] m2 ?_ ?_ ?_ ?_; (focus (cbv; done)); (focus (cbv <;> (and_intros <;> first | rfl | trivial))); (focus (cbv; done))) | (refine X.calls [1] m3 ?_ ?_ ?_ ?_; (focus (cbv; done)); (focus (cbv <;> (and_intros <;> first | rfl | trivial))); (focus (cbv; done))) | fail))
      apply shareG X
      · intro hs
        apply share8 X
        · intro y2q0 y2q1 y2q2 y2q3 y2q4 y2q5 y2q6 y2q7
          apply share8 X
          · intro y1q0 y1q1 y1q2 y1q3 y1q4 y1q5 y1q6 y1q7
            apply share8 X
            · intro y0q0 y0q1 y0q2 y0q3 y0q4 y0q5 y0q6 y0q7
              refine X.drawX _ _ _ (by kernel_rfl) ?_
              (repeat' (first | (refine X.g ?_; cbv) | refine X.splitT ?_ | refine X.splitF ?_ | refine X.sp (fun hc => ?_) (fun hc => ?_) | refine X.needT ?_ | refine X.fork _ _ ?_ ?_ | refine X.need _ _ _ (hgrow _) ?_ | fail))
              all_goals first | exact y0q0 | exact y0q1 | exact y0q2 | exact y0q3 | exact y0q4 | exact y0q5 | exact y0q6 | exact y0q7
            all_goals first | ((fail_if_success (apply X.needT)); refine X.calls [1] m4 ?_ ?_ ?_ ?_; (focus (cbv; done)); (focus (cbv <;> (and_intros <;> first | rfl | trivial))); (focus (cbv; done)); (repeat' (first | (refine X.g ?_; cbv) | refine X.splitT ?_ | refine X.splitF ?_ | refine X.sp (fun hc => ?_) (fun hc => ?_) | refine X.needT ?_ | refine X.fork _ _ ?_ ?_ | refine X.need _ _ _ (hgrow _) ?_ | fail)) <;> first | exact y1q0 | exact y1q1 | exact y1q2 | exact y1q3 | exact y1q4 | exact y1q5 | exact y1q6 | exact y1q7) | exact hs
          all_goals first | ((fail_if_success (apply X.needT)); refine X.calls [1] m5 ?_ ?_ ?_ ?_; (focus (cbv; done)); (focus (cbv <;> (and_intros <;> first | rfl | trivial))); (focus (cbv; done)); (repeat' (first | (refine X.g ?_; cbv) | refine X.splitT ?_ | refine X.splitF ?_ | refine X.sp (fun hc => ?_) (fun hc => ?_) | refine X.needT ?_ | refine X.fork _ _ ?_ ?_ | refine X.need _ _ _ (hgrow _) ?_ | fail)) <;> first | exact y2q0 | exact y2q1 | exact y2q2 | exact y2q3 | exact y2q4 | exact y2q5 | exact y2q6 | exact y2q7) | exact hs
        all_goals first | ((fail_if_success (apply X.needT)); refine X.calls [] k1 ?_ ?_ ?_ ?_; (focus (cbv; done)); (focus (cbv <;> (and_intros <;> first | rfl | trivial))); (focus (cbv; done)); (repeat' (first | (refine X.g ?_; cbv) | refine X.splitT ?_ | refine X.splitF ?_ | refine X.sp (fun hc => ?_) (fun hc => ?_) | refine X.needT ?_ | refine X.fork _ _ ?_ ?_ | refine X.need _ _ _ (hgrow _) ?_ | fail)) <;> first | exact hs) | exact hs
      · refine hB' _ ?_; clear hB'; (cbv <;> (and_intros <;> first | exact e1 | rfl | trivial))
  rw [Nat.zero_add] at hz
  have c2 : A.cmp .lss z b = false := ltF hA hz v2 (by omega)
  clear hz hI
  (repeat' (first | (refine X.g ?_; cbv) | refine X.splitT ?_ | refine X.splitF ?_ | refine X.sp (fun hc => ?_) (fun hc => ?_) | refine X.needT ?_ | (refine X.calls [1] n3 ?_ ?_ ?_ ?_; (focus (cbv; done)); (focus (cbv <;> (and_intros <;> first | rfl | trivial))); (focus (cbv; done))) | fail))
  refine X.loopG _ _ _ (X.nilB 2 2 99 12 _ _ ?_)
  (refine X.g ?_; cbv)
  refine rangesS X 0 np (fun _ => True) (fun z _ => [(67, .v (.int .i64 z))]) (fun i o => (o.set 1 (.box [.l 1 (sP i)] 188)).set 5 (.row 99 12 (gP i))) trivial ?_ (fun i z hz hi hI B hB => ?_) (fun z hz hI B => ?_)
  · (cbv <;> (and_intros <;> first | exact q2 | rfl | trivial))
  · refine anyK X fun K0 => ?_
    rw [Nat.zero_add] at hz
    have c3 : A.cmp .lss z c = true := ltT hA hz v3 hi
    have hll := (zP i).1
    obtain ⟨u0, hu0⟩ : ∃ u, u = (iterM partM l3 i).2 := ⟨_, rfl⟩
    rw [← hu0] at hll
    obtain ⟨sh, hsh⟩ : ∃ s, s = (polyM u0).1 := ⟨_, rfl⟩
    obtain ⟨nm, hnm⟩ : ∃ s, s = pnameM i := ⟨_, rfl⟩
    obtain ⟨p0, hp0⟩ : ∃ s, s = atM 0 0 := ⟨_, rfl⟩
    obtain ⟨t0, ht0⟩ : ∃ s, s = Q.of (mkRat 0 1) := ⟨_, rfl⟩
    have hlm : partM i u0 = (⟨nm, sh, ⟨p0, ⟨false, t0⟩⟩⟩, (polyM u0).2) := by rw [partM, still0, hsh, hnm, hp0, ht0]
    obtain ⟨esh, hesh⟩ : ∃ e, e = lsAv V2.c sh := ⟨_, rfl⟩
    have hlm2 := hlm
    rw [hu0] at hlm2
    have ht5 := iter_st hsP hlm2
    have e1 := iter_app hA hgP hlm2
    simp only [Pt.c, ← hesh] at e1
    have k1 := makePoly_ok u0 (by omega) (sP i) (sP (i + 1)) (by rw [hsP, hu0]) (by rw [ht5, hu0]) esh (by rw [hesh, hsh])
    have k2 := makeAt_ok 0 0 (by decide) (by decide) p0 hp0
    have k3 := makeOf_ok 0 1 (by decide) (by decide) t0 ht0
    have hnames : [[AE.AV.v (.string ⟨⟨[98, 111, 108, 116]⟩⟩)], [.v (.string ⟨⟨[110, 117, 116]⟩⟩)]][i]? = some [AE.AV.v (.string nm)] := by
      rw [hnm]
      match i, (show i < 2 by omega) with
      | 0, _ => rfl
      | 1, _ => rfl
    have hgrow : ∀ c, AE.GrowR (A.llen (gP i)) (A.llen [c]) 168 := fun c => grow1 hA (n := 8) (by rw [hgP, lsAv_len, (zP i).2]; omega) (by decide) (by decide)
    have hB' := hB (A.bin .add .i64 z 1) (by rw [Nat.zero_add]; exact addI hA hz (y := 1) (b := 1) rfl (by omega)) trivial
    clear hB n1 n2 n3 n4 n5 n6
    (repeat' (first | (refine X.g ?_; cbv) | refine X.splitT ?_ | refine X.splitF ?_ | refine X.sp (fun hc => ?_) (fun hc => ?_) | refine X.needT ?_ | fail))
    apply shareG X
    · intro hs
      apply share8 X
      · intro y2q0 y2q1 y2q2 y2q3 y2q4 y2q5 y2q6 y2q7
        apply share8 X
        · intro y1q0 y1q1 y1q2 y1q3 y1q4 y1q5 y1q6 y1q7
          apply share8 X
          · intro y0q0 y0q1 y0q2 y0q3 y0q4 y0q5 y0q6 y0q7
            refine X.drawX _ _ _ (by kernel_rfl) ?_
            (repeat' (first | (refine X.g ?_; cbv) | refine X.splitT ?_ | refine X.splitF ?_ | refine X.sp (fun hc => ?_) (fun hc => ?_) | refine X.needT ?_ | refine X.fork _ _ ?_ ?_ | refine X.idx _ _ _ _ _ _ _ _ hnames hz ?_ | refine X.ldq _ _ _ _ _ _ _ _ _ hnames ?_ | refine X.need _ _ _ (hgrow _) ?_ | fail))
            all_goals first | exact y0q0 | exact y0q1 | exact y0q2 | exact y0q3 | exact y0q4 | exact y0q5 | exact y0q6 | exact y0q7
          all_goals first | ((fail_if_success (apply X.needT)); refine X.calls [1] k1 ?_ ?_ ?_ ?_; (focus (cbv; done)); (focus (cbv <;> (and_intros <;> first | rfl | trivial))); (focus (cbv; done)); (repeat' (first | (refine X.g ?_; cbv) | refine X.splitT ?_ | refine X.splitF ?_ | refine X.sp (fun hc => ?_) (fun hc => ?_) | refine X.needT ?_ | refine X.fork _ _ ?_ ?_ | refine X.idx _ _ _ _ _ _ _ _ hnames hz ?_ | refine X.ldq _ _ _ _ _ _ _ _ _ hnames ?_ | refine X.need _ _ _ (hgrow _) ?_ | fail)) <;> first | exact y1q0 | exact y1q1 | exact y1q2 | exact y1q3 | exact y1q4 | exact y1q5 | exact y1q6 | exact y1q7) | exact hs
        all_goals first | ((fail_if_success (apply X.needT)); refine X.calls [] k2 ?_ ?_ ?_ ?_; (focus (cbv; done)); (focus (cbv <;> (and_intros <;> first | rfl | trivial))); (focus (cbv; done)); (repeat' (first | (refine X.g ?_; cbv) | refine X.splitT ?_ | refine X.splitF ?_ | refine X.sp (fun hc => ?_) (fun hc => ?_) | refine X.needT ?_ | refine X.fork _ _ ?_ ?_ | refine X.idx _ _ _ _ _ _ _ _ hnames hz ?_ | refine X.ldq _ _ _ _ _ _ _ _ _ hnames ?_ | refine X.need _ _ _ (hgrow _) ?_ | fail)) <;> first | exact y2q0 | exact y2q1 | exact y2q2 | exact y2q3 | exact y2q4 | exact y2q5 | exact y2q6 | exact y2q7) | exact hs
      all_goals first | ((fail_if_success (apply X.needT)); refine X.calls [] k3 ?_ ?_ ?_ ?_; (focus (cbv; done)); (focus (cbv <;> (and_intros <;> first | rfl | trivial))); (focus (cbv; done)); (repeat' (first | (refine X.g ?_; cbv) | refine X.splitT ?_ | refine X.splitF ?_ | refine X.sp (fun hc => ?_) (fun hc => ?_) | refine X.needT ?_ | refine X.fork _ _ ?_ ?_ | refine X.idx _ _ _ _ _ _ _ _ hnames hz ?_ | refine X.ldq _ _ _ _ _ _ _ _ _ hnames ?_ | refine X.need _ _ _ (hgrow _) ?_ | fail)) <;> first | exact hs) | exact hs
    · refine hB' _ ?_; clear hB'; (cbv <;> (and_intros <;> first | exact e1 | rfl | trivial))
  rw [Nat.zero_add] at hz
  have c3 : A.cmp .lss z c = false := ltF hA hz v3 (by omega)
  clear hz hI
  (repeat' (first | (refine X.g ?_; cbv) | refine X.splitT ?_ | refine X.splitF ?_ | refine X.sp (fun hc => ?_) (fun hc => ?_) | refine X.needT ?_ | fail))
  apply shareG X
  · intro hs
    apply share8 X
    · intro y0q0 y0q1 y0q2 y0q3 y0q4 y0q5 y0q6 y0q7
      refine X.drawX _ _ _ (by kernel_rfl) ?_
      (repeat' (first | (refine X.g ?_; cbv) | refine X.splitT ?_ | refine X.splitF ?_ | refine X.sp (fun hc => ?_) (fun hc => ?_) | refine X.needT ?_ | refine X.fork _ _ ?_ ?_ | refine X.need _ _ _ trivial ?_ | fail))
      all_goals first | exact y0q0 | exact y0q1 | exact y0q2 | exact y0q3 | exact y0q4 | exact y0q5 | exact y0q6 | exact y0q7
    all_goals first | ((fail_if_success (apply X.needT)); refine X.calls [1] n4 ?_ ?_ ?_ ?_; (focus (cbv; done)); (focus (cbv <;> (and_intros <;> first | rfl | trivial))); (focus (cbv; done)); (repeat' (first | (refine X.g ?_; cbv) | refine X.splitT ?_ | refine X.splitF ?_ | refine X.sp (fun hc => ?_) (fun hc => ?_) | refine X.needT ?_ | refine X.fork _ _ ?_ ?_ | refine X.need _ _ _ trivial ?_ | fail)) <;> first | exact hs) | exact hs
  refine X.loopG _ _ _ (X.nilB 2 3 68 14 _ _ ?_)
  (refine X.g ?_; cbv)
  refine rangesS X 0 ns (fun _ => True) (fun z _ => [(93, .v (.int .i64 z))]) (fun i o => (o.set 1 (.box [.l 1 (sS i)] 188)).set 6 (.row 68 14 (gS i))) trivial ?_ (fun i z hz hi hI B hB => ?_) (fun z hz hI B => ?_)
  · (cbv <;> (and_intros <;> first | exact q3 | rfl | trivial))
  · refine anyK X fun K0 => ?_
    rw [Nat.zero_add] at hz
    have c4 : A.cmp .lss z (A.bin .add .i64 (A.llen (gP np)) d) = true := ltT hA hz v4 hi
    have hll := (zS i).1
    obtain ⟨u0, hu0⟩ : ∃ u, u = (iterM slotM l4 i).2 := ⟨_, rfl⟩
    rw [← hu0] at hll
    obtain ⟨x1, u1, j1⟩ : ∃ a l, nextM 40 u0 = (a, l) := ⟨_, _, rfl⟩
    obtain ⟨x2, u2, j2⟩ : ∃ a l, nextM 24 u1 = (a, l) := ⟨_, _, rfl⟩
    obtain ⟨x3, u3, j3⟩ : ∃ a l, nextM 5 u2 = (a, l) := ⟨_, _, rfl⟩
    obtain ⟨x4, u4, j4⟩ : ∃ a l, nextM 20 u3 = (a, l) := ⟨_, _, rfl⟩
    have d1 := next_bd j1 (by decide)
    have d2 := next_bd j2 (by decide)
    have d3 := next_bd j3 (by decide)
    have d4 := next_bd j4 (by decide)
    obtain ⟨t1, ht1⟩ : ∃ e, e = lsAv numC u1 := ⟨_, rfl⟩
    obtain ⟨t2, ht2⟩ : ∃ e, e = lsAv numC u2 := ⟨_, rfl⟩
    obtain ⟨t3, ht3⟩ : ∃ e, e = lsAv numC u3 := ⟨_, rfl⟩
    obtain ⟨nm, hnm⟩ : ∃ s, s = snameM i := ⟨_, rfl⟩
    obtain ⟨p0, hp0⟩ : ∃ s, s = atM (x1 - 20) (x2 - 12) := ⟨_, rfl⟩
    obtain ⟨t0, ht0⟩ : ∃ s, s = Q.of (mkRat (x3 - 2) 2) := ⟨_, rfl⟩
    obtain ⟨w0, hw0⟩ : ∃ s, s = Q.of (mkRat 1 (8 + x4).toNat) := ⟨_, rfl⟩
    have hlm : slotM i u0 = (⟨nm, ⟨p0, ⟨false, t0⟩⟩, w0⟩, u4) := by
      simp only [slotM, j1, j2, j3, j4, hnm, hp0, ht0, hw0]
    rw [hu0] at hlm
    have ht4 := iter_st hsS hlm
    have e1 := iter_app hA hgS hlm
    simp only [Sl.c] at e1
    have m1 := nextE (n := 40) rfl u0 (by omega) (by decide) j1 (sS i) t1 (by rw [hsS, hu0]) ht1
    have m2 := nextE (n := 24) rfl u1 (by omega) (by decide) j2 t1 t2 ht1 ht2
    have m3 := nextE (n := 5) rfl u2 (by omega) (by decide) j3 t2 t3 ht2 ht3
    have m4 := nextE (n := 20) rfl u3 (by omega) (by decide) j4 t3 (sS (i + 1)) ht3 ht4
    have o1 := zsub hA (x := x1) rfl (y := 20) rfl (by omega)
    have o2 := zsub hA (x := x2) rfl (y := 12) rfl (by omega)
    have o3 := zsub hA (x := x3) rfl (y := 2) rfl (by omega)
    have o4 := zadd hA (x := 8) rfl (y := x4) rfl (by omega)
    have k1 := makeAtE o1 o2 (by omega) (by omega) p0 hp0
    have k2 := makeOfE o3 (d := 2) rfl (by omega) (by omega) t0 ht0
    have k3 := makeOfE (x := 1) rfl o4 (by omega) (by omega) w0 hw0
    have hnames : [[AE.AV.v (.string ⟨⟨[104, 101, 114, 101]⟩⟩)], [.v (.string ⟨⟨[116, 104, 101, 114, 101]⟩⟩)], [.v (.string ⟨⟨[98, 101, 121, 111, 110, 100]⟩⟩)]][i]? = some [AE.AV.v (.string nm)] := by
      rw [hnm]
      match i, (show i < 3 by omega) with
      | 0, _ => rfl
      | 1, _ => rfl
      | 2, _ => rfl
    have hgrow : ∀ c, AE.GrowR (A.llen (gS i)) (A.llen [c]) 184 := fun c => grow1 hA (n := 8) (by rw [hgS, lsAv_len, (zS i).2]; omega) (by decide) (by decide)
    have hB' := hB (A.bin .add .i64 z 1) (by rw [Nat.zero_add]; exact addI hA hz (y := 1) (b := 1) rfl (by omega)) trivial
    clear hB n1 n2 n3 n4 n5 n6 ht1 ht2 ht3 ht4 j1 j2 j3 j4
    (repeat' (first | (refine X.g ?_; cbv) | refine X.splitT ?_ | refine X.splitF ?_ | refine X.sp (fun hc => ?_) (fun hc => ?_) | refine X.needT ?_ | fail))
    apply shareG X
    · intro hs
      apply share8 X
      · intro y6q0 y6q1 y6q2 y6q3 y6q4 y6q5 y6q6 y6q7
        apply share8 X
        · intro y5q0 y5q1 y5q2 y5q3 y5q4 y5q5 y5q6 y5q7
          apply share8 X
          · intro y4q0 y4q1 y4q2 y4q3 y4q4 y4q5 y4q6 y4q7
            apply share8 X
            · intro y3q0 y3q1 y3q2 y3q3 y3q4 y3q5 y3q6 y3q7
              apply share8 X
              · intro y2q0 y2q1 y2q2 y2q3 y2q4 y2q5 y2q6 y2q7
                apply share8 X
                · intro y1q0 y1q1 y1q2 y1q3 y1q4 y1q5 y1q6 y1q7
                  apply share8 X
                  · intro y0q0 y0q1 y0q2 y0q3 y0q4 y0q5 y0q6 y0q7
                    refine X.drawX _ _ _ (by kernel_rfl) ?_
                    (repeat' (first | (refine X.g ?_; cbv) | refine X.splitT ?_ | refine X.splitF ?_ | refine X.sp (fun hc => ?_) (fun hc => ?_) | refine X.needT ?_ | refine X.fork _ _ ?_ ?_ | refine X.idx _ _ _ _ _ _ _ _ hnames hz ?_ | refine X.ldq _ _ _ _ _ _ _ _ _ hnames ?_ | refine X.need _ _ _ (hgrow _) ?_ | fail))
                    all_goals first | exact y0q0 | exact y0q1 | exact y0q2 | exact y0q3 | exact y0q4 | exact y0q5 | exact y0q6 | exact y0q7
                  all_goals first | ((fail_if_success (apply X.needT)); refine X.calls [1] m1 ?_ ?_ ?_ ?_; (focus (cbv; done)); (focus (cbv <;> (and_intros <;> first | rfl | trivial))); (focus (cbv; done)); (repeat' (first | (refine X.g ?_; cbv) | refine X.splitT ?_ | refine X.splitF ?_ | refine X.sp (fun hc => ?_) (fun hc => ?_) | refine X.needT ?_ | refine X.fork _ _ ?_ ?_ | refine X.idx _ _ _ _ _ _ _ _ hnames hz ?_ | refine X.ldq _ _ _ _ _ _ _ _ _ hnames ?_ | refine X.need _ _ _ (hgrow _) ?_ | fail)) <;> first | exact y1q0 | exact y1q1 | exact y1q2 | exact y1q3 | exact y1q4 | exact y1q5 | exact y1q6 | exact y1q7) | exact hs
                all_goals first | ((fail_if_success (apply X.needT)); refine X.calls [1] m2 ?_ ?_ ?_ ?_; (focus (cbv; done)); (focus (cbv <;> (and_intros <;> first | rfl | trivial))); (focus (cbv; done)); (repeat' (first | (refine X.g ?_; cbv) | refine X.splitT ?_ | refine X.splitF ?_ | refine X.sp (fun hc => ?_) (fun hc => ?_) | refine X.needT ?_ | refine X.fork _ _ ?_ ?_ | refine X.idx _ _ _ _ _ _ _ _ hnames hz ?_ | refine X.ldq _ _ _ _ _ _ _ _ _ hnames ?_ | refine X.need _ _ _ (hgrow _) ?_ | fail)) <;> first | exact y2q0 | exact y2q1 | exact y2q2 | exact y2q3 | exact y2q4 | exact y2q5 | exact y2q6 | exact y2q7) | exact hs
              all_goals first | ((fail_if_success (apply X.needT)); refine X.calls [] k1 ?_ ?_ ?_ ?_; (focus (cbv; done)); (focus (cbv <;> (and_intros <;> first | rfl | trivial))); (focus (cbv; done)); (repeat' (first | (refine X.g ?_; cbv) | refine X.splitT ?_ | refine X.splitF ?_ | refine X.sp (fun hc => ?_) (fun hc => ?_) | refine X.needT ?_ | refine X.fork _ _ ?_ ?_ | refine X.idx _ _ _ _ _ _ _ _ hnames hz ?_ | refine X.ldq _ _ _ _ _ _ _ _ _ hnames ?_ | refine X.need _ _ _ (hgrow _) ?_ | fail)) <;> first | exact y3q0 | exact y3q1 | exact y3q2 | exact y3q3 | exact y3q4 | exact y3q5 | exact y3q6 | exact y3q7) | exact hs
            all_goals first | ((fail_if_success (apply X.needT)); refine X.calls [1] m3 ?_ ?_ ?_ ?_; (focus (cbv; done)); (focus (cbv <;> (and_intros <;> first | rfl | trivial))); (focus (cbv; done)); (repeat' (first | (refine X.g ?_; cbv) | refine X.splitT ?_ | refine X.splitF ?_ | refine X.sp (fun hc => ?_) (fun hc => ?_) | refine X.needT ?_ | refine X.fork _ _ ?_ ?_ | refine X.idx _ _ _ _ _ _ _ _ hnames hz ?_ | refine X.ldq _ _ _ _ _ _ _ _ _ hnames ?_ | refine X.need _ _ _ (hgrow _) ?_ | fail)) <;> first | exact y4q0 | exact y4q1 | exact y4q2 | exact y4q3 | exact y4q4 | exact y4q5 | exact y4q6 | exact y4q7) | exact hs
          all_goals first | ((fail_if_success (apply X.needT)); refine X.calls [] k2 ?_ ?_ ?_ ?_; (focus (cbv; done)); (focus (cbv <;> (and_intros <;> first | rfl | trivial))); (focus (cbv; done)); (repeat' (first | (refine X.g ?_; cbv) | refine X.splitT ?_ | refine X.splitF ?_ | refine X.sp (fun hc => ?_) (fun hc => ?_) | refine X.needT ?_ | refine X.fork _ _ ?_ ?_ | refine X.idx _ _ _ _ _ _ _ _ hnames hz ?_ | refine X.ldq _ _ _ _ _ _ _ _ _ hnames ?_ | refine X.need _ _ _ (hgrow _) ?_ | fail)) <;> first | exact y5q0 | exact y5q1 | exact y5q2 | exact y5q3 | exact y5q4 | exact y5q5 | exact y5q6 | exact y5q7) | exact hs
        all_goals first | ((fail_if_success (apply X.needT)); refine X.calls [1] m4 ?_ ?_ ?_ ?_; (focus (cbv; done)); (focus (cbv <;> (and_intros <;> first | rfl | trivial))); (focus (cbv; done)); (repeat' (first | (refine X.g ?_; cbv) | refine X.splitT ?_ | refine X.splitF ?_ | refine X.sp (fun hc => ?_) (fun hc => ?_) | refine X.needT ?_ | refine X.fork _ _ ?_ ?_ | refine X.idx _ _ _ _ _ _ _ _ hnames hz ?_ | refine X.ldq _ _ _ _ _ _ _ _ _ hnames ?_ | refine X.need _ _ _ (hgrow _) ?_ | fail)) <;> first | exact y6q0 | exact y6q1 | exact y6q2 | exact y6q3 | exact y6q4 | exact y6q5 | exact y6q6 | exact y6q7) | exact hs
      all_goals first | ((fail_if_success (apply X.needT)); refine X.calls [] k3 ?_ ?_ ?_ ?_; (focus (cbv; done)); (focus (cbv <;> (and_intros <;> first | rfl | trivial))); (focus (cbv; done)); (repeat' (first | (refine X.g ?_; cbv) | refine X.splitT ?_ | refine X.splitF ?_ | refine X.sp (fun hc => ?_) (fun hc => ?_) | refine X.needT ?_ | refine X.fork _ _ ?_ ?_ | refine X.idx _ _ _ _ _ _ _ _ hnames hz ?_ | refine X.ldq _ _ _ _ _ _ _ _ _ hnames ?_ | refine X.need _ _ _ (hgrow _) ?_ | fail)) <;> first | exact hs) | exact hs
    · refine hB' _ ?_; clear hB'; (cbv <;> (and_intros <;> first | exact e1 | rfl | trivial))
  rw [Nat.zero_add] at hz
  have c4 : A.cmp .lss z (A.bin .add .i64 (A.llen (gP np)) d) = false := ltF hA hz v4 (by omega)
  clear hz hI
  (repeat' (first | (refine X.g ?_; cbv) | refine X.splitT ?_ | refine X.splitF ?_ | refine X.sp (fun hc => ?_) (fun hc => ?_) | refine X.needT ?_ | (refine X.calls [1] n5 ?_ ?_ ?_ ?_; (focus (cbv; done)); (focus (cbv <;> (and_intros <;> first | rfl | trivial))); (focus (cbv; done))) | fail))
  refine X.loopG _ _ _ (X.nilB 2 4 48 13 _ _ ?_)
  (refine X.g ?_; cbv)
  refine rangesS X 0 ng (fun _ => True) (fun z _ => [(126, .v (.int .i64 z))]) (fun i o => (o.set 1 (.box [.l 1 (sG i)] 188)).set 7 (.row 48 13 (gG i))) trivial ?_ (fun i z hz hi hI B hB => ?_) (fun z hz hI B => ?_)
  · (cbv <;> (and_intros <;> first | exact q4 | rfl | trivial))
  · refine anyK X fun K0 => ?_
    rw [Nat.zero_add] at hz
    have c5 : A.cmp .lss z e = true := ltT hA hz v5 hi
    have hll := (zG i).1
    obtain ⟨u0, hu0⟩ : ∃ u, u = (iterM (fun _ => gateM) l5 i).2 := ⟨_, rfl⟩
    rw [← hu0] at hll
    obtain ⟨x1, u1, j1⟩ : ∃ a l, nextM 60 u0 = (a, l) := ⟨_, _, rfl⟩
    obtain ⟨x2, u2, j2⟩ : ∃ a l, nextM 60 u1 = (a, l) := ⟨_, _, rfl⟩
    obtain ⟨x3, u3, j3⟩ : ∃ a l, nextM 12 u2 = (a, l) := ⟨_, _, rfl⟩
    obtain ⟨x4, u4, j4⟩ : ∃ a l, nextM 12 u3 = (a, l) := ⟨_, _, rfl⟩
    have d1 := next_bd j1 (by decide)
    have d2 := next_bd j2 (by decide)
    have d3 := next_bd j3 (by decide)
    have d4 := next_bd j4 (by decide)
    obtain ⟨t1, ht1⟩ : ∃ e, e = lsAv numC u1 := ⟨_, rfl⟩
    obtain ⟨t2, ht2⟩ : ∃ e, e = lsAv numC u2 := ⟨_, rfl⟩
    obtain ⟨t3, ht3⟩ : ∃ e, e = lsAv numC u3 := ⟨_, rfl⟩
    obtain ⟨p0, hp0⟩ : ∃ s, s = atM (x1 - 30) (x2 - 30) := ⟨_, rfl⟩
    obtain ⟨p1, hp1⟩ : ∃ s, s = atM (x1 - 30 + x3) (x2 - 30 + x4) := ⟨_, rfl⟩
    have hlm : gateM u0 = (⟨doorM, ⟨p0, p1⟩⟩, u4) := by
      simp only [gateM, j1, j2, j3, j4, hp0, hp1]
    rw [hu0] at hlm
    have ht4 := iter_st hsG hlm
    have e1 := iter_app hA hgG hlm
    simp only [Gt.c, doorM] at e1
    have m1 := nextE (n := 60) rfl u0 (by omega) (by decide) j1 (sG i) t1 (by rw [hsG, hu0]) ht1
    have m2 := nextE (n := 60) rfl u1 (by omega) (by decide) j2 t1 t2 ht1 ht2
    have m3 := nextE (n := 12) rfl u2 (by omega) (by decide) j3 t2 t3 ht2 ht3
    have m4 := nextE (n := 12) rfl u3 (by omega) (by decide) j4 t3 (sG (i + 1)) ht3 ht4
    have o1 := zsub hA (x := x1) rfl (y := 30) rfl (by omega)
    have o2 := zsub hA (x := x2) rfl (y := 30) rfl (by omega)
    have o3 := zadd hA o1 (y := x3) rfl (by omega)
    have o4 := zadd hA o2 (y := x4) rfl (by omega)
    have k1 := makeAtE o1 o2 (by omega) (by omega) p0 hp0
    have k2 := makeAtE o3 o4 (by omega) (by omega) p1 hp1
    have hgrow : ∀ c, AE.GrowR (A.llen (gG i)) (A.llen [c]) 176 := fun c => grow1 hA (n := 8) (by rw [hgG, lsAv_len, (zG i).2]; omega) (by decide) (by decide)
    have hB' := hB (A.bin .add .i64 z 1) (by rw [Nat.zero_add]; exact addI hA hz (y := 1) (b := 1) rfl (by omega)) trivial
    clear hB n1 n2 n3 n4 n5 n6 ht1 ht2 ht3 ht4 j1 j2 j3 j4
    (repeat' (first | (refine X.g ?_; cbv) | refine X.splitT ?_ | refine X.splitF ?_ | refine X.sp (fun hc => ?_) (fun hc => ?_) | refine X.needT ?_ | (refine X.calls [1] m1 ?_ ?_ ?_ ?_; (focus (cbv; done)); (focus (cbv <;> (and_intros <;> first | rfl | trivial))); (focus (cbv; done))) | (refine X.calls [1] m2 ?_ ?_ ?_ ?_; (focus (cbv; done)); (focus (cbv <;> (and_intros <;> first | rfl | trivial))); (focus (cbv; done))) | fail))
    apply shareG X
    · intro hs
      apply share8 X
      · intro y3q0 y3q1 y3q2 y3q3 y3q4 y3q5 y3q6 y3q7
        apply share8 X
        · intro y2q0 y2q1 y2q2 y2q3 y2q4 y2q5 y2q6 y2q7
          apply share8 X
          · intro y1q0 y1q1 y1q2 y1q3 y1q4 y1q5 y1q6 y1q7
            apply share8 X
            · intro y0q0 y0q1 y0q2 y0q3 y0q4 y0q5 y0q6 y0q7
              refine X.drawX _ _ _ (by kernel_rfl) ?_
              (repeat' (first | (refine X.g ?_; cbv) | refine X.splitT ?_ | refine X.splitF ?_ | refine X.sp (fun hc => ?_) (fun hc => ?_) | refine X.needT ?_ | refine X.fork _ _ ?_ ?_ | refine X.need _ _ _ (hgrow _) ?_ | fail))
              all_goals first | exact y0q0 | exact y0q1 | exact y0q2 | exact y0q3 | exact y0q4 | exact y0q5 | exact y0q6 | exact y0q7
            all_goals first | ((fail_if_success (apply X.needT)); refine X.calls [] k1 ?_ ?_ ?_ ?_; (focus (cbv; done)); (focus (cbv <;> (and_intros <;> first | rfl | trivial))); (focus (cbv; done)); (repeat' (first | (refine X.g ?_; cbv) | refine X.splitT ?_ | refine X.splitF ?_ | refine X.sp (fun hc => ?_) (fun hc => ?_) | refine X.needT ?_ | refine X.fork _ _ ?_ ?_ | refine X.need _ _ _ (hgrow _) ?_ | fail)) <;> first | exact y1q0 | exact y1q1 | exact y1q2 | exact y1q3 | exact y1q4 | exact y1q5 | exact y1q6 | exact y1q7) | exact hs
          all_goals first | ((fail_if_success (apply X.needT)); refine X.calls [1] m3 ?_ ?_ ?_ ?_; (focus (cbv; done)); (focus (cbv <;> (and_intros <;> first | rfl | trivial))); (focus (cbv; done)); (repeat' (first | (refine X.g ?_; cbv) | refine X.splitT ?_ | refine X.splitF ?_ | refine X.sp (fun hc => ?_) (fun hc => ?_) | refine X.needT ?_ | refine X.fork _ _ ?_ ?_ | refine X.need _ _ _ (hgrow _) ?_ | fail)) <;> first | exact y2q0 | exact y2q1 | exact y2q2 | exact y2q3 | exact y2q4 | exact y2q5 | exact y2q6 | exact y2q7) | exact hs
        all_goals first | ((fail_if_success (apply X.needT)); refine X.calls [1] m4 ?_ ?_ ?_ ?_; (focus (cbv; done)); (focus (cbv <;> (and_intros <;> first | rfl | trivial))); (focus (cbv; done)); (repeat' (first | (refine X.g ?_; cbv) | refine X.splitT ?_ | refine X.splitF ?_ | refine X.sp (fun hc => ?_) (fun hc => ?_) | refine X.needT ?_ | refine X.fork _ _ ?_ ?_ | refine X.need _ _ _ (hgrow _) ?_ | fail)) <;> first | exact y3q0 | exact y3q1 | exact y3q2 | exact y3q3 | exact y3q4 | exact y3q5 | exact y3q6 | exact y3q7) | exact hs
      all_goals first | ((fail_if_success (apply X.needT)); refine X.calls [] k2 ?_ ?_ ?_ ?_; (focus (cbv; done)); (focus (cbv <;> (and_intros <;> first | rfl | trivial))); (focus (cbv; done)); (repeat' (first | (refine X.g ?_; cbv) | refine X.splitT ?_ | refine X.splitF ?_ | refine X.sp (fun hc => ?_) (fun hc => ?_) | refine X.needT ?_ | refine X.fork _ _ ?_ ?_ | refine X.need _ _ _ (hgrow _) ?_ | fail)) <;> first | exact hs) | exact hs
    · refine hB' _ ?_; clear hB'; (cbv <;> (and_intros <;> first | exact e1 | rfl | trivial))
  rw [Nat.zero_add] at hz
  have c5 : A.cmp .lss z e = false := ltF hA hz v5 (by omega)
  clear hz hI
  refine X.frz 3 _ _ (X.frz 4 _ _ (X.frz 5 _ _ (X.frz 6 _ _ (X.frz 7 _ _ ?_))))
  (repeat' (first | (refine X.g ?_; cbv) | refine X.splitT ?_ | refine X.splitF ?_ | refine X.sp (fun hc => ?_) (fun hc => ?_) | refine X.needT ?_ | (refine X.calls [1] n6 ?_ ?_ ?_ ?_; (focus (cbv; done)); (focus (cbv <;> (and_intros <;> first | rfl | trivial))); (focus (cbv; done))) | refine X.callsA [] hq8 ?_ | fail))
  all_goals (refine X.ret _ (X.done rfl ?_); cbv <;> (and_intros <;> first | rfl | trivial))
end Go.Proofs.YthadehkggddgoaaGreatDoor
