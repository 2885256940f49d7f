/- Plain laws: the works that numbers determine is valid. -/
import Derived.Test.YthadehkggddgoaaGreatDoorZMakeW
import Derived.Test.YthadehkggddgoaaGreatDoorZPlain
set_option linter.unusedVariables false
set_option linter.unusedSimpArgs false
namespace Go.Proofs.YthadehkggddgoaaGreatDoor
open Go Go.Num
theorem vlt_trans {a b c : Rat} (h : a < b) (h2 : b < c) : a < c := by
  rw [← Rat.not_le]; intro h3
  exact Rat.not_le.2 h (Rat.le_trans (Rat.le_of_lt h2) h3)
theorem smallMk {z : Int} {d : Nat} (hd : d ≠ 0) (h1 : z.natAbs ≤ 1000000) (h2 : d ≤ 1000) : (Q.of (mkRat z d)).Small := (smallOf _).2 ⟨Nat.le_trans (mkRat_le z d hd).1 h1, Nat.le_trans (mkRat_le z d hd).2 h2⟩
theorem Q.Small.sz {q : Q} (h : q.Small) : q.sz ≤ 3 := by have := h.size; unfold Q.sz; omega
theorem V2.Small.sz {p : V2} (h : p.Small) : p.sz ≤ 3 := by
  have := h.1.sz
  have := h.2.sz
  simp only [V2.sz]; omega
theorem atSmall {x y : Int} (hx : x.natAbs ≤ 1000000) (hy : y.natAbs ≤ 1000000) : (atM x y).Small := ⟨smallMk (by decide) hx (by decide), smallMk (by decide) hy (by decide)⟩
def ptR (p : Int × Int) : RV := ⟨mkRat p.1 4, mkRat p.2 4⟩
theorem atM_v (p : Int × Int) : (atM p.1 p.2).v = ptR p := V2.v_of _
def detI (a b c : Int × Int) : Int := (b.1 - a.1) * (c.2 - a.2) - (b.2 - a.2) * (c.1 - a.1)
theorem mk4 (n : Int) : mkRat n 4 = (n : Rat) * mkRat 1 4 := by
  rw [← mkRat_one n, Rat.mkRat_mul_mkRat, Int.mul_one, Nat.one_mul]
theorem rsub_mul (a b c : Rat) : (a - b) * c = a * c - b * c := by
  rw [Rat.sub_eq_add_neg, Rat.add_mul, Rat.neg_mul, ← Rat.sub_eq_add_neg]
theorem quarter (a b c d : Int) : (mkRat a 4 - mkRat b 4) * (mkRat c 4 - mkRat d 4) = (((a - b) * (c - d) : Int) : Rat) * (mkRat 1 4 * mkRat 1 4) := by
  rw [mk4 a, mk4 b, mk4 c, mk4 d, ← rsub_mul, ← rsub_mul, ← Rat.intCast_sub, ← Rat.intCast_sub, Rat.intCast_mul]
  generalize ((a - b : Int) : Rat) = x
  generalize ((c - d : Int) : Rat) = y
  generalize mkRat 1 4 = q
  rw [Rat.mul_assoc, Rat.mul_assoc, ← Rat.mul_assoc q y q, Rat.mul_comm q y, Rat.mul_assoc y q q]
theorem left_pos {a b c : Int × Int} (h : 0 < detI a b c) : 0 < leftR (ptR a) (ptR b) (ptR c) := by
  have e : ((ptR b).sub (ptR a)).cross ((ptR c).sub (ptR a)) = ((detI a b c : Int) : Rat) * (mkRat 1 4 * mkRat 1 4) := by
    show (mkRat b.1 4 - mkRat a.1 4) * (mkRat c.2 4 - mkRat a.2 4) - (mkRat b.2 4 - mkRat a.2 4) * (mkRat c.1 4 - mkRat a.1 4) = _
    rw [quarter, quarter, ← rsub_mul, ← Rat.intCast_sub]; rfl
  have p : (0 : Rat) < ((detI a b c : Int) : Rat) * (mkRat 1 4 * mkRat 1 4) := Rat.mul_pos (Rat.intCast_pos.2 h) (by decide +kernel)
  rw [leftR, e, sgnR]
  generalize ((detI a b c : Int) : Rat) * (mkRat 1 4 * mkRat 1 4) = r at p
  rw [if_neg (fun h => by rw [h] at p; exact absurd p (by decide +kernel)), if_neg (fun h => absurd (vlt_trans p h) Rat.lt_irrefl)]
  decide
def okI (l : List (Int × Int)) : Prop := ∀ i, i < l.length → ∀ k, k < l.length - 2 → 0 < detI (l.getD i (0, 0)) (l.getD ((i + 1) % l.length) (0, 0)) (l.getD ((i + (k + 2)) % l.length) (0, 0))
instance (l : List (Int × Int)) : Decidable (okI l) := by unfold okI; infer_instance
def ptsM (l : List (Int × Int)) : List V2 := l.map fun p => atM p.1 p.2
theorem pts_getD (l : List (Int × Int)) {i : Nat} (h : i < l.length) : ((ptsM l).map V2.v).getD i .zero = ptR (l.getD i (0, 0)) := by
  have h2 : i < ((ptsM l).map V2.v).length := by simpa [ptsM] using h
  rw [List.getD_eq_getElem?_getD, List.getD_eq_getElem?_getD, List.getElem?_eq_getElem h2, List.getElem?_eq_getElem h]
  simp only [Option.getD_some, ptsM, List.getElem_map]
  exact atM_v _
theorem polyC_pts {l : List (Int × Int)} (h3 : 3 ≤ l.length) (h8 : l.length ≤ 8) (h : okI l) : polyC 8 (ptsM l) = 0 := by
  have hl : (ptsM l).length = l.length := by simp [ptsM]
  have hp : polyOK ((ptsM l).map V2.v) := by
    intro i hi k hk
    have hl2 : ((ptsM l).map V2.v).length = l.length := by simp [ptsM]
    rw [hl2] at hi hk
    have h0 : 0 < l.length := by omega
    rw [polyAt, hl2, pts_getD l hi, pts_getD l (Nat.mod_lt _ h0), pts_getD l (Nat.mod_lt _ h0)]
    exact left_pos (h i hi k hk)
  rw [polyC, hl, if_neg (by omega), if_neg (by omega), if_pos hp]
theorem rectM_pts (x y u v : Int) : rectM x y u v = ptsM [(x, y), (u, y), (u, v), (x, v)] := rfl
theorem rect_okI {x y u v : Int} (h1 : x < u) (h2 : y < v) : okI [(x, y), (u, y), (u, v), (x, v)] := by
  have p1 : 0 < (u - x) * (v - y) := Int.mul_pos (by omega) (by omega)
  have p2 : (v - y) * (x - u) < 0 := Int.mul_neg_of_pos_of_neg (by omega) (by omega)
  have p3 : 0 < (x - u) * (y - v) := Int.mul_pos_of_neg_of_neg (by omega) (by omega)
  have p4 : (y - v) * (u - x) < 0 := Int.mul_neg_of_neg_of_pos (by omega) (by omega)
  have hl : ([(x, y), (u, y), (u, v), (x, v)] : List (Int × Int)).length = 4 := rfl
  intro i hi k hk
  rw [hl] at hi hk ⊢
  match i, k, hi, (show k < 2 from hk) with
  | 0, 0, _, _ => show 0 < (u - x) * (v - y) - (y - y) * (u - x); rw [Int.sub_self, Int.zero_mul]; omega
  | 0, 1, _, _ => show 0 < (u - x) * (v - y) - (y - y) * (x - x); rw [Int.sub_self, Int.zero_mul]; omega
  | 1, 0, _, _ => show 0 < (u - u) * (v - y) - (v - y) * (x - u); rw [Int.sub_self, Int.zero_mul]; omega
  | 1, 1, _, _ => show 0 < (u - u) * (y - y) - (v - y) * (x - u); rw [Int.sub_self, Int.zero_mul]; omega
  | 2, 0, _, _ => show 0 < (x - u) * (y - v) - (v - v) * (x - u); rw [Int.sub_self, Int.zero_mul]; omega
  | 2, 1, _, _ => show 0 < (x - u) * (y - v) - (v - v) * (u - u); rw [Int.sub_self, Int.zero_mul]; omega
  | 3, 0, _, _ => show 0 < (x - x) * (y - v) - (y - v) * (u - x); rw [Int.sub_self, Int.zero_mul]; omega
  | 3, 1, _, _ => show 0 < (x - x) * (v - v) - (y - v) * (u - x); rw [Int.sub_self, Int.zero_mul]; omega
theorem shapeC_pts {l : List (Int × Int)} (h3 : 3 ≤ l.length) (h8 : l.length ≤ 8) (h : okI l) (hs : ∀ p ∈ l, p.1.natAbs ≤ 1000000 ∧ p.2.natAbs ≤ 1000000) : polyC 8 (ptsM l) = 0 ∧ ∀ p ∈ ptsM l, p.Small := by
  refine ⟨polyC_pts h3 h8 h, fun p hp => ?_⟩
  obtain ⟨q, hq, rfl⟩ := List.mem_map.1 hp
  exact atSmall (hs q hq).1 (hs q hq).2
theorem shape_of {l : List V2} (h : polyC 8 l = 0 ∧ ∀ p ∈ l, p.Small) : shapeC l = 0 := by
  rw [shapeC, h.1, decide_eq_true h.2]; rfl
theorem rect_good {x y u v : Int} (h1 : x < u) (h2 : y < v) (hx : x.natAbs ≤ 1000000) (hy : y.natAbs ≤ 1000000) (hu : u.natAbs ≤ 1000000) (hv : v.natAbs ≤ 1000000) : polyC 8 (rectM x y u v) = 0 ∧ ∀ p ∈ rectM x y u v, p.Small := by
  rw [rectM_pts]
  refine shapeC_pts (by simp) (by simp) (rect_okI h1 h2) ?_
  simp only [List.mem_cons, List.not_mem_nil, or_false, forall_eq_or_imp, forall_eq]
  exact ⟨⟨hx, hy⟩, ⟨hu, hy⟩, ⟨hu, hv⟩, ⟨hx, hv⟩⟩
def poly1 (w h d : Int) : List (Int × Int) := [(-w, -h), (w, -h), (d - w, h)]
def poly2 (w h : Int) : List (Int × Int) := [(-w - 1, -h - 1), (w, -h - 1), (w + 1, -h), (w + 1, h), (-w - 1, h)]
def poly3 (w h : Int) : List (Int × Int) := [(-w, 0), (0, -h), (w, 0), (0, h)]
theorem poly1_ok : ∀ a, a < 6 → ∀ b, b < 6 → ∀ d, d < 13 → okI (poly1 ((1 + a : Nat) : Int) ((1 + b : Nat) : Int) (d : Nat)) := by decide +kernel
theorem poly2_ok : ∀ a, a < 6 → ∀ b, b < 6 → okI (poly2 ((1 + a : Nat) : Int) ((1 + b : Nat) : Int)) := by decide +kernel
theorem poly3_ok : ∀ a, a < 6 → ∀ b, b < 6 → okI (poly3 ((1 + a : Nat) : Int) ((1 + b : Nat) : Int)) := by decide +kernel
theorem polyM_good (l : List Int) : polyC 8 (polyM l).1 = 0 ∧ ∀ p ∈ (polyM l).1, p.Small := by
  obtain ⟨a, l1, h1⟩ : ∃ a l', nextM 6 l = (a, l') := ⟨_, _, rfl⟩
  obtain ⟨b, l2, h2⟩ : ∃ a l', nextM 6 l1 = (a, l') := ⟨_, _, rfl⟩
  obtain ⟨c, l3, h3⟩ : ∃ a l', nextM 4 l2 = (a, l') := ⟨_, _, rfl⟩
  obtain ⟨d, l4, h4⟩ : ∃ d l', nextM (2 * (1 + a) + 1) l3 = (d, l') := ⟨_, _, rfl⟩
  have b1 := next_bd h1 (by decide)
  have b2 := next_bd h2 (by decide)
  have b4 := next_bd h4 (by omega)
  obtain ⟨na, hna⟩ : ∃ n : Nat, a = n := ⟨a.toNat, by omega⟩
  obtain ⟨nb, hnb⟩ : ∃ n : Nat, b = n := ⟨b.toNat, by omega⟩
  obtain ⟨nd, hnd⟩ : ∃ n : Nat, d = n := ⟨d.toNat, by omega⟩
  have ea : ((1 + na : Nat) : Int) = 1 + a := by omega
  have eb : ((1 + nb : Nat) : Int) = 1 + b := by omega
  have p1 := poly1_ok na (by omega) nb (by omega) nd (by omega)
  have p2 := poly2_ok na (by omega) nb (by omega)
  have p3 := poly3_ok na (by omega) nb (by omega)
  rw [ea, eb] at p2 p3
  rw [ea, eb, ← hnd] at p1
  simp only [polyM, h1, h2, h3, h4]
  split
  · exact rect_good (x := -(1 + a)) (y := -(1 + b)) (u := 1 + a) (v := 1 + b) (by omega) (by omega) (by omega) (by omega) (by omega) (by omega)
  · split
    · refine shapeC_pts (l := poly1 (1 + a) (1 + b) d) (by simp [poly1]) (by simp [poly1]) p1 ?_
      simp only [poly1, List.mem_cons, List.not_mem_nil, or_false, forall_eq_or_imp, forall_eq]
      omega
    · split
      · refine shapeC_pts (l := poly2 (1 + a) (1 + b)) (by simp [poly2]) (by simp [poly2]) p2 ?_
        simp only [poly2, List.mem_cons, List.not_mem_nil, or_false, forall_eq_or_imp, forall_eq]
        omega
      · refine shapeC_pts (l := poly3 (1 + a) (1 + b)) (by simp [poly3]) (by simp [poly3]) p3 ?_
        simp only [poly3, List.mem_cons, List.not_mem_nil, or_false, forall_eq_or_imp, forall_eq]
        omega
theorem mk_split (z : Int) (d : Nat) : mkRat z d = (z : Rat) * mkRat 1 d := by
  rw [← mkRat_one z, Rat.mkRat_mul_mkRat, Int.mul_one, Nat.one_mul]
theorem mk_one_pos {d : Nat} (hd : d ≠ 0) : 0 < mkRat 1 d := by
  rw [Rat.lt_iff, Rat.num_mkRat, if_neg hd]
  simp
theorem mk_pos {z : Int} {d : Nat} (hd : d ≠ 0) (h : 0 < z) : 0 < mkRat z d := by
  rw [mk_split]; exact Rat.mul_pos (Rat.intCast_pos.2 h) (mk_one_pos hd)
theorem mk_neg {z : Int} {d : Nat} (hd : d ≠ 0) (h : z < 0) : mkRat z d < 0 := by
  rw [mk_split, Rat.mul_neg_iff_of_pos_right (mk_one_pos hd)]
  exact Rat.intCast_lt_intCast.2 h
theorem mk_le {a b : Int} {d : Nat} (hd : d ≠ 0) (h : a ≤ b) : mkRat a d ≤ mkRat b d := by
  rw [mk_split a, mk_split b]
  exact Rat.mul_le_mul_of_nonneg_right (Rat.intCast_le_intCast.2 h) (Rat.le_of_lt (mk_one_pos hd))
theorem sgn_pos {r : Rat} (p : 0 < r) : sgnR r = 1 := by
  rw [sgnR, if_neg (fun h => by rw [h] at p; exact absurd p (by decide +kernel)), if_neg (fun h => absurd (vlt_trans p h) Rat.lt_irrefl)]
theorem sgn_nonneg {r : Rat} (p : 0 ≤ r) : 0 ≤ sgnR r := by
  rw [sgnR]
  split
  · decide
  · rw [if_neg (Rat.not_lt.2 p)]; decide
theorem linkM_ok (l : List Int) : linkC (linkM l).1 = 0 ∧ (linkM l).1.le (2 ^ 28) := by
  obtain ⟨a, l1, h1⟩ : ∃ a l', nextM 4 l = (a, l') := ⟨_, _, rfl⟩
  obtain ⟨b, l2, h2⟩ : ∃ a l', nextM 6 l1 = (a, l') := ⟨_, _, rfl⟩
  obtain ⟨c, l3, h3⟩ : ∃ a l', nextM 6 l2 = (a, l') := ⟨_, _, rfl⟩
  obtain ⟨d, l4, h4⟩ : ∃ a l', nextM 8 l3 = (a, l') := ⟨_, _, rfl⟩
  obtain ⟨e, l5, h5⟩ : ∃ a l', nextM 20 l4 = (a, l') := ⟨_, _, rfl⟩
  obtain ⟨f, l6, h6⟩ : ∃ a l', nextM 3 l5 = (a, l') := ⟨_, _, rfl⟩
  have b1 := next_bd h1 (by decide)
  have b2 := next_bd h2 (by decide)
  have b3 := next_bd h3 (by decide)
  have b4 := next_bd h4 (by decide)
  have b5 := next_bd h5 (by decide)
  obtain ⟨sh, hsh⟩ : ∃ s, s = if f = 2 then [atM (-1) (-1), atM (4 + 2 * a + 1) 0, atM (-1) 1] else rectM (-1) (-1) (4 + 2 * a + 1) 1 := ⟨_, rfl⟩
  have hlm : (linkM l).1 = ⟨Q.of (mkRat (4 + 2 * a) 4), Q.of (mkRat (-1 - b) 3), Q.of (mkRat (1 + c) 3), Q.of (mkRat 1 (4 + d).toNat), Q.of (mkRat 1 (10 + e).toNat), sh⟩ := by
    simp only [linkM, h1, h2, h3, h4, h5, h6, hsh]
  have hg : polyC 8 sh = 0 ∧ ∀ p ∈ sh, p.Small := by
    rw [hsh]
    split
    · refine shapeC_pts (l := [(-1, -1), (4 + 2 * a + 1, 0), (-1, 1)]) (by simp) (by simp) ?_ ?_
      · have hl : ([(-1, -1), (4 + 2 * a + 1, 0), (-1, 1)] : List (Int × Int)).length = 3 := rfl
        intro i hi k hk
        rw [hl] at hi hk ⊢
        match i, k, hi, (show k < 1 from hk) with
        | 0, 0, _, _ => show 0 < (4 + 2 * a + 1 - -1) * (1 - -1) - (0 - -1) * (-1 - -1); omega
        | 1, 0, _, _ => show 0 < (-1 - (4 + 2 * a + 1)) * (-1 - 0) - (1 - 0) * (-1 - (4 + 2 * a + 1)); omega
        | 2, 0, _, _ => show 0 < (-1 - -1) * (0 - 1) - (-1 - 1) * (4 + 2 * a + 1 - -1); omega
      · simp only [List.mem_cons, List.not_mem_nil, or_false, forall_eq_or_imp, forall_eq]
        omega
    · exact rect_good (by omega) (by decide) (by decide) (by decide) (by omega) (by decide)
  have s1 : (Q.of (mkRat (4 + 2 * a) 4)).Small := smallMk (by decide) (by omega) (by decide)
  have s2 : (Q.of (mkRat (-1 - b) 3)).Small := smallMk (by decide) (by omega) (by decide)
  have s3 : (Q.of (mkRat (1 + c) 3)).Small := smallMk (by decide) (by omega) (by decide)
  have s4 : (Q.of (mkRat 1 (4 + d).toNat)).Small := smallMk (by omega) (by decide) (by omega)
  have s5 : (Q.of (mkRat 1 (10 + e).toNat)).Small := smallMk (by omega) (by decide) (by omega)
  have hlen : sh.length ≤ 4 := by rw [hsh]; split <;> simp [rectM]
  rw [hlm]
  constructor
  · have k1 : ∀ q ∈ [Q.of (mkRat (4 + 2 * a) 4), Q.of (mkRat (-1 - b) 3), Q.of (mkRat (1 + c) 3), Q.of (mkRat 1 (4 + d).toNat), Q.of (mkRat 1 (10 + e).toNat)], q.Small := by
      simp only [List.mem_cons, List.not_mem_nil, or_false, forall_eq_or_imp, forall_eq]
      exact ⟨s1, s2, s3, s4, s5⟩
    have e1 : cmpR (mkRat (-1 - b) 3) (mkRat (1 + c) 3) = -1 := by
      rw [cmpR, if_pos (vlt_trans (mk_neg (by decide) (by omega)) (mk_pos (by decide) (by omega)))]
    simp only [linkC, decide_eq_true k1, decide_eq_true hg.2, Q.v_of, hg.1, e1]
    rw [sgn_pos (mk_pos (by decide) (by omega)), sgn_pos (mk_pos (by omega) (by decide)), sgn_pos (mk_pos (by omega) (by decide))]
    rfl
  · have z1 := s1.sz
    have z2 := s2.sz
    have z3 := s3.sz
    have z4 := s4.sz
    have z5 := s5.sz
    exact ⟨Nat.le_trans z1 (by decide), Nat.le_trans z2 (by decide), Nat.le_trans z3 (by decide), Nat.le_trans z4 (by decide), Nat.le_trans z5 (by decide), fun p hp => Nat.le_trans (hg.2 p hp).sz (by decide), by show sh.length < _; omega⟩
theorem firstE_zero {α : Type} {f : α → Int} : ∀ {l : List α}, (∀ x ∈ l, f x = 0) → firstE f l = 0
  | [], _ => rfl
  | x :: l, h => by rw [firstE, if_neg (by rw [h x (by simp)]; decide), firstE_zero fun y hy => h y (by simp [hy])]
theorem linksM_mem {l : List Int} {x : Lk} : ∀ k, x ∈ (linksM k l).1 → ∃ l', x = (linkM l').1
  | 0, h => by cases h
  | k + 1, h => by
    rcases List.mem_append.1 h with h | h
    · exact linksM_mem k h
    · exact ⟨_, List.mem_singleton.1 h⟩
theorem selM_bd (a : Int) : -1 ≤ selM a ∧ selM a ≤ 1 := by unfold selM; split <;> (try split) <;> (try split) <;> omega
theorem armM_good (n : Nat) (hn : n < 4) (l : List Int) : armC (armM n l).1 = 0 ∧ (armM n l).1.le (2 ^ 28) ∧ (armM n l).1.name = nameM n ∧ 1 ≤ (armM n l).1.links.length ∧ (armM n l).1.links.length ≤ 3 := by
  obtain ⟨a, l1, h1⟩ : ∃ a l', nextM 4 l = (a, l') := ⟨_, _, rfl⟩
  obtain ⟨b, l2, h2⟩ : ∃ a l', nextM 3 l1 = (a, l') := ⟨_, _, rfl⟩
  obtain ⟨c, l3, h3⟩ : ∃ a l', nextM 3 l2 = (a, l') := ⟨_, _, rfl⟩
  have b2 := next_bd h2 (by decide)
  have b3 := next_bd h3 (by decide)
  have hm : (armM n l).1 = ⟨nameM n, ⟨atM (40 * n) 0, ⟨false, Q.of (mkRat (selM a) (1 + b).toNat)⟩⟩, (linksM (1 + c).toNat l3).1⟩ := by
    simp only [armM, h1, h2, h3]
  have hsel := selM_bd a
  have s1 : (Q.of (mkRat (selM a) (1 + b).toNat)).Small := smallMk (by omega) (by omega) (by omega)
  have s2 : (atM (40 * n) 0).Small := atSmall (by omega) (by decide)
  have hll := (linksM_len l3 (1 + c).toNat).2
  have hk : ∀ k ∈ (linksM (1 + c).toNat l3).1, linkC k = 0 ∧ k.le (2 ^ 28) := fun k hk => by
    obtain ⟨l', rfl⟩ := linksM_mem _ hk
    exact linkM_ok l'
  have hname : nameOK (nameM n) := by
    match n, hn with
    | 0, _ => decide +kernel
    | 1, _ => decide +kernel
    | 2, _ => decide +kernel
    | 3, _ => decide +kernel
  rw [hm]
  refine ⟨?_, ⟨?_, ⟨?_, ?_⟩, fun k h => (hk k h).2, ?_⟩, rfl, ?_, ?_⟩
  · have k1 : ∀ q ∈ [(atM (40 * n) 0).x, (atM (40 * n) 0).y, Q.of (mkRat (selM a) (1 + b).toNat)], q.Small := by
      simp only [List.mem_cons, List.not_mem_nil, or_false, forall_eq_or_imp, forall_eq]
      exact ⟨s2.1, s2.2, s1⟩
    simp only [armC, decide_eq_true hname, decide_eq_true k1]
    rw [firstE_zero fun k h => (hk k h).1, armI, if_neg (by decide), if_neg (by omega), if_neg (by rintro (h | h | ⟨h, _⟩) <;> first | omega | cases h)]
  · have := hname.2.1
    show (nameM n).size < _; omega
  · have := s2.sz
    show (atM _ _).sz ≤ _; omega
  · have := s1.sz
    show (Q.of _).sz ≤ _; omega
  · show (linksM _ _).1.length < _; omega
  · show 1 ≤ (linksM _ _).1.length; omega
  · show (linksM _ _).1.length ≤ 3; omega
theorem wallM_good (l : List Int) : polyC 8 (wallM l).1 = 0 ∧ (∀ p ∈ (wallM l).1, p.Small) ∧ (wallM l).1.length = 4 := by
  obtain ⟨a, l1, h1⟩ : ∃ a l', nextM 80 l = (a, l') := ⟨_, _, rfl⟩
  obtain ⟨b, l2, h2⟩ : ∃ a l', nextM 30 l1 = (a, l') := ⟨_, _, rfl⟩
  obtain ⟨c, l3, h3⟩ : ∃ a l', nextM 2 l2 = (a, l') := ⟨_, _, rfl⟩
  obtain ⟨d, l4, h4⟩ : ∃ a l', nextM 20 l3 = (a, l') := ⟨_, _, rfl⟩
  obtain ⟨e, l5, h5⟩ : ∃ a l', nextM 5 l4 = (a, l') := ⟨_, _, rfl⟩
  have b1 := next_bd h1 (by decide)
  have b2 := next_bd h2 (by decide)
  have b4 := next_bd h4 (by decide)
  have b5 := next_bd h5 (by decide)
  obtain ⟨Y, hY⟩ : ∃ y : Int, y = if c = 1 then -(12 + b) - 6 else 12 + b := ⟨_, rfl⟩
  have hYb : -60 ≤ Y ∧ Y ≤ 60 := by rw [hY]; split <;> omega
  have hm : (wallM l).1 = rectM (a - 30) Y (a - 30 + 1 + d) (Y + 1 + e) := by
    simp only [wallM, h1, h2, h3, h4, h5, ← hY]
  have := rect_good (x := a - 30) (y := Y) (u := a - 30 + 1 + d) (v := Y + 1 + e) (by omega) (by omega) (by omega) (by omega) (by omega) (by omega)
  rw [hm]
  exact ⟨this.1, this.2, rfl⟩
theorem addN_ok {ns : List ByteArray} {s : ByteArray} (h1 : nameOK s) (h2 : s ∉ ns) : addN ns s = (0, ns ++ [s]) := by
  rw [addN, if_neg (by simpa using h1), if_neg h2]
theorem armN_ok (n : Nat) (hn : n < 4) (l : List Int) {ns : List ByteArray} (h : nameM n ∉ ns) : armN ns (armM n l).1 = (0, ns ++ [nameM n]) := by
  obtain ⟨h1, _, h3, _⟩ := armM_good n hn l
  have hname : nameOK (nameM n) := by
    match n, hn with
    | 0, _ => decide +kernel
    | 1, _ => decide +kernel
    | 2, _ => decide +kernel
    | 3, _ => decide +kernel
  rw [armN, if_neg (by rw [h1]; decide), h3, addN_ok hname h]
theorem frame_ok {f : Fr} (h1 : f.at_.Small) (h2 : f.turn.t.Small) (h3 : f.turn.half = false) : frameB f = true := by
  rw [frameB, decide_eq_true h1, decide_eq_true h2, h3]; rfl
theorem still0_ok : frameB still0 = true := frame_ok (atSmall (by decide) (by decide)) (smallMk (by decide) (by decide) (by decide)) rfl
theorem pname_ok (n : Nat) : nameOK (pnameM n) := by unfold pnameM; split <;> decide +kernel
theorem sname_ok (n : Nat) : nameOK (snameM n) := by unfold snameM; split <;> (try split) <;> decide +kernel
theorem partN_ok (n : Nat) (l : List Int) {ns : List ByteArray} (h : pnameM n ∉ ns) : partN ns (partM n l).1 = (0, ns ++ [pnameM n]) := by
  have e : addN ns (partM n l).1.name = (0, ns ++ [pnameM n]) := addN_ok (pname_ok n) h
  have e2 : shapeC (partM n l).1.shape = 0 := shape_of (polyM_good l)
  have e3 : frameB (partM n l).1.grasp = true := still0_ok
  rw [partN, e, e2, e3]; rfl
theorem slotM_good (n : Nat) (l : List Int) : (slotM n l).1.name = snameM n ∧ (slotM n l).1.frame.at_.Small ∧ (slotM n l).1.frame.turn.t.Small ∧ (slotM n l).1.frame.turn.half = false ∧ (slotM n l).1.within.Small ∧ 0 < (slotM n l).1.within.v := by
  obtain ⟨a, l1, h1⟩ : ∃ a l', nextM 40 l = (a, l') := ⟨_, _, rfl⟩
  obtain ⟨b, l2, h2⟩ : ∃ a l', nextM 24 l1 = (a, l') := ⟨_, _, rfl⟩
  obtain ⟨c, l3, h3⟩ : ∃ a l', nextM 5 l2 = (a, l') := ⟨_, _, rfl⟩
  obtain ⟨d, l4, h4⟩ : ∃ a l', nextM 20 l3 = (a, l') := ⟨_, _, rfl⟩
  have b1 := next_bd h1 (by decide)
  have b2 := next_bd h2 (by decide)
  have b3 := next_bd h3 (by decide)
  have b4 := next_bd h4 (by decide)
  have hm : (slotM n l).1 = ⟨snameM n, ⟨atM (a - 20) (b - 12), ⟨false, Q.of (mkRat (c - 2) 2)⟩⟩, Q.of (mkRat 1 (8 + d).toNat)⟩ := by
    simp only [slotM, h1, h2, h3, h4]
  rw [hm]
  refine ⟨rfl, atSmall (by omega) (by omega), smallMk (by decide) (by omega) (by decide), rfl, smallMk (by omega) (by decide) (by omega), ?_⟩
  show 0 < (Q.of _).v
  rw [Q.v_of]; exact mk_pos (by omega) (by decide)
theorem slotN_ok (n : Nat) (l : List Int) {ns : List ByteArray} (h : snameM n ∉ ns) : slotN ns (slotM n l).1 = (0, ns ++ [snameM n]) := by
  obtain ⟨h1, h2, h3, h4, h5, h6⟩ := slotM_good n l
  have e : addN ns (slotM n l).1.name = (0, ns ++ [snameM n]) := by rw [h1]; exact addN_ok (sname_ok n) h
  rw [slotN, e, frame_ok h2 h3 h4, decide_eq_true h5, sgn_pos h6]; rfl
theorem gateM_good (l : List Int) : (gateM l).1.name = doorM ∧ (gateM l).1.zone.low.Small ∧ (gateM l).1.zone.high.Small ∧ (gateM l).1.zone.low.x.v ≤ (gateM l).1.zone.high.x.v ∧ (gateM l).1.zone.low.y.v ≤ (gateM l).1.zone.high.y.v := by
  obtain ⟨a, l1, h1⟩ : ∃ a l', nextM 60 l = (a, l') := ⟨_, _, rfl⟩
  obtain ⟨b, l2, h2⟩ : ∃ a l', nextM 60 l1 = (a, l') := ⟨_, _, rfl⟩
  obtain ⟨c, l3, h3⟩ : ∃ a l', nextM 12 l2 = (a, l') := ⟨_, _, rfl⟩
  obtain ⟨d, l4, h4⟩ : ∃ a l', nextM 12 l3 = (a, l') := ⟨_, _, rfl⟩
  have b1 := next_bd h1 (by decide)
  have b2 := next_bd h2 (by decide)
  have b3 := next_bd h3 (by decide)
  have b4 := next_bd h4 (by decide)
  have hm : (gateM l).1 = ⟨doorM, ⟨atM (a - 30) (b - 30), atM (a - 30 + c) (b - 30 + d)⟩⟩ := by
    simp only [gateM, h1, h2, h3, h4]
  rw [hm]
  refine ⟨rfl, atSmall (by omega) (by omega), atSmall (by omega) (by omega), ?_, ?_⟩
  · show (Q.of _).v ≤ (Q.of _).v
    rw [Q.v_of, Q.v_of]; exact mk_le (by decide) (by omega)
  · show (Q.of _).v ≤ (Q.of _).v
    rw [Q.v_of, Q.v_of]; exact mk_le (by decide) (by omega)
theorem gateN_ok (l : List Int) {ns : List ByteArray} (h : doorM ∉ ns) : gateN ns (gateM l).1 = (0, ns ++ [doorM]) := by
  obtain ⟨h1, h2, h3, h4, h5⟩ := gateM_good l
  have e : addN ns (gateM l).1.name = (0, ns ++ [doorM]) := by rw [h1]; exact addN_ok (by decide +kernel) h
  have hs : ∀ p ∈ [(gateM l).1.zone.low, (gateM l).1.zone.high], p.Small := by
    simp only [List.mem_cons, List.not_mem_nil, or_false, forall_eq_or_imp, forall_eq]
    exact ⟨h2, h3⟩
  rw [gateN, e, decide_eq_true hs, gateI, if_neg (by show ¬ (0 : Int) ≠ 0; decide), if_pos ⟨rfl, cmpR_le.2 h4, cmpR_le.2 h5⟩]
theorem eachN_app {α : Type} {f : List ByteArray → α → Int × List ByteArray} : ∀ (l : List α) {x : α} {ns ms : List ByteArray}, eachN f ns l = (0, ms) → eachN f ns (l ++ [x]) = f ms x
  | [], x, ns, ms, h => by
    have : ns = ms := (Prod.mk.inj h).2
    subst this
    show (if (f ns x).1 ≠ 0 then f ns x else (0, (f ns x).2)) = _
    split
    · rfl
    · rename_i h0
      have : (f ns x).1 = 0 := Classical.not_not.1 h0
      rw [← this]
  | y :: l, x, ns, ms, h => by
    rw [eachN] at h
    rw [List.cons_append, eachN]
    split
    · rename_i h0
      rw [if_pos h0] at h
      rw [h] at h0; exact absurd rfl h0
    · rename_i h0
      rw [if_neg h0] at h
      exact eachN_app l h
theorem eachN_iter {α : Type} {g : List ByteArray → α → Int × List ByteArray} {f : Nat → List Int → α × List Int} {nm : Nat → ByteArray} {ns : List ByteArray} {l : List Int} : ∀ k, (∀ i, i < k → ∀ l', g (ns ++ (List.range i).map nm) (f i l').1 = (0, ns ++ (List.range i).map nm ++ [nm i])) → eachN g ns (iterM f l k).1 = (0, ns ++ (List.range k).map nm)
  | 0, _ => by simp [iterM, eachN]
  | k + 1, h => by
    rw [iterM, eachN_app _ (eachN_iter k fun i hi => h i (by omega)), h k (by omega), List.range_succ, List.map_append, List.append_assoc]; rfl
theorem namesA_ok : ∀ na, na < 3 → ∀ i, i < na → nameM i ∉ ((List.range i).map nameM) := by decide +kernel
theorem namesP_ok : ∀ na, na < 3 → ∀ i, i < 2 → pnameM i ∉ (List.range na).map nameM ++ (List.range i).map pnameM := by decide +kernel
theorem namesS_ok : ∀ na, na < 3 → ∀ np, np < 3 → ∀ i, i < 3 → snameM i ∉ (List.range na).map nameM ++ (List.range np).map pnameM ++ (List.range i).map snameM := by decide +kernel
theorem namesG_ok : ∀ na, na < 3 → ∀ np, np < 3 → ∀ ns, ns < 4 → doorM ∉ (List.range na).map nameM ++ (List.range np).map pnameM ++ (List.range ns).map snameM := by decide +kernel
theorem worksM_eq (l0 : List Int) : ∃ (na nw np ns ng : Nat) (l1 l2 l3 l4 l5 : List Int) (g : Int), 1 ≤ na ∧ na ≤ 2 ∧ nw ≤ 2 ∧ np ≤ 2 ∧ np ≤ ns ∧ ns ≤ 3 ∧ ng ≤ 1 ∧ 0 ≤ g ∧ g < 4 ∧ worksM l0 = ⟨(iterM armM l1 na).1, (iterM (fun _ => wallM) l2 nw).1, (iterM partM l3 np).1, (iterM slotM l4 ns).1, (iterM (fun _ => gateM) l5 ng).1, Q.of (mkRat g 8)⟩ := by
  obtain ⟨a, l1, h1⟩ : ∃ a l, nextM 2 l0 = (a, l) := ⟨_, _, rfl⟩
  have b1 := next_bd h1 (by decide)
  obtain ⟨b, l2, h2⟩ : ∃ b l, nextM 3 (iterM armM l1 (1 + a).toNat).2 = (b, l) := ⟨_, _, rfl⟩
  have b2 := next_bd h2 (by decide)
  obtain ⟨c, l3, h3⟩ : ∃ c l, nextM 3 (iterM (fun _ => wallM) l2 b.toNat).2 = (c, l) := ⟨_, _, rfl⟩
  have b3 := next_bd h3 (by decide)
  obtain ⟨d, l4, h4⟩ : ∃ d l, nextM 2 (iterM partM l3 c.toNat).2 = (d, l) := ⟨_, _, rfl⟩
  have b4 := next_bd h4 (by decide)
  obtain ⟨e, l5, h5⟩ : ∃ e l, nextM 2 (iterM slotM l4 (c + d).toNat).2 = (e, l) := ⟨_, _, rfl⟩
  have b5 := next_bd h5 (by decide)
  obtain ⟨g, l6, h6⟩ : ∃ g l, nextM 4 (iterM (fun _ => gateM) l5 e.toNat).2 = (g, l) := ⟨_, _, rfl⟩
  have b6 := next_bd h6 (by decide)
  refine ⟨(1 + a).toNat, b.toNat, c.toNat, (c + d).toNat, e.toNat, l1, l2, l3, l4, l5, g, by omega, by omega, by omega, by omega, by omega, by omega, by omega, by omega, by omega, ?_⟩
  simp only [worksM, h1, h2, h3, h4, h5, h6]
theorem worksM_ok (l0 : List Int) : worksC (worksM l0) = 0 := by
  obtain ⟨na, nw, np, ns, ng, l1, l2, l3, l4, l5, g, a1, a2, a3, a4, a5, a6, a7, a8, a9, hw⟩ := worksM_eq l0
  have y1 := (iterM_len armM_len l1 na).2
  have y2 := (iterM_len (f := fun _ => wallM) (fun _ => wallM_len) l2 nw).2
  have y3 := (iterM_len (f := partM) (fun _ => polyM_len) l3 np).2
  have y4 := (iterM_len slotM_len l4 ns).2
  have y5 := (iterM_len (f := fun _ => gateM) (fun _ => gateM_len) l5 ng).2
  have e1 : wksA (worksM l0) = (0, (List.range na).map nameM) := by
    rw [wksA, hw]
    have := eachN_iter (g := armN) (f := armM) (nm := nameM) (ns := []) (l := l1) na fun i hi l' => armN_ok i (by omega) l' (by simpa using namesA_ok na (by omega) i hi)
    simpa using this
  have e2 : wksP (worksM l0) = (0, (List.range na).map nameM ++ (List.range np).map pnameM) := by
    rw [wksP, e1, hw]
    exact eachN_iter (g := partN) (f := partM) (nm := pnameM) (l := l3) np fun i hi l' => partN_ok i l' (namesP_ok na (by omega) i (by omega))
  have e3 : wksS (worksM l0) = (0, (List.range na).map nameM ++ (List.range np).map pnameM ++ (List.range ns).map snameM) := by
    rw [wksS, e2, hw]
    exact eachN_iter (g := slotN) (f := slotM) (nm := snameM) (l := l4) ns fun i hi l' => slotN_ok i l' (namesS_ok na (by omega) np (by omega) i (by omega))
  have e4 : (wksG (worksM l0)).1 = 0 := by
    rw [wksG, e3, hw]
    have := eachN_iter (g := gateN) (f := fun _ => gateM) (nm := fun _ => doorM) (ns := (List.range na).map nameM ++ (List.range np).map pnameM ++ (List.range ns).map snameM) (l := l5) ng fun i hi l' => by
      have h0 : i = 0 := by omega
      subst h0
      simpa using gateN_ok l' (namesG_ok na (by omega) np (by omega) ns (by omega))
    show (eachN gateN _ _).1 = 0
    rw [this]
  have e5 : firstE shapeC (worksM l0).walls = 0 := by
    rw [hw]
    refine firstE_zero fun x hx => ?_
    obtain ⟨i, l', _, rfl⟩ := iterM_mem _ hx
    have := wallM_good l'
    exact shape_of ⟨this.1, this.2.1⟩
  have s : (Q.of (mkRat g 8)).Small := smallMk (by decide) (by omega) (by decide)
  have e6 : (worksM l0).walk = Q.of (mkRat g 8) := by rw [hw]
  have e7 : 0 ≤ sgnR (mkRat g 8) := sgn_nonneg (by have := mk_le (d := 8) (by decide) a8; rwa [Rat.zero_mkRat] at this)
  have hl : (worksM l0).arms.length = na ∧ (worksM l0).walls.length = nw ∧ (worksM l0).parts.length = np ∧ (worksM l0).slots.length = ns ∧ (worksM l0).gates.length = ng := by
    rw [hw]; exact ⟨y1, y2, y3, y4, y5⟩
  obtain ⟨hl1, hl2, hl3, hl4, hl5⟩ := hl
  rw [worksC, e1, e2, e3, e4, e5, e6, Q.v_of, decide_eq_true s, hl1, hl2, hl3, hl4, hl5, worksI, if_neg (by omega), if_neg (by omega)]
  show walkI 0 true _ = 0
  rw [walkI, if_neg (by decide), if_pos ⟨rfl, e7⟩]
theorem worksM_le (l0 : List Int) : (worksM l0).Le := by
  obtain ⟨na, nw, np, ns, ng, l1, l2, l3, l4, l5, g, a1, a2, a3, a4, a5, a6, a7, a8, a9, hw⟩ := worksM_eq l0
  have y1 := (iterM_len armM_len l1 na).2
  have y2 := (iterM_len (f := fun _ => wallM) (fun _ => wallM_len) l2 nw).2
  have y3 := (iterM_len (f := partM) (fun _ => polyM_len) l3 np).2
  have y4 := (iterM_len slotM_len l4 ns).2
  have y5 := (iterM_len (f := fun _ => gateM) (fun _ => gateM_len) l5 ng).2
  rw [hw]
  refine ⟨fun x hx => ?_, Nat.lt_of_le_of_lt (Nat.le_of_eq y1) (by omega), fun x hx => ?_, Nat.lt_of_le_of_lt (Nat.le_of_eq y2) (by omega), fun x hx => ?_, Nat.lt_of_le_of_lt (Nat.le_of_eq y3) (by omega), fun x hx => ?_, Nat.lt_of_le_of_lt (Nat.le_of_eq y4) (by omega), fun x hx => ?_, Nat.lt_of_le_of_lt (Nat.le_of_eq y5) (by omega), ?_⟩
  · obtain ⟨i, l', hi, rfl⟩ := iterM_mem _ hx
    exact (armM_good i (by omega) l').2.1
  · obtain ⟨i, l', hi, rfl⟩ := iterM_mem _ hx
    obtain ⟨_, h2, h3⟩ := wallM_good l'
    exact ⟨fun p hp => by have := (h2 p hp).sz; omega, by show (wallM l').1.length < _; omega⟩
  · obtain ⟨i, l', hi, rfl⟩ := iterM_mem _ hx
    have h := polyM_good l'
    have hn := (pname_ok i).2.1
    have hl : (polyM l').1.length < 9 := by
      have := h.1
      rw [polyC] at this
      split at this
      · cases this
      · omega
    refine ⟨by show (pnameM i).size < _; omega, fun p hp => by have := (h.2 p hp).sz; omega, by show (polyM l').1.length < _; omega, ?_, ?_⟩
    · have := (atSmall (x := 0) (y := 0) (by decide) (by decide)).sz
      show (atM 0 0).sz ≤ _; omega
    · have := (smallMk (z := 0) (d := 1) (by decide) (by decide) (by decide)).sz
      show (Q.of _).sz ≤ _; omega
  · obtain ⟨i, l', hi, rfl⟩ := iterM_mem _ hx
    obtain ⟨h1, h2, h3, h4, h5, h6⟩ := slotM_good i l'
    have hn := (sname_ok i).2.1
    have := h2.sz
    have := h3.sz
    have := h5.sz
    exact ⟨by rw [h1]; omega, ⟨by omega, by omega⟩, by omega⟩
  · obtain ⟨i, l', hi, rfl⟩ := iterM_mem _ hx
    obtain ⟨h1, h2, h3, _⟩ := gateM_good l'
    have := h2.sz
    have := h3.sz
    have hd : doorM.size = 4 := rfl
    exact ⟨by show (gateM l').1.name.size < _; rw [h1]; omega, by show (gateM l').1.zone.low.sz ≤ _; omega, by show (gateM l').1.zone.high.sz ≤ _; omega⟩
  · have := (smallMk (z := g) (d := 8) (by decide) (by omega) (by decide)).sz
    show (Q.of _).sz ≤ _; omega
end Go.Proofs.YthadehkggddgoaaGreatDoor
