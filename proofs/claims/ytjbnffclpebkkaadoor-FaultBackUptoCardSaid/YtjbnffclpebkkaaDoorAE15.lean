/- AE, part 15: from a row's readings of its arguments to abstract values. -/
import Derived.Test.YtjbnffclpebkkaaDoorAE14
import Derived.ChangeArms
import Derived.DataReads
set_option linter.unusedVariables false
set_option linter.unusedSimpArgs false
namespace Go.AE
open Go

def RdL (E : Env) (cs : List AV) (vs : List Value) : Prop := cs.length = vs.length ∧ (∀ x ∈ vs, x.oneCell' = true) ∧ ∀ (i : Nat) (c : AV) (u : Value), cs[i]? = some c → vs[i]? = some u → RAV E false c u
theorem RdL.nil {E : Env} : RdL E [] [] := ⟨rfl, by simp, by simp⟩
theorem RdL.one {E : Env} {c : AV} {u : Value} (h1 : u.oneCell' = true) (h : RAV E false c u) : RdL E [c] [u] := by
  refine ⟨rfl, by simpa using h1, fun i c' u' hc hu => ?_⟩
  cases i with
  | zero => simp at hc hu; subst hc; subst hu; exact h
  | succ i => simp at hc
theorem RdL.app {E : Env} {c1 c2 : List AV} {v1 v2 : List Value} (h1 : RdL E c1 v1) (h2 : RdL E c2 v2) : RdL E (c1 ++ c2) (v1 ++ v2) := by
  refine ⟨by simp [h1.1, h2.1], fun x hx => ?_, fun i c u hc hu => ?_⟩
  · rcases List.mem_append.1 hx with h | h
    · exact h1.2.1 x h
    · exact h2.2.1 x h
  · by_cases hi : i < c1.length
    · rw [List.getElem?_append_left hi] at hc
      rw [List.getElem?_append_left (h1.1 ▸ hi)] at hu
      exact h1.2.2 i c u hc hu
    · rw [List.getElem?_append_right (Nat.le_of_not_lt hi)] at hc
      rw [List.getElem?_append_right (by rw [← h1.1]; exact Nat.le_of_not_lt hi), ← h1.1] at hu
      exact h2.2.2 _ c u hc hu

section
variable {H : Type} (enc : TypeId × Value → H) (P : Program) (W : World) (E : Env) (bulk : DataW H → Nat)

structure BulkOK : Prop where
  one : ∀ d, 1 ≤ bulk d
  str : ∀ l : List UInt8, l.length ≤ bulk (.lit (.string l))
  agg : ∀ l : List (DataW H), (l.map bulk).sum ≤ bulk (.agg l)
  slice : ∀ l m : List (DataW H), (l.map bulk).sum + 1 ≤ bulk (.slice l m)

/-- Cells that are read as of type t realize av of something, whose weight is bounded by the reading's bulk. -/
def Opens (t : TypeId) {α : Type} (av : α → List AV) (ρ : α → Nat) : Prop :=
  ∀ (fuel : Nat) (cs : List Value) (x : DataW H × List MemPlace), DataW.trod enc P W 0 (fun _ => true) true fuel t cs = some x → ∃ a, RdL E (av a) cs ∧ ρ a ≤ bulk x.1

variable {enc P W E bulk}
theorem Opens.int (hb : BulkOK bulk) {t : TypeId} {k : IntKind} (ht : P.underlying t = some (.int k)) : Opens enc P W E bulk t (fun n : Int => [.v (.int k n)]) (fun _ => 1) := by
  intro fuel cs x h
  obtain ⟨n, rfl, rfl, _⟩ := DataW.trod_int ht h
  exact ⟨n, .one rfl (.v _ _ rfl), hb.one _⟩
theorem Opens.intWf (hb : BulkOK bulk) {t : TypeId} {k : IntKind} (ht : P.underlying t = some (.int k)) : Opens enc P W E bulk t (fun n : { n : Int // (Lit.int k n).wf = true } => [.v (.int k n.1)]) (fun _ => 1) := by
  intro fuel cs x h
  obtain ⟨n, rfl, rfl, hw⟩ := DataW.trod_int ht h
  exact ⟨⟨n, hw⟩, .one rfl (.v _ _ rfl), hb.one _⟩
theorem Opens.bool (hb : BulkOK bulk) {t : TypeId} (ht : P.underlying t = some .bool) : Opens enc P W E bulk t (fun x : Bool => [.b x]) (fun _ => 1) := by
  intro fuel cs x h
  obtain ⟨n, rfl, rfl⟩ := DataW.trod_bool ht h
  exact ⟨n, .one rfl (.b _ _), hb.one _⟩
theorem Opens.str (hb : BulkOK bulk) {t : TypeId} (ht : P.underlying t = some .string) : Opens enc P W E bulk t (fun s : ByteArray => [.v (.string s)]) (fun s => s.size) := by
  intro fuel cs x h
  obtain ⟨s, rfl, rfl, _⟩ := DataW.trod_string ht h
  refine ⟨s, .one rfl (.v _ _ rfl), ?_⟩
  have := hb.str s.data.toList
  rwa [Array.length_toList] at this
theorem Opens.to {t : TypeId} {α β : Type} {av : α → List AV} {ρ : α → Nat} {av' : β → List AV} {ρ' : β → Nat} (h : Opens enc P W E bulk t av ρ) (f : α → β) (h1 : ∀ a, av' (f a) = av a) (h2 : ∀ a, ρ' (f a) ≤ ρ a) : Opens enc P W E bulk t av' ρ' := by
  intro fuel cs x hx
  obtain ⟨a, ha, hr⟩ := h fuel cs x hx
  exact ⟨f a, by rw [h1]; exact ha, Nat.le_trans (h2 a) hr⟩

/-- Fields one behind the other, from a cell on. -/
def OpensFs (fs : List Field) (off : Nat) {α : Type} (av : α → List AV) (ρ : α → Nat) : Prop :=
  ∀ (n : Nat) (cs : List Value) (xs : List (DataW H × List MemPlace)), xs.length = fs.length →
    (∀ (i : Nat) (f : Field), fs[i]? = some f → DataW.trod enc P W 0 (fun _ => true) true n f.type ((cs.drop f.offset).take (P.cellsOf f.type)) = xs[i]?) →
    off ≤ cs.length → cs.length = (fs.map fun f => P.cellsOf f.type).sum + off → ∃ a, RdL E (av a) (cs.drop off) ∧ ρ a ≤ ((xs.map (·.1)).map bulk).sum
theorem OpensFs.nil {off : Nat} : OpensFs (enc := enc) (P := P) (W := W) (E := E) (bulk := bulk) [] off (fun _ : Unit => []) (fun _ => 0) := by
  intro n cs xs hl _ _ hlen
  simp at hlen
  refine ⟨(), ?_, Nat.zero_le _⟩
  rw [List.drop_eq_nil_of_le (by omega)]
  exact .nil
theorem OpensFs.cons {f : Field} {fs : List Field} {off sz : Nat} {α β : Type} {av : α → List AV} {ρ : α → Nat} {av' : β → List AV} {ρ' : β → Nat} (h : Opens enc P W E bulk f.type av ρ) (hs : P.cellsOf f.type = sz) (ho : f.offset = off)
    (t : OpensFs (enc := enc) (P := P) (W := W) (E := E) (bulk := bulk) fs (off + sz) av' ρ') : OpensFs (enc := enc) (P := P) (W := W) (E := E) (bulk := bulk) (f :: fs) off (fun p : α × β => av p.1 ++ av' p.2) (fun p => ρ p.1 + ρ' p.2) := by
  intro n cs xs hl hx hoff hlen
  cases xs with
  | nil => simp at hl
  | cons x xs =>
    have h0 := hx 0 f rfl
    simp only [List.getElem?_cons_zero] at h0
    rw [ho, hs] at h0
    obtain ⟨a, ha, hra⟩ := h n _ x h0
    simp only [List.map_cons, List.sum_cons, hs] at hlen
    obtain ⟨b, hb, hrb⟩ := t n cs xs (by simpa using hl) (fun i g hg => by simpa using hx (i + 1) g (by simpa using hg)) (by omega) (by omega)
    refine ⟨(a, b), ?_, ?_⟩
    · have : cs.drop off = (cs.drop off).take sz ++ cs.drop (off + sz) := by
        rw [← List.drop_drop]; exact (List.take_append_drop sz (cs.drop off)).symm
      rw [this]
      exact ha.app hb
    · simp only [List.map_cons, List.sum_cons]
      omega
theorem Opens.struct (hb : BulkOK bulk) {t : TypeId} {fs : Array Field} {α : Type} {av : α → List AV} {ρ : α → Nat} (ht : P.underlying t = some (.struct fs)) (hsz : P.cellsOf t = (fs.toList.map fun f => P.cellsOf f.type).sum)
    (h : OpensFs (enc := enc) (P := P) (W := W) (E := E) (bulk := bulk) fs.toList 0 av ρ) : Opens enc P W E bulk t av ρ := by
  intro fuel cs x hx
  obtain ⟨xs, n, rfl, rfl, hl, hxl, hf⟩ := DataW.trod_struct ht hx
  obtain ⟨a, ha, hr⟩ := h n cs xs (by simpa using hxl) (fun i f hi => hf i f (by simpa using hi)) (Nat.zero_le _) (by rw [hl, hsz]; rfl)
  exact ⟨a, by simpa using ha, Nat.le_trans hr (hb.agg _)⟩

theorem cells_get {w : World} {b : Nat} {a : Addr} {n : Nat} {cs : List Value} (h : w.cells? b a n = some cs) : cs.length = n ∧ ∀ j, j < n → w.cell? (a.add j) = cs[j]? := by
  unfold World.cells? at h
  split at h
  · have hl := mapM_some_length h
    simp at hl
    exact ⟨hl, fun j hj => by have := mapM_some_get h j j (by simp [hj]); simpa using this⟩
  · cases h

theorem Opens.slice (hE : ∀ b o, W.heap[b]? = some o → E.h b = some o) (hb : BulkOK bulk) {t e : TypeId} {sz : Nat} (hpos : 0 < sz) {α : Type} {av : α → List AV} {ρ : α → Nat} (ht : P.underlying t = some (.slice e)) (hs : P.cellsOf e = sz)
    (h : Opens enc P W E bulk e av ρ) : Opens enc P W E bulk t (fun l : List α => [.l sz (l.map av)]) (fun l => (l.map ρ).sum + 1) := by
  intro fuel cs x hx
  rcases DataW.trod_slice ht hx with ⟨rfl, rfl⟩ | ⟨a, len, cap, elems, rest, n, rfl, rfl, rfl, _, hlc, hcm, hel, hget, _, _⟩
  · exact ⟨[], .one rfl (.lnil _ _), hb.one _⟩
  · rw [hs] at hget
    -- the elements, one by one
    have key : ∀ m, m ≤ len → ∃ l : List α, l.length = m ∧ (∀ i (hi : i < l.length), ∃ vs, W.cells? 0 (a.add (i * sz)) sz = some vs ∧ RdL E (av l[i]) vs) ∧ (l.map ρ).sum ≤ (((elems.take m).map (·.1)).map bulk).sum := by
      intro m
      induction m with
      | zero => intro _; exact ⟨[], rfl, by simp, by simp⟩
      | succ m ih =>
        intro hm
        obtain ⟨l, hl, hread, hsum⟩ := ih (by omega)
        have hg := hget m (by omega)
        have hme : m < elems.length := by omega
        rw [List.getElem?_eq_getElem hme] at hg
        obtain ⟨vs, hvs, hv⟩ := Option.bind_eq_some_iff.1 hg
        obtain ⟨y, hy, hry⟩ := h n vs _ hv
        refine ⟨l ++ [y], by simp [hl], fun i hi => ?_, ?_⟩
        · by_cases him : i < l.length
          · obtain ⟨vs', h1, h2⟩ := hread i him
            exact ⟨vs', h1, by rw [List.getElem_append_left him]; exact h2⟩
          · have : i = m := by simp at hi; omega
            subst this
            refine ⟨vs, hvs, ?_⟩
            rw [List.getElem_append_right (by omega)]
            simp [hl]; exact hy
        · rw [List.take_add_one, List.getElem?_eq_getElem hme]
          simp only [List.map_append, List.sum_append, List.map_cons, List.map_nil, List.sum_cons, List.sum_nil, Option.toList]
          omega
    obtain ⟨l, hl, hread, hsum⟩ := key len (Nat.le_refl _)
    refine ⟨l, .one rfl ?_, ?_⟩
    · by_cases h0 : len = 0
      · subst h0
        have : l = [] := List.eq_nil_of_length_eq_zero hl
        subst this
        exact .lzero _ _ a cap hcm
      · -- the block
        obtain ⟨vs0, h1, h2⟩ := hread 0 (by omega)
        have hcell0 := (cells_get h1).2 0 hpos
        obtain ⟨hvl, _⟩ := cells_get h1
        rw [List.getElem?_eq_getElem (by omega)] at hcell0
        simp only [Nat.zero_mul] at hcell0
        have ha0 : (a.add 0).add 0 = a := by simp [Addr.add]
        rw [ha0] at hcell0
        have hspot := World.cell?_spot hcell0
        obtain ⟨b, off, spot⟩ := a
        simp only at hspot
        subst hspot
        unfold World.cell? at hcell0
        cases hblk : W.heap[b]? with
        | none => simp [hblk] at hcell0
        | some o =>
          cases o with
          | cells vals ty fr =>
            have hcell : ∀ (i : Nat) (hi : i < l.length) (j : Nat), j < sz → ∃ u, vals[off + i * sz + j]? = some u ∧ u.oneCell' = true ∧ ∀ c, (av l[i])[j]? = some c → RAV E false c u := by
              intro i hi j hj
              obtain ⟨vs, g1, g2⟩ := hread i hi
              obtain ⟨gl, gg⟩ := cells_get g1
              have g3 := gg j hj
              have hjv : j < vs.length := by omega
              rw [List.getElem?_eq_getElem hjv, Addr.add_lit, Addr.add_lit] at g3
              simp only [World.cell?, hblk] at g3
              refine ⟨vs[j], by simpa using g3, g2.2.1 _ (List.getElem_mem hjv), fun c hc => g2.2.2 j c _ hc (List.getElem?_eq_getElem hjv)⟩
            have hlen : off + l.length * sz ≤ vals.size := by
              have hl1 : l.length - 1 < l.length := by omega
              obtain ⟨u, hu, _⟩ := hcell (l.length - 1) hl1 (sz - 1) (by omega)
              have := (Array.getElem?_eq_some_iff.1 hu).1
              have e : l.length * sz = (l.length - 1) * sz + sz := by
                conv => lhs; rw [show l.length = (l.length - 1) + 1 by omega, Nat.add_mul, Nat.one_mul]
              omega
            have hsplit : ∀ q, q < l.length * sz → ∃ i j, i < l.length ∧ j < sz ∧ q = i * sz + j := by
              intro q hq
              refine ⟨q / sz, q % sz, ?_, Nat.mod_lt _ hpos, by rw [Nat.mul_comm]; exact (Nat.div_add_mod q sz).symm⟩
              exact (Nat.div_lt_iff_lt_mul hpos).2 hq
            have hml : (l.map av).length = len := by simp [hl]
            have := RAV.l (E := E) false sz (l.map av) b off cap vals ty fr (hE b _ hblk) (fun e he => by
                obtain ⟨y, hy, rfl⟩ := List.mem_map.1 he
                obtain ⟨i, hi, rfl⟩ := List.getElem_of_mem hy
                obtain ⟨vs, g1, g2⟩ := hread i hi
                rw [g2.1]; exact (cells_get g1).1) (by simpa using hlen) (by omega) hcm (fun q u hq hu => by
                rw [List.length_map] at hq
                obtain ⟨i, j, hi, hj, rfl⟩ := hsplit q hq
                obtain ⟨u', hu', h1', _⟩ := hcell i hi j hj
                rw [← Nat.add_assoc, hu'] at hu
                cases hu; exact h1') (fun i j e c u he hj hu => by
                rw [List.getElem?_map] at he
                cases hq : l[i]? with
                | none => rw [hq] at he; cases he
                | some y =>
                  rw [hq] at he; cases he
                  obtain ⟨hi, rfl⟩ := List.getElem?_eq_some_iff.1 hq
                  obtain ⟨vs, g1, g2⟩ := hread i hi
                  have hjs : j < sz := by rw [← (cells_get g1).1, ← g2.1]; exact (List.getElem?_eq_some_iff.1 hj).1
                  obtain ⟨u', hu', _, hr'⟩ := hcell i hi j hjs
                  rw [hu'] at hu; cases hu
                  exact hr' c hj)
            rw [hml] at this
            exact this
          | _ => simp [hblk] at hcell0
    · refine Nat.le_trans (Nat.add_le_add_right hsum 1) (Nat.le_trans (Nat.le_of_eq ?_) (hb.slice _ _))
      rw [List.take_of_length_le (by omega)]
end
end Go.AE
