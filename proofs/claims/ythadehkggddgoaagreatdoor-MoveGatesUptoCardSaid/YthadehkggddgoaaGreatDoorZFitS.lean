/- Reading the arguments of the law: works, frames. Works of a small bulk: what the contracts ask. Equality of numbers, points, frames, states, as the program asks it. Reading states; states of a small bulk: what the contracts ask; the bulk of a first state. -/
import Derived.Test.YthadehkggddgoaaGreatDoorZData
import Derived.Test.YthadehkggddgoaaGreatDoorAE14
import Derived.Test.YthadehkggddgoaaGreatDoorZTypes
import Derived.Test.YthadehkggddgoaaGreatDoorZWorks
import Derived.Test.YthadehkggddgoaaGreatDoorZWorld
import Derived.Test.YthadehkggddgoaaGreatDoorZRState
section
section
set_option linter.unusedVariables false
set_option linter.unusedSectionVars false
set_option linter.unusedSimpArgs false
namespace Go.Proofs.YthadehkggddgoaaGreatDoor
open Go
def Q.wt (q : Q) : Nat := 1 + (q.num.size + q.den.size)
def V2.wt (p : V2) : Nat := p.x.wt + p.y.wt
def Tn.wt (p : Tn) : Nat := p.t.wt
def Fr.wt (p : Fr) : Nat := p.at_.wt + p.turn.wt
def Bx.wt (p : Bx) : Nat := p.low.wt + p.high.wt
def lw {α : Type} (ρ : α → Nat) (l : List α) : Nat := (l.map ρ).sum + 1
def Lk.wt (p : Lk) : Nat := p.length.wt + p.low.wt + p.high.wt + p.speed.wt + p.brake.wt + lw V2.wt p.shape
def Ar.wt (p : Ar) : Nat := p.name.size + p.base.wt + lw Lk.wt p.links
def Pt.wt (p : Pt) : Nat := p.name.size + lw V2.wt p.shape + p.grasp.wt
def Sl.wt (p : Sl) : Nat := p.name.size + p.frame.wt + p.within.wt
def Gt.wt (p : Gt) : Nat := p.name.size + p.zone.wt
def Wk.wt (p : Wk) : Nat := lw Ar.wt p.arms + lw (lw V2.wt) p.walls + lw Pt.wt p.parts + lw Sl.wt p.slots + lw Gt.wt p.gates + p.walk.wt
theorem lw_mem {α : Type} {ρ : α → Nat} : ∀ {l : List α} {a : α}, a ∈ l → ρ a < lw ρ l
  | x :: l, a, h => by
    simp only [lw, List.map_cons, List.sum_cons]
    rcases List.mem_cons.1 h with rfl | h
    · omega
    · have := lw_mem (ρ := ρ) h
      simp only [lw] at this; omega
theorem lw_len {α : Type} {ρ : α → Nat} (h : ∀ a, 1 ≤ ρ a) : ∀ l : List α, l.length < lw ρ l
  | [] => by simp [lw]
  | x :: l => by
    have := lw_len h l
    have := h x
    simp only [lw, List.map_cons, List.sum_cons, List.length_cons] at *; omega
section
variable {H : Type} {enc : TypeId × Value → H} {W : World} {E : AE.Env} {bulk : DataW H → Nat}
theorem openQ (hb : AE.BulkOK bulk) : AE.Opens enc Tryz.prog W E bulk 29 Q.c Q.wt :=
  (AE.Opens.struct hb Tryz.underlying29 (by kernel_rfl)
    (.cons (.bool hb Tryz.underlying4) (sz := 1) (by kernel_rfl) rfl (.cons (.str hb Tryz.underlying9) (sz := 1) (by kernel_rfl) rfl (.cons (.str hb Tryz.underlying9) (sz := 1) (by kernel_rfl) rfl .nil)))).to
    (fun p => (⟨p.1, p.2.1, p.2.2.1⟩ : Q)) (fun _ => by simp [Q.c]) (fun _ => by simp only [Q.wt]; omega)
theorem openV (hb : AE.BulkOK bulk) : AE.Opens enc Tryz.prog W E bulk 44 V2.c V2.wt :=
  (AE.Opens.struct hb Tryz.underlying44 (by kernel_rfl)
    (.cons (openQ hb) (sz := 3) (by kernel_rfl) rfl (.cons (openQ hb) (sz := 3) (by kernel_rfl) rfl .nil))).to
    (fun p => (⟨p.1, p.2.1⟩ : V2)) (fun _ => by simp [V2.c]) (fun _ => by simp only [V2.wt]; omega)
theorem openT (hb : AE.BulkOK bulk) : AE.Opens enc Tryz.prog W E bulk 64 Tn.c Tn.wt :=
  (AE.Opens.struct hb Tryz.underlying64 (by kernel_rfl)
    (.cons (.bool hb Tryz.underlying4) (sz := 1) (by kernel_rfl) rfl (.cons (openQ hb) (sz := 3) (by kernel_rfl) rfl .nil))).to
    (fun p => (⟨p.1, p.2.1⟩ : Tn)) (fun _ => by simp [Tn.c]) (fun _ => by simp only [Tn.wt]; omega)
theorem openF (hb : AE.BulkOK bulk) : AE.Opens enc Tryz.prog W E bulk 66 Fr.c Fr.wt :=
  (AE.Opens.struct hb Tryz.underlying66 (by kernel_rfl)
    (.cons (openV hb) (sz := 6) (by kernel_rfl) rfl (.cons (openT hb) (sz := 4) (by kernel_rfl) rfl .nil))).to
    (fun p => (⟨p.1, p.2.1⟩ : Fr)) (fun _ => by simp [Fr.c]) (fun _ => by simp only [Fr.wt]; omega)
theorem openB (hb : AE.BulkOK bulk) : AE.Opens enc Tryz.prog W E bulk 46 Bx.c Bx.wt :=
  (AE.Opens.struct hb Tryz.underlying46 (by kernel_rfl)
    (.cons (openV hb) (sz := 6) (by kernel_rfl) rfl (.cons (openV hb) (sz := 6) (by kernel_rfl) rfl .nil))).to
    (fun p => (⟨p.1, p.2.1⟩ : Bx)) (fun _ => by simp [Bx.c]) (fun _ => by simp only [Bx.wt]; omega)
theorem openG (hb : AE.BulkOK bulk) : AE.Opens enc Tryz.prog W E bulk 48 Gt.c Gt.wt :=
  (AE.Opens.struct hb Tryz.underlying48 (by kernel_rfl)
    (.cons (.str hb Tryz.underlying9) (sz := 1) (by kernel_rfl) rfl (.cons (openB hb) (sz := 12) (by kernel_rfl) rfl .nil))).to
    (fun p => (⟨p.1, p.2.1⟩ : Gt)) (fun _ => by simp [Gt.c]) (fun _ => by simp only [Gt.wt]; omega)
theorem openS (hb : AE.BulkOK bulk) : AE.Opens enc Tryz.prog W E bulk 68 Sl.c Sl.wt :=
  (AE.Opens.struct hb Tryz.underlying68 (by kernel_rfl)
    (.cons (.str hb Tryz.underlying9) (sz := 1) (by kernel_rfl) rfl (.cons (openF hb) (sz := 10) (by kernel_rfl) rfl (.cons (openQ hb) (sz := 3) (by kernel_rfl) rfl .nil)))).to
    (fun p => (⟨p.1, p.2.1, p.2.2.1⟩ : Sl)) (fun _ => by simp [Sl.c]) (fun _ => by simp only [Sl.wt]; omega)
variable (hE : ∀ b o, W.heap[b]? = some o → E.h b = some o)
include hE
theorem openL (hb : AE.BulkOK bulk) {t e : TypeId} {sz : Nat} (hpos : 0 < sz) {α : Type} {f : α → List AE.AV} {ρ : α → Nat} (ht : Tryz.prog.underlying t = some (.slice e)) (hs : Tryz.prog.cellsOf e = sz) (h : AE.Opens enc Tryz.prog W E bulk e f ρ) : AE.Opens enc Tryz.prog W E bulk t (fun l : List α => [.l sz (lsAv f l)]) (lw ρ) :=
  (AE.Opens.slice hE hb hpos ht hs h).to (fun l => l) (fun l => by rw [lsAv_eq]) (fun l => Nat.le_refl _)
theorem openVs (hb : AE.BulkOK bulk) : AE.Opens enc Tryz.prog W E bulk 34 wallC (lw V2.wt) := openL hE hb (by decide) Tryz.underlying34 (by kernel_rfl) (openV hb)
theorem openK (hb : AE.BulkOK bulk) : AE.Opens enc Tryz.prog W E bulk 82 Lk.c Lk.wt :=
  (AE.Opens.struct hb Tryz.underlying82 (by kernel_rfl)
    (.cons (openQ hb) (sz := 3) (by kernel_rfl) rfl (.cons (openQ hb) (sz := 3) (by kernel_rfl) rfl (.cons (openQ hb) (sz := 3) (by kernel_rfl) rfl (.cons (openQ hb) (sz := 3) (by kernel_rfl) rfl (.cons (openQ hb) (sz := 3) (by kernel_rfl) rfl (.cons (openVs hE hb) (sz := 1) (by kernel_rfl) rfl .nil))))))).to
    (fun p => (⟨p.1, p.2.1, p.2.2.1, p.2.2.2.1, p.2.2.2.2.1, p.2.2.2.2.2.1⟩ : Lk)) (fun _ => by simp [Lk.c, wallC]) (fun _ => by simp only [Lk.wt]; omega)
theorem openA (hb : AE.BulkOK bulk) : AE.Opens enc Tryz.prog W E bulk 79 Ar.c Ar.wt :=
  (AE.Opens.struct hb Tryz.underlying79 (by kernel_rfl)
    (.cons (.str hb Tryz.underlying9) (sz := 1) (by kernel_rfl) rfl (.cons (openF hb) (sz := 10) (by kernel_rfl) rfl (.cons (openL hE hb (sz := 16) (by decide) Tryz.underlying77 (by kernel_rfl) (openK hE hb)) (sz := 1) (by kernel_rfl) rfl .nil)))).to
    (fun p => (⟨p.1, p.2.1, p.2.2.1⟩ : Ar)) (fun _ => by simp [Ar.c]) (fun _ => by simp only [Ar.wt]; omega)
theorem openP (hb : AE.BulkOK bulk) : AE.Opens enc Tryz.prog W E bulk 99 Pt.c Pt.wt :=
  (AE.Opens.struct hb Tryz.underlying99 (by kernel_rfl)
    (.cons (.str hb Tryz.underlying9) (sz := 1) (by kernel_rfl) rfl (.cons (openVs hE hb) (sz := 1) (by kernel_rfl) rfl (.cons (openF hb) (sz := 10) (by kernel_rfl) rfl .nil)))).to
    (fun p => (⟨p.1, p.2.1, p.2.2.1⟩ : Pt)) (fun _ => by simp [Pt.c, wallC]) (fun _ => by simp only [Pt.wt]; omega)
theorem openW (hb : AE.BulkOK bulk) : AE.Opens enc Tryz.prog W E bulk 31 Wk.c Wk.wt :=
  (AE.Opens.struct hb Tryz.underlying31 (by kernel_rfl)
    (.cons (openL hE hb (sz := 12) (by decide) Tryz.underlying23 (by kernel_rfl) (openA hE hb)) (sz := 1) (by kernel_rfl) rfl (.cons (openL hE hb (sz := 1) (by decide) Tryz.underlying24 (by kernel_rfl) (openVs hE hb)) (sz := 1) (by kernel_rfl) rfl (.cons (openL hE hb (sz := 12) (by decide) Tryz.underlying25 (by kernel_rfl) (openP hE hb)) (sz := 1) (by kernel_rfl) rfl (.cons (openL hE hb (sz := 14) (by decide) Tryz.underlying26 (by kernel_rfl) (openS hb)) (sz := 1) (by kernel_rfl) rfl (.cons (openL hE hb (sz := 13) (by decide) Tryz.underlying27 (by kernel_rfl) (openG hb)) (sz := 1) (by kernel_rfl) rfl (.cons (openQ hb) (sz := 3) (by kernel_rfl) rfl .nil))))))).to
    (fun p => (⟨p.1, p.2.1, p.2.2.1, p.2.2.2.1, p.2.2.2.2.1, p.2.2.2.2.2.1⟩ : Wk)) (fun _ => by simp [Wk.c]) (fun _ => by simp only [Wk.wt]; omega)
end
theorem Q.sz_wt (q : Q) : q.sz ≤ q.wt := by simp only [Q.sz, Q.wt]; omega
theorem Q.wt1 (q : Q) : 1 ≤ q.wt := by simp only [Q.wt]; omega
theorem V2.wt1 (p : V2) : 1 ≤ p.wt := by have := p.x.wt1; simp only [V2.wt]; omega
theorem Lk.wt1 (p : Lk) : 1 ≤ p.wt := by have := p.length.wt1; simp only [Lk.wt]; omega
theorem lw1 {α : Type} (ρ : α → Nat) (l : List α) : 1 ≤ lw ρ l := by simp only [lw]; omega
theorem Ar.wt1 (p : Ar) : 1 ≤ p.wt := by have := lw1 Lk.wt p.links; simp only [Ar.wt]; omega
theorem Pt.wt1 (p : Pt) : 1 ≤ p.wt := by have := lw1 V2.wt p.shape; simp only [Pt.wt]; omega
theorem Sl.wt1 (p : Sl) : 1 ≤ p.wt := by have := p.within.wt1; simp only [Sl.wt]; omega
theorem Gt.wt1 (p : Gt) : 1 ≤ p.wt := by have := p.zone.low.x.wt1; simp only [Gt.wt, Bx.wt, V2.wt]; omega
theorem Q.bl {n : Nat} (q : Q) : ∀ c ∈ q.c, AE.Bl n c := by
  intro c hc
  simp only [Q.c, List.mem_cons, List.not_mem_nil, or_false] at hc
  rcases hc with rfl | rfl | rfl
  · exact .b _
  · exact .v _
  · exact .v _
theorem V2.bl {n : Nat} (p : V2) : ∀ c ∈ p.c, AE.Bl n c := by
  intro c hc
  rcases List.mem_append.1 hc with h | h
  · exact p.x.bl c h
  · exact p.y.bl c h
theorem Fr.bl {n : Nat} (p : Fr) : ∀ c ∈ p.c, AE.Bl n c := by
  intro c hc
  rcases List.mem_append.1 hc with h | h
  · exact p.at_.bl c h
  · rcases List.mem_cons.1 h with rfl | h
    · exact .b _
    · exact p.turn.t.bl c h
theorem Wk.bl {n : Nat} (w : Wk) : ∀ c ∈ w.c, AE.Bl n c := by
  intro c hc
  simp only [Wk.c, List.mem_cons] at hc
  rcases hc with rfl | rfl | rfl | rfl | rfl | h
  · exact .l _ _
  · exact .l _ _
  · exact .l _ _
  · exact .l _ _
  · exact .l _ _
  · exact w.walk.bl c h
end Go.Proofs.YthadehkggddgoaaGreatDoor
end
section
set_option linter.unusedVariables false
set_option linter.unusedSectionVars false
set_option linter.unusedSimpArgs false
namespace Go.Proofs.YthadehkggddgoaaGreatDoor
open Go
theorem V2.sz_wt (p : V2) : p.sz ≤ p.wt := by have := p.x.sz_wt; have := p.y.sz_wt; simp only [V2.sz, V2.wt]; omega
theorem Fr.le_wt (p : Fr) {n : Nat} (h : p.wt ≤ n) : p.le n := by
  have := p.at_.sz_wt; have := p.turn.t.sz_wt
  simp only [Fr.wt, Tn.wt] at h
  exact ⟨by omega, by omega⟩
theorem Lk.le_wt (p : Lk) {n : Nat} (h : p.wt ≤ n) (hn : n ≤ 2 ^ 28) : p.le n := by
  have := p.length.sz_wt; have := p.low.sz_wt; have := p.high.sz_wt; have := p.speed.sz_wt; have := p.brake.sz_wt
  have := lw_len V2.wt1 p.shape
  simp only [Lk.wt] at h
  refine ⟨by omega, by omega, by omega, by omega, by omega, fun q hq => ?_, by omega⟩
  have := lw_mem (ρ := V2.wt) hq
  have := q.sz_wt
  omega
theorem Ar.le_wt (p : Ar) {n : Nat} (h : p.wt ≤ n) (hn : n ≤ 2 ^ 28) : p.le n := by
  have := lw_len Lk.wt1 p.links
  simp only [Ar.wt] at h
  refine ⟨by omega, p.base.le_wt (by omega), fun k hk => k.le_wt ?_ hn, by omega⟩
  have := lw_mem (ρ := Lk.wt) hk
  omega
theorem Pt.le_wt (p : Pt) {n : Nat} (h : p.wt ≤ n) (hn : n ≤ 2 ^ 28) : p.le n := by
  have := lw_len V2.wt1 p.shape
  simp only [Pt.wt] at h
  refine ⟨by omega, fun q hq => ?_, by omega, p.grasp.le_wt (by omega)⟩
  have := lw_mem (ρ := V2.wt) hq
  have := q.sz_wt
  omega
theorem Sl.le_wt (p : Sl) {n : Nat} (h : p.wt ≤ n) (hn : n ≤ 2 ^ 28) : p.le n := by
  simp only [Sl.wt] at h
  have := p.within.sz_wt
  exact ⟨by omega, p.frame.le_wt (by omega), by omega⟩
theorem Gt.le_wt (p : Gt) {n : Nat} (h : p.wt ≤ n) (hn : n ≤ 2 ^ 28) : p.le n := by
  simp only [Gt.wt, Bx.wt] at h
  have := p.zone.low.sz_wt; have := p.zone.high.sz_wt
  exact ⟨by omega, by omega, by omega⟩
theorem Wk.parts_wt (w : Wk) {n : Nat} (h : w.wt ≤ n) : lw Ar.wt w.arms ≤ n ∧ lw (lw V2.wt) w.walls ≤ n ∧ lw Pt.wt w.parts ≤ n ∧ lw Sl.wt w.slots ≤ n ∧ lw Gt.wt w.gates ≤ n ∧ w.walk.wt ≤ n := by
  simp only [Wk.wt] at h
  exact ⟨by omega, by omega, by omega, by omega, by omega, by omega⟩
theorem Wk.le_wt (w : Wk) {n : Nat} (h : w.wt ≤ n) (hn : n ≤ 2 ^ 28) : w.Le := by
  obtain ⟨h1, h2, h3, h4, h5, h6⟩ := w.parts_wt h
  have := lw_len Ar.wt1 w.arms; have := lw_len (lw1 V2.wt) w.walls; have := lw_len Pt.wt1 w.parts; have := lw_len Sl.wt1 w.slots; have := lw_len Gt.wt1 w.gates
  have := w.walk.sz_wt
  refine ⟨fun p hp => p.le_wt ?_ (Nat.le_refl _), by omega, fun p hp => ?_, by omega, fun p hp => p.le_wt ?_ (Nat.le_refl _), by omega, fun p hp => p.le_wt ?_ (Nat.le_refl _), by omega, fun p hp => p.le_wt ?_ (Nat.le_refl _), by omega, by omega⟩
  · have := lw_mem (ρ := Ar.wt) hp; omega
  · have h7 := lw_mem (ρ := lw V2.wt) hp
    have := lw_len V2.wt1 p
    refine ⟨fun q hq => ?_, by omega⟩
    have := lw_mem (ρ := V2.wt) hq
    have := q.sz_wt
    omega
  · have := lw_mem (ρ := Pt.wt) hp; omega
  · have := lw_mem (ρ := Sl.wt) hp; omega
  · have := lw_mem (ρ := Gt.wt) hp; omega
theorem Fr.wt1 (p : Fr) : 1 ≤ p.wt := by have := p.turn.t.wt1; simp only [Fr.wt, Tn.wt]; omega
end Go.Proofs.YthadehkggddgoaaGreatDoor
end
end
section
section
set_option linter.unusedVariables false
set_option linter.unusedSimpArgs false
namespace Go.Proofs.YthadehkggddgoaaGreatDoor
open Go Go.Num
instance : DecidableEq Q := fun a b => decidable_of_iff (a.neg = b.neg ∧ a.num = b.num ∧ a.den = b.den) (by cases a; cases b; simp)
instance : DecidableEq V2 := fun a b => decidable_of_iff (a.x = b.x ∧ a.y = b.y) (by cases a; cases b; simp)
instance : DecidableEq Tn := fun a b => decidable_of_iff (a.half = b.half ∧ a.t = b.t) (by cases a; cases b; simp)
instance : DecidableEq Fr := fun a b => decidable_of_iff (a.at_ = b.at_ ∧ a.turn = b.turn) (by cases a; cases b; simp)
instance : DecidableEq As := fun a b => decidable_of_iff (a.q = b.q ∧ a.v = b.v ∧ a.power = b.power ∧ a.holds = b.holds) (by cases a; cases b; simp)
instance : DecidableEq Ss := fun a b => decidable_of_iff (a.tick = b.tick ∧ a.arms = b.arms ∧ a.parts = b.parts ∧ a.people = b.people ∧ a.opens = b.opens) (by cases a; cases b; simp)
def eqQ (A : AE.Ari) (q p : Q) : Bool := A.band (A.bcmp .eql q.1 p.1) (A.band (A.scmp .eql q.2 p.2) (A.scmp .eql q.3 p.3))
def eqV2 (A : AE.Ari) (q p : V2) : Bool := A.band (eqQ A q.1 p.1) (eqQ A q.2 p.2)
def eqFr (A : AE.Ari) (q p : Fr) : Bool := A.band (eqV2 A q.1 p.1) (A.band (A.bcmp .eql q.2.1 p.2.1) (eqQ A q.2.2 p.2.2))
theorem eqQ_eq {A : AE.Ari} (hA : A = AE.std) (q p : Q) : eqQ A q p = decide (q = p) := by
  obtain ⟨a, b, c⟩ := q
  obtain ⟨a', b', c'⟩ := p
  simp only [eqQ, c_seql hA, AE.c_and hA, AE.c_beq hA]
  rw [Bool.eq_iff_iff]; simp
theorem eqV2_eq {A : AE.Ari} (hA : A = AE.std) (q p : V2) : eqV2 A q p = decide (q = p) := by
  obtain ⟨a, b⟩ := q
  obtain ⟨a', b'⟩ := p
  simp only [eqV2, eqQ_eq hA, AE.c_and hA]
  rw [Bool.eq_iff_iff]; simp
theorem eqFr_eq {A : AE.Ari} (hA : A = AE.std) (q p : Fr) : eqFr A q p = decide (q = p) := by
  obtain ⟨a, b, c⟩ := q
  obtain ⟨a', b', c'⟩ := p
  simp only [eqFr, eqV2_eq hA, eqQ_eq hA, AE.c_and hA, AE.c_beq hA]
  rw [Bool.eq_iff_iff]; simp
theorem eqB_eq {A : AE.Ari} (hA : A = AE.std) (q p : Bool) : A.bcmp .neq q p = !decide (q = p) := by
  rw [AE.c_bne hA]; cases q <;> cases p <;> rfl
end Go.Proofs.YthadehkggddgoaaGreatDoor
end
section
set_option linter.unusedVariables false
set_option linter.unusedSectionVars false
set_option linter.unusedSimpArgs false
namespace Go.Proofs.YthadehkggddgoaaGreatDoor
open Go Go.Num
def As.wt (p : As) : Nat := lw Q.wt p.q + lw Q.wt p.v
def Ss.wt (p : Ss) : Nat := lw As.wt p.arms + lw Fr.wt p.parts + lw V2.wt p.people + lw (fun _ : Bool => 1) p.opens
def Ss.ints (s : Ss) : Prop := I64 s.tick ∧ ∀ x ∈ s.arms, I64 x.holds
theorem wf_i64 {n : Int} (h : (Lit.int .i64 n).wf = true) : I64 n := by
  simp only [Lit.wf, Bool.and_eq_true, decide_eq_true_eq] at h
  exact h
section
variable {H : Type} {enc : TypeId × Value → H} {W : World} {E : AE.Env} {bulk : DataW H → Nat}
variable (hE : ∀ b o, W.heap[b]? = some o → E.h b = some o)
include hE
theorem openAs (hb : AE.BulkOK bulk) : AE.Opens enc Tryz.prog W E bulk 76 (fun x : { x : As // I64 x.holds } => x.1.c) (fun x => x.1.wt) :=
  (AE.Opens.struct hb Tryz.underlying76 (by kernel_rfl)
    (.cons (openL hE hb (sz := 3) (by decide) Tryz.underlying74 (by kernel_rfl) (openQ hb)) (sz := 1) (by kernel_rfl) rfl (.cons (openL hE hb (sz := 3) (by decide) Tryz.underlying74 (by kernel_rfl) (openQ hb)) (sz := 1) (by kernel_rfl) rfl (.cons (.bool hb Tryz.underlying4) (sz := 1) (by kernel_rfl) rfl (.cons (.intWf hb Tryz.underlying3) (sz := 1) (by kernel_rfl) rfl .nil))))).to
    (fun p => (⟨⟨p.1, p.2.1, p.2.2.1, p.2.2.2.1.1⟩, wf_i64 p.2.2.2.1.2⟩ : { x : As // I64 x.holds })) (fun _ => by simp [As.c]) (fun _ => by simp only [As.wt]; omega)
theorem openSt (hb : AE.BulkOK bulk) : AE.Opens enc Tryz.prog W E bulk 37 (fun x : { s : Ss // s.ints } => x.1.c) (fun x => x.1.wt) :=
  (AE.Opens.struct hb Tryz.underlying37 (by kernel_rfl)
    (.cons (.intWf hb Tryz.underlying3) (sz := 1) (by kernel_rfl) rfl (.cons (openL hE hb (sz := 4) (by decide) Tryz.underlying32 (by kernel_rfl) (openAs hE hb)) (sz := 1) (by kernel_rfl) rfl (.cons (openL hE hb (sz := 10) (by decide) Tryz.underlying33 (by kernel_rfl) (openF hb)) (sz := 1) (by kernel_rfl) rfl (.cons (openL hE hb (sz := 6) (by decide) Tryz.underlying34 (by kernel_rfl) (openV hb)) (sz := 1) (by kernel_rfl) rfl (.cons (openL hE hb (sz := 1) (by decide) Tryz.underlying35 (by kernel_rfl) (.bool hb Tryz.underlying4)) (sz := 1) (by kernel_rfl) rfl .nil)))))).to
    (fun p => (⟨⟨p.1.1, p.2.1.map (·.1), p.2.2.1, p.2.2.2.1, p.2.2.2.2.1⟩, wf_i64 p.1.2, fun x hx => by obtain ⟨y, _, rfl⟩ := List.mem_map.1 hx; exact y.2⟩ : { s : Ss // s.ints })) (fun _ => by simp only [Ss.c, lsAv_eq, List.map_map]; rfl) (fun _ => by simp only [Ss.wt, lw, List.map_map, Function.comp_def]; omega)
end
theorem Ss.bl {n : Nat} (s : Ss) : ∀ c ∈ s.c, AE.Bl n c := by
  intro c hc
  simp only [Ss.c, List.mem_cons, List.not_mem_nil, or_false] at hc
  rcases hc with rfl | rfl | rfl | rfl | rfl
  · exact .v _
  · exact .l _ _
  · exact .l _ _
  · exact .l _ _
  · exact .l _ _
theorem As.wt1 (p : As) : 1 ≤ p.wt := by have := lw1 Q.wt p.q; simp only [As.wt]; omega
theorem As.le_wt (p : As) {n : Nat} (h : p.wt ≤ n) (hn : n ≤ 2 ^ 28) : p.le n ∧ p.q.length ≤ 2 ^ 28 ∧ p.v.length ≤ 2 ^ 28 := by
  simp only [As.wt] at h
  have h1 := lw_len Q.wt1 p.q; have h2 := lw_len Q.wt1 p.v
  refine ⟨⟨fun q hq => ?_, fun q hq => ?_, by omega, by omega⟩, by omega, by omega⟩
  · have := lw_mem (ρ := Q.wt) hq; have := q.sz_wt; omega
  · have := lw_mem (ρ := Q.wt) hq; have := q.sz_wt; omega
theorem Ss.parts_wt (s : Ss) {n : Nat} (h : s.wt ≤ n) : lw As.wt s.arms ≤ n ∧ lw Fr.wt s.parts ≤ n ∧ lw V2.wt s.people ≤ n ∧ lw (fun _ : Bool => 1) s.opens ≤ n := by
  simp only [Ss.wt] at h; omega
theorem Ss.le_wt (s : Ss) {n : Nat} (h : s.wt ≤ n) (hn : n ≤ 2 ^ 28) : s.Le := by
  obtain ⟨h1, h2, h3, h4⟩ := s.parts_wt h
  have := lw_len As.wt1 s.arms; have := lw_len Fr.wt1 s.parts; have := lw_len V2.wt1 s.people; have := lw_len (ρ := fun _ : Bool => 1) (fun _ => Nat.le_refl _) s.opens
  refine ⟨fun x hx => ?_, by omega, fun f hf => ?_, by omega, fun p hp => ?_, by omega, by omega⟩
  · have h5 := lw_mem (ρ := As.wt) hx
    obtain ⟨⟨g1, g2, g3, g4⟩, _⟩ := x.le_wt (n := n) (by omega) hn
    exact ⟨fun q hq => by have := g1 q hq; omega, fun q hq => by have := g2 q hq; omega, g3, g4⟩
  · have h5 := lw_mem (ρ := Fr.wt) hf
    exact f.le_wt (by omega)
  · have h5 := lw_mem (ρ := V2.wt) hp
    have := p.sz_wt; omega
end Go.Proofs.YthadehkggddgoaaGreatDoor
end
end
