/- Reading the arguments of the law: works, frames. Works of a small bulk: what the contracts ask. -/
import Derived.Test.YtjbnffclpebkkaaGreatDoorZData
import Derived.Test.YtjbnffclpebkkaaGreatDoorAE14
import Derived.Test.YtjbnffclpebkkaaGreatDoorZTypes
import Derived.Test.YtjbnffclpebkkaaGreatDoorZWorks
import Derived.Test.YtjbnffclpebkkaaGreatDoorZRecB
import Derived.Test.YtjbnffclpebkkaaGreatDoorZCopy
section
set_option linter.unusedVariables false
set_option linter.unusedSectionVars false
set_option linter.unusedSimpArgs false
namespace Go.Proofs.YtjbnffclpebkkaaGreatDoor
open Go
def Q.wt (q : Q) : Nat := 1 + (q.num.size + q.den.size)
def V2.wt (p : V2) : Nat := p.x.wt + p.y.wt
def Tn.wt (p : Tn) : Nat := p.t.wt
def Fr.wt (p : Fr) : Nat := p.at_.wt + p.turn.wt
def Bx.wt (p : Bx) : Nat := p.low.wt + p.high.wt
def lw {α : Type} (ρ : α → Nat) (l : List α) : Nat := (l.map ρ).sum + 1
def Lk.wt (p : Lk) : Nat := p.length.wt + p.low.wt + p.high.wt + p.speed.wt + p.brake.wt + lw V2.wt p.shape
def Ar.wt (p : Ar) : Nat := p.name.size + p.base.wt + lw Lk.wt p.links
def Pt.wt (p : Pt) : Nat := p.name.size + lw V2.wt p.shape + p.grasp.wt
def Sl.wt (p : Sl) : Nat := p.name.size + p.frame.wt + p.within.wt
def Gt.wt (p : Gt) : Nat := p.name.size + p.zone.wt
def Wk.wt (p : Wk) : Nat := lw Ar.wt p.arms + lw (lw V2.wt) p.walls + lw Pt.wt p.parts + lw Sl.wt p.slots + lw Gt.wt p.gates + p.walk.wt
theorem lw_mem {α : Type} {ρ : α → Nat} : ∀ {l : List α} {a : α}, a ∈ l → ρ a < lw ρ l
  | x :: l, a, h => by
    simp only [lw, List.map_cons, List.sum_cons]
    rcases List.mem_cons.1 h with rfl | h
    · omega
    · have := lw_mem (ρ := ρ) h
      simp only [lw] at this; omega
theorem lw_len {α : Type} {ρ : α → Nat} (h : ∀ a, 1 ≤ ρ a) : ∀ l : List α, l.length < lw ρ l
  | [] => by simp [lw]
  | x :: l => by
    have := lw_len h l
    have := h x
    simp only [lw, List.map_cons, List.sum_cons, List.length_cons] at *; omega
section
variable {H : Type} {enc : TypeId × Value → H} {W : World} {E : AE.Env} {bulk : DataW H → Nat}
theorem openQ (hb : AE.BulkOK bulk) : AE.Opens enc Tryz.prog W E bulk 28 Q.c Q.wt :=
  (AE.Opens.struct hb Tryz.underlying28 (by kernel_rfl)
    (.cons (.bool hb Tryz.underlying4) (sz := 1) (by kernel_rfl) rfl (.cons (.str hb Tryz.underlying9) (sz := 1) (by kernel_rfl) rfl (.cons (.str hb Tryz.underlying9) (sz := 1) (by kernel_rfl) rfl .nil)))).to
    (fun p => (⟨p.1, p.2.1, p.2.2.1⟩ : Q)) (fun _ => by simp [Q.c]) (fun _ => by simp only [Q.wt]; omega)
theorem openV (hb : AE.BulkOK bulk) : AE.Opens enc Tryz.prog W E bulk 47 V2.c V2.wt :=
  (AE.Opens.struct hb Tryz.underlying47 (by kernel_rfl)
    (.cons (openQ hb) (sz := 3) (by kernel_rfl) rfl (.cons (openQ hb) (sz := 3) (by kernel_rfl) rfl .nil))).to
    (fun p => (⟨p.1, p.2.1⟩ : V2)) (fun _ => by simp [V2.c]) (fun _ => by simp only [V2.wt]; omega)
theorem openT (hb : AE.BulkOK bulk) : AE.Opens enc Tryz.prog W E bulk 49 Tn.c Tn.wt :=
  (AE.Opens.struct hb Tryz.underlying49 (by kernel_rfl)
    (.cons (.bool hb Tryz.underlying4) (sz := 1) (by kernel_rfl) rfl (.cons (openQ hb) (sz := 3) (by kernel_rfl) rfl .nil))).to
    (fun p => (⟨p.1, p.2.1⟩ : Tn)) (fun _ => by simp [Tn.c]) (fun _ => by simp only [Tn.wt]; omega)
theorem openF (hb : AE.BulkOK bulk) : AE.Opens enc Tryz.prog W E bulk 51 Fr.c Fr.wt :=
  (AE.Opens.struct hb Tryz.underlying51 (by kernel_rfl)
    (.cons (openV hb) (sz := 6) (by kernel_rfl) rfl (.cons (openT hb) (sz := 4) (by kernel_rfl) rfl .nil))).to
    (fun p => (⟨p.1, p.2.1⟩ : Fr)) (fun _ => by simp [Fr.c]) (fun _ => by simp only [Fr.wt]; omega)
theorem openB (hb : AE.BulkOK bulk) : AE.Opens enc Tryz.prog W E bulk 63 Bx.c Bx.wt :=
  (AE.Opens.struct hb Tryz.underlying63 (by kernel_rfl)
    (.cons (openV hb) (sz := 6) (by kernel_rfl) rfl (.cons (openV hb) (sz := 6) (by kernel_rfl) rfl .nil))).to
    (fun p => (⟨p.1, p.2.1⟩ : Bx)) (fun _ => by simp [Bx.c]) (fun _ => by simp only [Bx.wt]; omega)
theorem openG (hb : AE.BulkOK bulk) : AE.Opens enc Tryz.prog W E bulk 65 Gt.c Gt.wt :=
  (AE.Opens.struct hb Tryz.underlying65 (by kernel_rfl)
    (.cons (.str hb Tryz.underlying9) (sz := 1) (by kernel_rfl) rfl (.cons (openB hb) (sz := 12) (by kernel_rfl) rfl .nil))).to
    (fun p => (⟨p.1, p.2.1⟩ : Gt)) (fun _ => by simp [Gt.c]) (fun _ => by simp only [Gt.wt]; omega)
theorem openS (hb : AE.BulkOK bulk) : AE.Opens enc Tryz.prog W E bulk 61 Sl.c Sl.wt :=
  (AE.Opens.struct hb Tryz.underlying61 (by kernel_rfl)
    (.cons (.str hb Tryz.underlying9) (sz := 1) (by kernel_rfl) rfl (.cons (openF hb) (sz := 10) (by kernel_rfl) rfl (.cons (openQ hb) (sz := 3) (by kernel_rfl) rfl .nil)))).to
    (fun p => (⟨p.1, p.2.1, p.2.2.1⟩ : Sl)) (fun _ => by simp [Sl.c]) (fun _ => by simp only [Sl.wt]; omega)
variable (hE : ∀ b o, W.heap[b]? = some o → E.h b = some o)
include hE
theorem openL (hb : AE.BulkOK bulk) {t e : TypeId} {sz : Nat} (hpos : 0 < sz) {α : Type} {f : α → List AE.AV} {ρ : α → Nat} (ht : Tryz.prog.underlying t = some (.slice e)) (hs : Tryz.prog.cellsOf e = sz) (h : AE.Opens enc Tryz.prog W E bulk e f ρ) : AE.Opens enc Tryz.prog W E bulk t (fun l : List α => [.l sz (lsAv f l)]) (lw ρ) :=
  (AE.Opens.slice hE hb hpos ht hs h).to (fun l => l) (fun l => by rw [lsAv_eq]) (fun l => Nat.le_refl _)
theorem openVs (hb : AE.BulkOK bulk) : AE.Opens enc Tryz.prog W E bulk 33 wallC (lw V2.wt) := openL hE hb (by decide) Tryz.underlying33 (by kernel_rfl) (openV hb)
theorem openK (hb : AE.BulkOK bulk) : AE.Opens enc Tryz.prog W E bulk 57 Lk.c Lk.wt :=
  (AE.Opens.struct hb Tryz.underlying57 (by kernel_rfl)
    (.cons (openQ hb) (sz := 3) (by kernel_rfl) rfl (.cons (openQ hb) (sz := 3) (by kernel_rfl) rfl (.cons (openQ hb) (sz := 3) (by kernel_rfl) rfl (.cons (openQ hb) (sz := 3) (by kernel_rfl) rfl (.cons (openQ hb) (sz := 3) (by kernel_rfl) rfl (.cons (openVs hE hb) (sz := 1) (by kernel_rfl) rfl .nil))))))).to
    (fun p => (⟨p.1, p.2.1, p.2.2.1, p.2.2.2.1, p.2.2.2.2.1, p.2.2.2.2.2.1⟩ : Lk)) (fun _ => by simp [Lk.c, wallC]) (fun _ => by simp only [Lk.wt]; omega)
theorem openA (hb : AE.BulkOK bulk) : AE.Opens enc Tryz.prog W E bulk 54 Ar.c Ar.wt :=
  (AE.Opens.struct hb Tryz.underlying54 (by kernel_rfl)
    (.cons (.str hb Tryz.underlying9) (sz := 1) (by kernel_rfl) rfl (.cons (openF hb) (sz := 10) (by kernel_rfl) rfl (.cons (openL hE hb (sz := 16) (by decide) Tryz.underlying52 (by kernel_rfl) (openK hE hb)) (sz := 1) (by kernel_rfl) rfl .nil)))).to
    (fun p => (⟨p.1, p.2.1, p.2.2.1⟩ : Ar)) (fun _ => by simp [Ar.c]) (fun _ => by simp only [Ar.wt]; omega)
theorem openP (hb : AE.BulkOK bulk) : AE.Opens enc Tryz.prog W E bulk 59 Pt.c Pt.wt :=
  (AE.Opens.struct hb Tryz.underlying59 (by kernel_rfl)
    (.cons (.str hb Tryz.underlying9) (sz := 1) (by kernel_rfl) rfl (.cons (openVs hE hb) (sz := 1) (by kernel_rfl) rfl (.cons (openF hb) (sz := 10) (by kernel_rfl) rfl .nil)))).to
    (fun p => (⟨p.1, p.2.1, p.2.2.1⟩ : Pt)) (fun _ => by simp [Pt.c, wallC]) (fun _ => by simp only [Pt.wt]; omega)
theorem openW (hb : AE.BulkOK bulk) : AE.Opens enc Tryz.prog W E bulk 30 Wk.c Wk.wt :=
  (AE.Opens.struct hb Tryz.underlying30 (by kernel_rfl)
    (.cons (openL hE hb (sz := 12) (by decide) Tryz.underlying22 (by kernel_rfl) (openA hE hb)) (sz := 1) (by kernel_rfl) rfl (.cons (openL hE hb (sz := 1) (by decide) Tryz.underlying23 (by kernel_rfl) (openVs hE hb)) (sz := 1) (by kernel_rfl) rfl (.cons (openL hE hb (sz := 12) (by decide) Tryz.underlying24 (by kernel_rfl) (openP hE hb)) (sz := 1) (by kernel_rfl) rfl (.cons (openL hE hb (sz := 14) (by decide) Tryz.underlying25 (by kernel_rfl) (openS hb)) (sz := 1) (by kernel_rfl) rfl (.cons (openL hE hb (sz := 13) (by decide) Tryz.underlying26 (by kernel_rfl) (openG hb)) (sz := 1) (by kernel_rfl) rfl (.cons (openQ hb) (sz := 3) (by kernel_rfl) rfl .nil))))))).to
    (fun p => (⟨p.1, p.2.1, p.2.2.1, p.2.2.2.1, p.2.2.2.2.1, p.2.2.2.2.2.1⟩ : Wk)) (fun _ => by simp [Wk.c]) (fun _ => by simp only [Wk.wt]; omega)
end
theorem Q.sz_wt (q : Q) : q.sz ≤ q.wt := by simp only [Q.sz, Q.wt]; omega
theorem Q.wt1 (q : Q) : 1 ≤ q.wt := by simp only [Q.wt]; omega
theorem V2.wt1 (p : V2) : 1 ≤ p.wt := by have := p.x.wt1; simp only [V2.wt]; omega
theorem Lk.wt1 (p : Lk) : 1 ≤ p.wt := by have := p.length.wt1; simp only [Lk.wt]; omega
theorem lw1 {α : Type} (ρ : α → Nat) (l : List α) : 1 ≤ lw ρ l := by simp only [lw]; omega
theorem Ar.wt1 (p : Ar) : 1 ≤ p.wt := by have := lw1 Lk.wt p.links; simp only [Ar.wt]; omega
theorem Pt.wt1 (p : Pt) : 1 ≤ p.wt := by have := lw1 V2.wt p.shape; simp only [Pt.wt]; omega
theorem Sl.wt1 (p : Sl) : 1 ≤ p.wt := by have := p.within.wt1; simp only [Sl.wt]; omega
theorem Gt.wt1 (p : Gt) : 1 ≤ p.wt := by have := p.zone.low.x.wt1; simp only [Gt.wt, Bx.wt, V2.wt]; omega
theorem Q.bl {n : Nat} (q : Q) : ∀ c ∈ q.c, AE.Bl n c := by
  intro c hc
  simp only [Q.c, List.mem_cons, List.not_mem_nil, or_false] at hc
  rcases hc with rfl | rfl | rfl
  · exact .b _
  · exact .v _
  · exact .v _
theorem V2.bl {n : Nat} (p : V2) : ∀ c ∈ p.c, AE.Bl n c := by
  intro c hc
  rcases List.mem_append.1 hc with h | h
  · exact p.x.bl c h
  · exact p.y.bl c h
theorem Fr.bl {n : Nat} (p : Fr) : ∀ c ∈ p.c, AE.Bl n c := by
  intro c hc
  rcases List.mem_append.1 hc with h | h
  · exact p.at_.bl c h
  · rcases List.mem_cons.1 h with rfl | h
    · exact .b _
    · exact p.turn.t.bl c h
theorem Wk.bl {n : Nat} (w : Wk) : ∀ c ∈ w.c, AE.Bl n c := by
  intro c hc
  simp only [Wk.c, List.mem_cons] at hc
  rcases hc with rfl | rfl | rfl | rfl | rfl | h
  · exact .l _ _
  · exact .l _ _
  · exact .l _ _
  · exact .l _ _
  · exact .l _ _
  · exact w.walk.bl c h
end Go.Proofs.YtjbnffclpebkkaaGreatDoor
end
section
set_option linter.unusedVariables false
set_option linter.unusedSectionVars false
set_option linter.unusedSimpArgs false
namespace Go.Proofs.YtjbnffclpebkkaaGreatDoor
open Go
theorem V2.sz_wt (p : V2) : p.sz ≤ p.wt := by have := p.x.sz_wt; have := p.y.sz_wt; simp only [V2.sz, V2.wt]; omega
theorem Fr.le_wt (p : Fr) {n : Nat} (h : p.wt ≤ n) : p.le n := by
  have := p.at_.sz_wt; have := p.turn.t.sz_wt
  simp only [Fr.wt, Tn.wt] at h
  exact ⟨by omega, by omega⟩
theorem Lk.le_wt (p : Lk) {n : Nat} (h : p.wt ≤ n) (hn : n ≤ 2 ^ 28) : p.le n := by
  have := p.length.sz_wt; have := p.low.sz_wt; have := p.high.sz_wt; have := p.speed.sz_wt; have := p.brake.sz_wt
  have := lw_len V2.wt1 p.shape
  simp only [Lk.wt] at h
  refine ⟨by omega, by omega, by omega, by omega, by omega, fun q hq => ?_, by omega⟩
  have := lw_mem (ρ := V2.wt) hq
  have := q.sz_wt
  omega
theorem Ar.le_wt (p : Ar) {n : Nat} (h : p.wt ≤ n) (hn : n ≤ 2 ^ 28) : p.le n := by
  have := lw_len Lk.wt1 p.links
  simp only [Ar.wt] at h
  refine ⟨by omega, p.base.le_wt (by omega), fun k hk => k.le_wt ?_ hn, by omega⟩
  have := lw_mem (ρ := Lk.wt) hk
  omega
theorem Pt.le_wt (p : Pt) {n : Nat} (h : p.wt ≤ n) (hn : n ≤ 2 ^ 28) : p.le n := by
  have := lw_len V2.wt1 p.shape
  simp only [Pt.wt] at h
  refine ⟨by omega, fun q hq => ?_, by omega, p.grasp.le_wt (by omega)⟩
  have := lw_mem (ρ := V2.wt) hq
  have := q.sz_wt
  omega
theorem Sl.le_wt (p : Sl) {n : Nat} (h : p.wt ≤ n) (hn : n ≤ 2 ^ 28) : p.le n := by
  simp only [Sl.wt] at h
  have := p.within.sz_wt
  exact ⟨by omega, p.frame.le_wt (by omega), by omega⟩
theorem Gt.le_wt (p : Gt) {n : Nat} (h : p.wt ≤ n) (hn : n ≤ 2 ^ 28) : p.le n := by
  simp only [Gt.wt, Bx.wt] at h
  have := p.zone.low.sz_wt; have := p.zone.high.sz_wt
  exact ⟨by omega, by omega, by omega⟩
theorem Wk.parts_wt (w : Wk) {n : Nat} (h : w.wt ≤ n) : lw Ar.wt w.arms ≤ n ∧ lw (lw V2.wt) w.walls ≤ n ∧ lw Pt.wt w.parts ≤ n ∧ lw Sl.wt w.slots ≤ n ∧ lw Gt.wt w.gates ≤ n ∧ w.walk.wt ≤ n := by
  simp only [Wk.wt] at h
  exact ⟨by omega, by omega, by omega, by omega, by omega, by omega⟩
theorem Wk.le_wt (w : Wk) {n : Nat} (h : w.wt ≤ n) (hn : n ≤ 2 ^ 28) : w.Le := by
  obtain ⟨h1, h2, h3, h4, h5, h6⟩ := w.parts_wt h
  have := lw_len Ar.wt1 w.arms; have := lw_len (lw1 V2.wt) w.walls; have := lw_len Pt.wt1 w.parts; have := lw_len Sl.wt1 w.slots; have := lw_len Gt.wt1 w.gates
  have := w.walk.sz_wt
  refine ⟨fun p hp => p.le_wt ?_ (Nat.le_refl _), by omega, fun p hp => ?_, by omega, fun p hp => p.le_wt ?_ (Nat.le_refl _), by omega, fun p hp => p.le_wt ?_ (Nat.le_refl _), by omega, fun p hp => p.le_wt ?_ (Nat.le_refl _), by omega, by omega⟩
  · have := lw_mem (ρ := Ar.wt) hp; omega
  · have h7 := lw_mem (ρ := lw V2.wt) hp
    have := lw_len V2.wt1 p
    refine ⟨fun q hq => ?_, by omega⟩
    have := lw_mem (ρ := V2.wt) hq
    have := q.sz_wt
    omega
  · have := lw_mem (ρ := Pt.wt) hp; omega
  · have := lw_mem (ρ := Sl.wt) hp; omega
  · have := lw_mem (ρ := Gt.wt) hp; omega
theorem Wk.few_wt (w : Wk) {n : Nat} (h : w.wt ≤ n) (hn : n ≤ 2 ^ 28) : w.Few := by
  obtain ⟨h1, h2, h3, h4, h5, h6⟩ := w.parts_wt h
  have := lw_len Ar.wt1 w.arms; have := lw_len (lw1 V2.wt) w.walls; have := lw_len Pt.wt1 w.parts; have := lw_len Sl.wt1 w.slots; have := lw_len Gt.wt1 w.gates
  refine ⟨by omega, fun a ha => ?_, ⟨by omega, fun l hl => ?_⟩, ⟨by omega, fun p hp => ?_⟩, by omega, by omega⟩
  · have h7 := lw_mem (ρ := Ar.wt) ha
    simp only [Ar.wt] at h7
    have := lw_len Lk.wt1 a.links
    refine ⟨by omega, fun k hk => ?_⟩
    have h8 := lw_mem (ρ := Lk.wt) hk
    simp only [Lk.wt] at h8
    have := lw_len V2.wt1 k.shape
    omega
  · have h7 := lw_mem (ρ := lw V2.wt) hl
    have := lw_len V2.wt1 l
    omega
  · have h7 := lw_mem (ρ := Pt.wt) hp
    simp only [Pt.wt] at h7
    have := lw_len V2.wt1 p.shape
    omega
theorem Wk.Few.low {w : Wk} (h : w.Few) : w.Low := by
  have h1 := h.arms; have h2 := h.slots; have h3 := h.gates
  obtain ⟨h4, h5⟩ := h.walls
  obtain ⟨h6, h7⟩ := h.parts
  refine ⟨by omega, fun a ha => ?_, ⟨by omega, fun l hl => ?_⟩, ⟨by omega, fun p hp => ?_⟩, by omega, by omega⟩
  · obtain ⟨h8, h9⟩ := h.links a ha
    exact ⟨by omega, fun k hk => by have := h9 k hk; omega⟩
  · have := h5 l hl; omega
  · have := h7 p hp; omega
theorem app_sz (a b : ByteArray) : (a ++ b).size = a.size + b.size := ByteArray.size_append
theorem textS_size (s : ByteArray) : (textS s).size ≤ 10 + s.size := by
  have := natS_size s.size
  rw [textS, app_sz]; omega
theorem Q.S_size (q : Q) : q.S.size ≤ 32 * q.wt := by
  have := textS_size q.num; have := textS_size q.den
  rw [Q.S, app_sz, app_sz, boolS_size, Q.wt]; omega
theorem V2.S_size (p : V2) : p.S.size ≤ 32 * p.wt := by
  have := p.x.S_size; have := p.y.S_size
  rw [V2.S, app_sz, V2.wt]; omega
theorem Fr.wt1 (p : Fr) : 1 ≤ p.wt := by have := p.turn.t.wt1; simp only [Fr.wt, Tn.wt]; omega
theorem Fr.S_size (p : Fr) : p.S.size ≤ 33 * p.wt := by
  have := p.at_.S_size; have := p.turn.t.S_size; have := p.turn.t.wt1
  rw [Fr.S, app_sz, app_sz, boolS_size, Fr.wt, Tn.wt]; omega
theorem fold_size {α : Type} {f : α → ByteArray} {ρ : α → Nat} (h : ∀ a, (f a).size ≤ 64 * ρ a) : ∀ (l : List α) (b : ByteArray), (l.foldl (fun acc x => acc ++ f x) b).size ≤ b.size + 64 * (l.map ρ).sum
  | [], b => by simp
  | x :: l, b => by
    have h1 := fold_size h l (b ++ f x)
    have h2 := h x
    rw [app_sz] at h1
    simp only [List.foldl_cons, List.map_cons, List.sum_cons]
    omega
theorem lsS_size {α : Type} {f : α → ByteArray} {ρ : α → Nat} (h : ∀ a, (f a).size ≤ 64 * ρ a) (l : List α) : (lsS f l).size ≤ 64 * lw ρ l := by
  have h1 := fold_size h (l.take l.length) (natS l.length)
  have h2 := natS_size l.length
  rw [lsS, upS, lw]
  rw [List.take_length] at h1 ⊢
  omega
theorem V2.S_size' (p : V2) : p.S.size ≤ 64 * p.wt := by have := p.S_size; omega
theorem Lk.S_size (p : Lk) : p.S.size ≤ 64 * p.wt := by
  have := p.length.S_size; have := p.low.S_size; have := p.high.S_size; have := p.speed.S_size; have := p.brake.S_size
  have := lsS_size V2.S_size' p.shape
  rw [Lk.S, app_sz, app_sz, app_sz, app_sz, app_sz, Lk.wt]; omega
theorem Ar.S_size (p : Ar) : p.S.size ≤ 64 * p.wt := by
  have := textS_size p.name; have := p.base.S_size; have := lsS_size Lk.S_size p.links; have := p.base.wt1
  rw [Ar.S, app_sz, app_sz, Ar.wt]; omega
theorem Pt.S_size (p : Pt) : p.S.size ≤ 64 * p.wt := by
  have := textS_size p.name; have := p.grasp.S_size; have := lsS_size V2.S_size' p.shape; have := p.grasp.wt1
  rw [Pt.S, app_sz, app_sz, Pt.wt]; omega
theorem Sl.S_size (p : Sl) : p.S.size ≤ 64 * p.wt := by
  have := textS_size p.name; have := p.frame.S_size; have := p.within.S_size; have := p.frame.wt1
  rw [Sl.S, app_sz, app_sz, Sl.wt]; omega
theorem Gt.S_size (p : Gt) : p.S.size ≤ 64 * p.wt := by
  have := textS_size p.name; have := p.zone.low.S_size; have := p.zone.high.S_size; have := p.zone.low.wt1
  rw [Gt.S, app_sz, app_sz, Gt.wt, Bx.wt]; omega
theorem Wk.S_size (w : Wk) : w.S.size ≤ 64 * w.wt + 2 := by
  have := lsS_size Ar.S_size w.arms; have := lsS_size (f := fun l => lsS V2.S l) (lsS_size V2.S_size') w.walls; have := lsS_size Pt.S_size w.parts; have := lsS_size Sl.S_size w.slots; have := lsS_size Gt.S_size w.gates
  rw [Wk.S, app_sz, app_sz, app_sz, app_sz, app_sz, Wk.wt]
  have : (⟨⟨[71, 49]⟩⟩ : ByteArray).size = 2 := rfl
  omega
theorem nil_S {α : Type} (f : α → ByteArray) : (lsS f []).size ≤ 10 := by
  rw [lsS, upS]; exact natS_size _
theorem day_S_size (w : Wk) (d : Dy) (hd : d = ⟨w, ⟨0, [], [], [], []⟩, [], [], [], 0⟩) : d.S.size ≤ 128 * w.wt + 200 := by
  subst hd
  have h1 := w.S_size
  have h2 := w.walk.S_size
  have h3 := natS_size 0
  have h4 := nil_S As.S; have h5 := nil_S Fr.S; have h6 := nil_S V2.S; have h7 := nil_S boolS
  have h8 := nil_S (fun l => lsS Ky.S l); have h9 := nil_S Fl.S; have h10 := nil_S (fun l => lsS V2.S l)
  have h11 : w.walk.wt ≤ w.wt := by rw [Wk.wt]; omega
  rw [Dy.S, app_sz, Dy.B, app_sz, app_sz, app_sz, app_sz, app_sz, app_sz, Ss.S, app_sz, app_sz, app_sz, app_sz, S_size]
  have h12 : ∀ n, (tailL n 8).length = 8 := fun n => by rw [tailL, List.length_map, List.length_range]
  rw [h12]
  simp only at h1 h2 h3 h4 h5 h6 h7 h8 h9 h10 ⊢
  omega
end Go.Proofs.YtjbnffclpebkkaaGreatDoor
end
