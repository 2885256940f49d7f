/- PROVED HERE: FaultBackUptoCardSaid: whatever two lists of numbers come in, gantkeep2.FaultBack returns true and all reads behind the call as it read before. CONDITIONS: what is read is of bulk at most 1048576 (the given second form); the listed tables and errors of Go's library hold what the program's text lays (the given tie); no other. -/
import Derived.Test.YtjbnffclpebkkaaDoorBack
import Derived.Test.YtjbnffclpebkkaaDoorGlob
import Derived.Test.YtjbnffclpebkkaaDoorCards
import Derived.Test.YtjbnffclpebkkaaDoorTie
import Derived.WalkKit
import Derived.ProofKit
import Derived.OpenShut
import Derived.JoinedCond
import Derived.WideKeyArgs
import Derived.Deep.DeepHandedRow
import Derived.Lib.LaidTab
set_option linter.unusedVariables false
namespace Go.Proofs.YtjbnffclpebkkaaDoor.faultBack
open Go Go.ChangeShapes Go.WideShapes Go.ChangeAt Go.RowKit

theorem own : ownKnob Tryd.prog.godebug = none := by kernel_rfl

theorem bulkAll_sum {H : Type} : ∀ l : List (DataW H), Rows.uptoBulkAll l = (l.map Rows.uptoBulk).sum
  | [] => rfl
  | d :: l => by simp only [Rows.uptoBulkAll, List.map_cons, List.sum_cons, bulkAll_sum l]
theorem bulkOK {H : Type} : AE.BulkOK (H := H) Rows.uptoBulk where
  one := by
    intro d
    cases d with
    | lit l => cases l <;> simp [Rows.uptoBulk]
    | nil => simp [Rows.uptoBulk]
    | ptr d => simp [Rows.uptoBulk]
    | slice elems spare => simp [Rows.uptoBulk]
    | agg parts => simp [Rows.uptoBulk]
    | iface t d => simp [Rows.uptoBulk]
    | map entries => simp [Rows.uptoBulk]
    | held h => simp [Rows.uptoBulk]
  str := by intro l; simp [Rows.uptoBulk]
  agg := by intro l; simp only [Rows.uptoBulk, bulkAll_sum]; omega
  slice := by intro l m; simp only [Rows.uptoBulk, bulkAll_sum]; omega

section
variable {H : Type} {enc : TypeId × Value → H} {W : World} {E : AE.Env}
theorem sum_len {α : Type} (c : Nat) : ∀ m : List α, (m.map fun _ => c).sum = c * m.length
  | [] => by simp
  | x :: m => by simp only [List.map_cons, List.sum_cons, sum_len c m, List.length_cons, Nat.mul_add]; omega
theorem openL (hE : ∀ b o, W.heap[b]? = some o → E.h b = some o) : AE.Opens enc Tryd.prog W E Rows.uptoBulk 33 (fun l : List Int => [.l 1 (il l)]) (fun l => l.length) :=
  (AE.Opens.slice hE bulkOK (sz := 1) (by decide) Tryd.underlying33 (by kernel_rfl) (.int bulkOK Tryd.underlying3)).to
    (fun l => l) (fun l => by rw [il_eq]) (fun l => by rw [sum_len]; omega)
end

theorem okWide_str {P : Program} {w : World} {r : Reach} {b0 : Nat} {t : TypeId} {v : Value} (ht : P.underlying t = some .string) (h : Value.okWide P w r b0 t v) : ∃ s, v = .string s := by
  cases v <;> simp [Value.okWide, Cell.okWide, Cell.ok, ht] at h
  exact ⟨_, rfl⟩
/-- What a call that keeps all old blocks leaves behind: the arguments read as they did. -/
theorem post_kept {H : Type} {enc : TypeId × Value → H} {W W' : World} {args : Array Value} {ds gs : List (DataW H)} {before : List MemPlace} {v : Value}
    (hW : DataW.Whole enc Tryd.prog Tryd.f7.params.toList Rows.faultBackSpec.vars false W args.toList ds gs before) (hv : v = .bool true)
    (hfn : (Rows.faultBackSpec.fn H (ds ++ gs)) = { results := [.lit (.bool true)], args := ds }) (hgs : gs = [])
    (hos : W'.os = W.os) (hout : W'.output = W.output) (hheap : ∀ b, b < W.heap.size → W'.heap[b]? = W.heap[b]?) :
    Rows.faultBackSpec.post enc Tryd.prog Tryd.f7 false true false false W args v W' := by
  have hW' := hW
  obtain ⟨p, q, hA, hV, hpq, hfz, hnd⟩ := hW
  have hvars : Rows.faultBackSpec.vars = [] := rfl
  rw [hvars] at hV
  obtain ⟨hq1, hq2⟩ := trodVars_none hV
  subst hq1; subst hq2
  have hlt := hA.lt
  have hsame : ∀ pl ∈ p, W.sameAt W' pl := by
    intro pl hpl
    have h1 := hlt pl hpl
    cases pl with
    | cell b off => simp only [World.sameAt, World.cell?]; rw [hheap b h1]
    | map b => exact hheap b h1
  have hargs : ∀ sp : Nat → Bool, (∀ pl ∈ p, sp pl.block = true) → DataW.TrodAll enc Tryd.prog W' 0 sp true Tryd.f7.params.toList args.toList ds p := by
    intro sp hsp
    rw [Tryd.params7] at hA ⊢
    obtain ⟨v0, vs0, d0, ds0, p0, q0, hargs, rfl, rfl, h0, r0⟩ := trodAll_cons hA
    obtain ⟨v1, vs1, d1, ds1, p1, q1, rfl, rfl, rfl, h1, r1⟩ := trodAll_cons r0
    obtain ⟨rfl, rfl, rfl⟩ := trodAll_nil r1
    rw [hargs]
    exact trodAll_cons_mk (Go.WideElems.Trod_stays (by kernel_rfl) (by kernel_rfl) (by decide +kernel) h0 (fun pl hpl => hsame pl (by simp [hpl])) (fun pl hpl => hsp pl (by simp [hpl])))
      (trodAll_cons_mk (Go.WideElems.Trod_stays (by kernel_rfl) (by kernel_rfl) (by decide +kernel) h1 (fun pl hpl => hsame pl (by simp [hpl])) (fun pl hpl => hsp pl (by simp [hpl])))
        trodAll_mk0)
  have hold : ∀ pl ∈ p, (fun b => decide (b < W.heap.size)) pl.block = true := fun pl hpl => by simpa using hlt pl hpl
  refine ⟨ds, [], before, [], p, [], hW', ?_, ?_, ?_, ?_, fun h => by cases h⟩
  · rw [hfn, hv]
    exact trodAll_cons_mk (shut_bool Tryd.underlying4 _) trodAll_mk0
  · rw [hfn]; exact hargs _ hold
  · rw [hfn]; rfl
  · refine ⟨hos, hout, fun i hi => ?_⟩
    rw [hheap i hi]
    cases W.heap[i]? with
    | none => rfl
    | some o => cases o <;> simp

set_option maxRecDepth 100000 in
theorem contract (H : Type) (enc : TypeId × Value → H) (W : World) (base : Nat) (args : Array Value) (ds gs : List (DataW H)) (before : List MemPlace)
    (hval : ∀ (j : Nat) t v, Tryd.f7.params[j]? = some t → args[j]? = some v → Value.okWide Tryd.prog W .any base t v)
    (hW : DataW.Whole enc Tryd.prog Tryd.f7.params.toList Rows.faultBackSpec.vars false W args.toList ds gs before) (hk : Rows.uptoSmall H (ds ++ gs) = true) (hL : laidMetH Tryd.prog Rows.faultBackUptoRow.laid W) (hS : W.ShapedOpen Tryd.prog) :
    Calls Tryd.prog 7 args W fun e W' => ∃ v, e = .returned v ∧ Rows.faultBackSpec.post enc Tryd.prog Tryd.f7 false true false false W args v W' := by
  have hW' := hW
  obtain ⟨p, q, hA0, hV, rfl, hfz, hnd⟩ := hW
  have hA : DataW.TrodAll enc Tryd.prog W 0 (fun _ => true) true Tryd.f7.params.toList args.toList ds p := hA0
  rw [Tryd.params7] at hA hval
  obtain ⟨v0, vs0, d0, ds0, p0, q0, hargs, rfl, rfl, h0, r0⟩ := trodAll_cons hA
  obtain ⟨v1, vs1, d1, ds1, p1, q1, rfl, rfl, rfl, h1, r1⟩ := trodAll_cons r0
  obtain ⟨rfl, rfl, rfl⟩ := trodAll_nil r1
  obtain rfl : args = #[v0, v1] := by cases args; simp_all
  have hvars : Rows.faultBackSpec.vars = [] := rfl
  rw [hvars] at hV
  obtain ⟨rfl, rfl⟩ := trodVars_none hV
  obtain ⟨a, len, cap, rfl⟩ := okWide_slice Tryd.underlying33 (hval 0 33 v0 rfl rfl)
  obtain ⟨a', len', cap', rfl⟩ := okWide_slice Tryd.underlying33 (hval 1 33 v1 rfl rfl)
  let E : AE.Env := { h := fun b => W.heap[b]?, blk := fun _ => 0, row := fun _ => .nilFunc }
  have hE : ∀ b o, W.heap[b]? = some o → E.h b = some o := fun b o h => h
  obtain ⟨n0, t0⟩ := h0
  obtain ⟨l, hl, hlw⟩ := openL (enc := enc) hE n0 _ _ t0
  obtain ⟨n1, t1⟩ := h1
  obtain ⟨m, hm, hmw⟩ := openL (enc := enc) hE n1 _ _ t1
  have hbound : Rows.uptoBulk d0 ≤ 1048576 ∧ Rows.uptoBulk d1 ≤ 1048576 := by
    have h : Rows.uptoBulkAll ([d0, d1] ++ []) ≤ 1048576 := of_decide_eq_true hk
    simp only [List.append_nil, Rows.uptoBulkAll] at h
    omega
  simp only at hlw hmw
  have hM : AE.Mem W (AE.mineOf E []) (AE.knOf E []) E [] W := by
    refine ⟨rfl, rfl, rfl, Nat.le_refl _, fun _ _ _ => rfl, fun b o h => h, fun b o h => .inl (by simp only [AE.knOf]; rw [h]; simp), fun k ob h => by simp at h, fun k k' ob ob' h => by simp at h, fun k ob h => by simp at h, fun k b h => (by simp [AE.knOf, AE.isBox] at h), fun b o h => h⟩
  have hcall := law7_ok l m (by omega) (by omega) (il l) (il m) rfl rfl E W [.slice a len cap, .slice a' len' cap'] (gg_of (lib_of hL hS)) hM (fun k cs ty h => by simp at h) rfl (fun i x u hx hu => by
    match i with
    | 0 =>
      simp at hx hu; subst hx; subst hu
      exact ⟨(hl.2.2 0 _ _ rfl rfl).up, .l _ _⟩
    | 1 =>
      simp at hx hu; subst hx; subst hu
      exact ⟨(hm.2.2 0 _ _ rfl rfl).up, .l _ _⟩
    | i + 2 => simp at hx)
  have hCalls : Calls Tryd.prog 7 #[.slice a len cap, .slice a' len' cap'] W fun e W' => ∃ v, e = .returned v ∧ ∃ E', AE.Mem W (AE.mineOf E []) (AE.knOf E []) E' [] W' ∧ AE.Wfo [] ∧ AE.RAV E' true (.b true) v ∧ AE.Bl 0 (.b true) := by
    rcases hcall with ⟨_, h⟩ | ⟨u, W', h, _⟩
    · exact h
    · rw [Tryd.call7] at h; cases h
  refine hCalls.mono fun e W' ⟨v, he, E', hM', _, hv, _⟩ => ⟨v, he, ?_⟩
  refine post_kept hW' hv.bInv rfl rfl hM'.os hM'.output fun b hb => hM'.keep b hb ?_
  rintro ⟨i, ob, h, _⟩
  simp at h

/-- The cells of a table that is listed. -/
def cellOf (d : DataW Unit) : List Value :=
  match d with
  | .lit (.int k n) => [.int k n]
  | .agg ps => ps.map fun x => match x with | .lit (.int k n) => Value.int k n | _ => .nilFunc
  | _ => []
def tabCells (d : DataW Unit) : Array Value :=
  match d with
  | .agg ps => (ps.flatMap cellOf).toArray
  | _ => #[]
def putTab (h : Array Obj) (g : Nat) (d : DataW Unit) : Array Obj := h.modify g fun
  | .cells _ t frozen => .cells (tabCells d) t frozen
  | o => o
def putErr (h : Array Obj) (g : Nat) (l : List UInt8) : Array Obj := (h.modify g fun
  | .cells _ t frozen => .cells #[.iface 188 (.pointer (some ⟨h.size, 0, none⟩))] t frozen
  | o => o).push (.cells #[.string ⟨l.toArray⟩] 190 (0, 0))
/-- A world for the witness: the settled one, the listed tables and errors holding what is laid. -/
noncomputable def laidWorld (os : Os) : World :=
  { World.holding Tryd.prog os ⟨#[], #[], []⟩ with heap := putErr (putErr (putTab (putTab (putTab (putTab (putTab (World.holding Tryd.prog os ⟨#[], #[], []⟩).heap 3 Rows.laid_internal_strconv_uint64pow10) 4 Rows.laid_unicode_utf8_first) 5 Rows.laid_unicode_utf8_acceptRanges) 6 Rows.laid_math_bits_deBruijn32tab) 7 Rows.laid_math_bits_deBruijn64tab)
    1 [105, 110, 118, 97, 108, 105, 100, 32, 115, 121, 110, 116, 97, 120]) 2 [118, 97, 108, 117, 101, 32, 111, 117, 116, 32, 111, 102, 32, 114, 97, 110, 103, 101] }
theorem laid_met (os : Os) : laidMet Tryd.prog Rows.faultBackUptoRow.laid ((laidWorld os).forCall (fun _ _ => 0) ⟨#[], #[.slice none 0 0, .slice none 0 0], []⟩).memory :=
  laidMet_of_run' 8 (by kernel_rfl) (by kernel_rfl)
theorem reads (os : Os) {H : Type} (enc : TypeId × Value → H) : ∃ places, DataW.whole enc Tryd.prog ((laidWorld os).forCall (fun _ _ => 0) ⟨#[], #[.slice none 0 0, .slice none 0 0], []⟩).memory Tryd.f7.params.toList Rows.faultBackSpec.vars false #[Value.slice none 0 0, .slice none 0 0].toList 8 = some ([.nil, .nil], [], places) :=
  ⟨[], by kernel_rfl⟩

set_option maxRecDepth 100000 in
theorem lifted (os : Os) (started : os.Started) (H : Type) (enc : TypeId × Value → H) (F : Stop.Interp) :
    ReturnsInHanded {} Tryd.checked os 7 .any ((Rows.OpenSpec.upto Rows.faultBackSpec).preRow enc Tryd.prog Tryd.f7 Rows.faultBackUptoRow.domain false Rows.faultBackUptoRow.laid) (((Rows.OpenSpec.upto Rows.faultBackSpec).at F).post enc Tryd.prog Tryd.f7 false true false false) := by
  obtain ⟨places, hx⟩ := reads os enc
  refine returnsInHanded_of_row (C := Tryd.checked) (s := Rows.OpenSpec.upto Rows.faultBackSpec) own started (by kernel_rfl) Tryd.func7
    (witness_row_at (enc := enc) (C := Tryd.checked) false (laidWorld os) #[.slice none 0 0, .slice none 0 0] rfl (by kernel_rfl) (by kernel_rfl) (by kernel_rfl)
      (OpenSpec.preRow_of_cond 8 hx (by kernel_rfl) (fun k hk => by cases hk; kernel_rfl) (by kernel_rfl) (laid_met os))) ?_
  intro W base args ds gs before hval hW _ hcond _ hL hS _
  exact contract H enc W base args ds gs before hval hW (hcond _ rfl) hL hS

theorem over : Rows.FaultBackUptoSaid :=
  OpenClaim.holds_of_cond 7 Tryd.f7 rfl rfl rfl rfl rfl rfl rfl ⟨rfl, rfl, rfl, rfl, rfl⟩ rfl rfl rfl rfl rfl (by kernel_rfl) Tryd.func7 (by kernel_rfl)
    (of_decide_eq_true (by kernel_rfl)) (by unfold Func.isWrapper; first | (rw [if_pos (by decide +kernel)]; kernel_rfl) | (rw [if_neg (by decide +kernel)]; exact ⟨rfl, rfl⟩))
    (fun os started H enc _ F => by rw [OpenClaim.pre_eq_preRow]; exact lifted os started H enc F)

/-- No parameter wants a stand-in; the program's own looks are off: what the card asks. -/
theorem plain (f : FuncId) (fn : Func) (hf : Tryd.pinned.checked.prog.funcNamed "gantry/gantkeep2.FaultBack" = some f) (hfn : Tryd.pinned.checked.prog.funcs[f]? = some fn) :
    true = Tryd.pinned.checked.prog.looks [] ∧ ∀ (j : Nat) t, fn.params[j]? = some t → Tryd.pinned.checked.prog.wantsStandIn t = false := by
  obtain rfl : f = 7 := Option.some.inj ((show Tryd.prog.funcNamed "gantry/gantkeep2.FaultBack" = some 7 by kernel_rfl).symm.trans hf) |>.symm
  obtain rfl : fn = Tryd.f7 := (Option.some.inj (Tryd.func7.symm.trans hfn)).symm
  refine ⟨by kernel_rfl, fun j t ht => ?_⟩
  rw [Tryd.params7] at ht
  have := Array.mem_of_getElem? ht
  simp at this
  subst this
  exact (show Tryd.prog.wantsStandIn 33 = false by kernel_rfl)

theorem proved : Rows.FaultBackUptoCardSaid :=
  Claim7.holds_tied_plain_at .later [] _ _ _ _ over (fun _ h => by cases h) (by kernel_rfl) (fun _ h => by cases h) faultBackUpto_row_tie rfl ⟨rfl, rfl⟩ (by kernel_rfl) rfl plain (by kernel_rfl)
end Go.Proofs.YtjbnffclpebkkaaDoor.faultBack
