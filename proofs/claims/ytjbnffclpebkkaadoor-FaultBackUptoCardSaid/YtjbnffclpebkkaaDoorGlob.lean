/- The package-level variables that the library's functions read, out of a row's own conditions. -/
import Derived.Test.YtjbnffclpebkkaaDoorStrs
import Derived.Test.YtjbnffclpebkkaaDoorRows
import Derived.Shelf.Vars
import Derived.Lib.LaidTab
import Derived.MakeChecks
set_option linter.unusedVariables false
namespace Go.Proofs.YtjbnffclpebkkaaDoor
open Go

theorem laid_tail {P : Program} {x : String × DataW Unit} {r : List (String × DataW Unit)} {w : World} (h : laidMet P (x :: r) w) : laidMet P r w := by
  obtain ⟨ps, hv, hnd, hrows⟩ := h
  obtain ⟨n, d⟩ := x
  obtain ⟨g, t, cs, fuel, p, q, _, _, _, _, hq, rfl⟩ := hv
  rw [List.nodup_append] at hnd
  exact ⟨q, hq, hnd.2.1, fun b off hm => hrows b off (by simp [hm])⟩
theorem iface_var {P : Program} {w : World} {name tn : String} {d : DataW Unit} {r : List (String × DataW Unit)} {g : Nat} {t : TypeId} {ms : Array (String × TypeId)} (hg : P.globalNamed name = some g) (ht : (P.globals[g]?).map (·.type) = some t)
    (hu : P.underlying t = some (.interface ms)) (h : laidMet P ((name, .iface tn d) :: r) w) : ∃ tp p, w.var? P name = some #[.iface tp p] := by
  obtain ⟨ps, ⟨g', t', cs, fuel, p, q, hg', ht', hvar, hd, _, _⟩, _⟩ := h
  obtain rfl := Option.some.inj (hg.symm.trans hg')
  obtain rfl := Option.some.inj (ht.symm.trans ht')
  obtain ⟨_, u, v, hcs, _⟩ := iface_of_trod hu hd
  exact ⟨u, v, by rw [hvar]; exact congrArg some (Array.toList_inj.1 hcs)⟩

theorem lib_of {W : World} (hL : laidMetH Tryd.prog Rows.faultTextsUptoRow.laid W) (hS : W.ShapedOpen Tryd.prog) : LibOK W := by
  rw [MakeChecks.laidMetH_plain _ _ _ (by kernel_rfl)] at hL
  have h3 := laid_tail (laid_tail hL)
  have h5 := laid_tail (laid_tail h3)
  have h6 := laid_tail h5
  refine ⟨Lib.tabIs_of_head (g := 3) (t := 182) (e := 151) (n := 20) (by kernel_rfl) (by kernel_rfl) (by kernel_rfl) (by kernel_rfl) (by kernel_rfl) (by kernel_rfl) (show laidMet Tryd.prog (("internal/strconv.uint64pow10", Lib.tabData .u64 Lib.pow10Tab) :: _) W from h3), ?_, ?_, ?_⟩
  · exact cell_of_shapedOpen_int (g := 0) (t := 3) (zero := #[.int .i64 0]) (k := .i64) hS (by decide) (by kernel_rfl) rfl (by kernel_rfl) (by kernel_rfl) Tryd.underlying3
  · exact iface_var (g := 1) (t := 99) (ms := _) (by kernel_rfl) (by kernel_rfl) Tryd.underlying99 h6
  · exact iface_var (g := 2) (t := 99) (ms := _) (by kernel_rfl) (by kernel_rfl) Tryd.underlying99 h5
theorem gg_of {W : World} (h : LibOK W) : GG (fun b => W.heap[b]?) := by
  intro W' hW
  have hv : ∀ name cs, W.var? Tryd.prog name = some cs → W'.var? Tryd.prog name = some cs := by
    intro name cs hc
    unfold World.var? at hc ⊢
    cases hg : Tryd.prog.globalNamed name with
    | none => rw [hg] at hc; cases hc
    | some g =>
      rw [hg] at hc
      simp only [Option.bind_some] at hc ⊢
      cases hh : W.heap[g]? with
      | none => rw [hh] at hc; cases hc
      | some o => rw [hW g o hh]; rw [hh] at hc; exact hc
  refine ⟨hv _ _ h.pow, ?_, ?_, ?_⟩
  · obtain ⟨m, hm⟩ := h.max
    refine ⟨m, ?_⟩
    unfold World.cell? at hm ⊢
    cases hh : W.heap[(⟨0, 0, none⟩ : Addr).block]? with
    | none => rw [hh] at hm; cases hm
    | some o => rw [hW _ o hh]; rw [hh] at hm; exact hm
  · obtain ⟨a, b, hc⟩ := h.syn; exact ⟨a, b, hv _ _ hc⟩
  · obtain ⟨a, b, hc⟩ := h.rng; exact ⟨a, b, hv _ _ hc⟩
end Go.Proofs.YtjbnffclpebkkaaDoor
