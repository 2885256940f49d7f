/- Contracts for strings.Builder: copyCheck, WriteString (a builder whose buffer is an own row), String (of a builder that holds a byte). -/
import Derived.Test.YtjbnffclpebkkaaDoorBuilder
import Derived.Test.YtjbnffclpebkkaaDoorAE16
set_option linter.unusedVariables false
namespace Go.Proofs.YtjbnffclpebkkaaDoor
open Go
def bodyOf (f : Func) : Code := f.body.getD .skip
theorem mixed : Tryd.prog.follows .mixedOrders = true := by kernel_rfl
theorem enters {f : Nat} {fn : Func} (h : Tryd.prog.funcs[f]? = some fn) (hn : (fn.name == "runtime.NumGoroutine") = false) (hb : fn.body.isNone = false) : AE.Enters Tryd.prog f := ⟨fn, h, hn, hb⟩

theorem box2 {E : AE.Env} {W : World} {x y : AE.AV} {k ty : Nat} (h : AE.OBOK E k W (.box [x, y] ty)) : ∃ u v, W.heap[E.blk k]? = some (.cells #[u, v] ty (0, 0)) ∧ u.oneCell' = true ∧ v.oneCell' = true ∧ AE.RAV E true x u ∧ AE.RAV E true y v := by
  obtain ⟨vs, hv, hl, h1, hr⟩ := h
  match vs, hl with
  | [u, v], _ => exact ⟨u, v, hv, h1 u (by simp), h1 v (by simp), hr 0 x u rfl rfl, hr 1 y v rfl rfl⟩
theorem arg1 {E : AE.Env} {n : Nat} {x : AE.AV} {vs : List Value} (hl : [x].length = vs.length) (h : ∀ (i : Nat) (y : AE.AV) (u : Value), [x][i]? = some y → vs[i]? = some u → AE.RAV E true y u ∧ AE.Bl n y) : ∃ u, vs = [u] ∧ AE.RAV E true x u := by
  match vs, hl with
  | [u], _ => exact ⟨u, rfl, (h 0 x u rfl rfl).1⟩

theorem copyCheck_ok (x : AE.AV) (hx : x = .v (.pointer none) ∨ x = .p 0 0) (es : List (List AE.AV)) :
    AE.ACall Tryd.prog 73 [.box [x, .r 1] 97, .row 5 1 es] [.p 0 0] [.box [.p 0 0, .r 1] 97, .row 5 1 es] (.t []) := by
  intro E W vs hM hwf hlen hargs
  obtain ⟨u, rfl, hu⟩ := arg1 hlen hargs
  have hu' := hu.pInv
  subst hu'
  obtain ⟨u0, u1, hh, h0, h1, hr0, hr1⟩ := box2 (hM.owns 0 _ rfl)
  have hlt : E.blk 0 < W.heap.size := (Array.getElem?_eq_some_iff.1 hh).1
  refine .inl ⟨enters Tryd.func73 rfl rfl, ?_⟩
  rcases hx with rfl | rfl
  · have e0 := hr0.vInv
    subst e0
    refine (copyCheck_fresh (E.blk 0) W (by rw [Lib.cell_of_heap hh]; rfl) (by simp [World.shape?, hh]) (Lib.frozen_of_heap hh 0)).mono ?_
    rintro e w' ⟨rfl, rfl⟩
    refine ⟨_, rfl, E, ?_, ?_, .t _ _ [] rfl (by simp), .t _ (by simp)⟩
    · refine hM.set (k := 0) (ob := .box [.v (.pointer none), .r 1] 97) (ob' := .box [.p 0 0, .r 1] 97) rfl rfl (fun _ _ => ⟨rfl, rfl⟩) (fun _ _ _ _ _ _ _ _ h => h) rfl rfl rfl (by simp) (fun b _ hb => heap_setCell_other W _ b _ (hb trivial)) ?_ (fun _ => .inl ⟨trivial, rfl⟩) (fun _ => ⟨⟨rfl, rfl⟩, rfl⟩)
      refine ⟨[.pointer (some ⟨E.blk 0, 0, none⟩), u1], heap_setCell_same W (E.blk 0) 0 _ 97 _ hh, rfl, ?_, ?_⟩
      · intro x hx; simp at hx; rcases hx with rfl | rfl
        · rfl
        · exact h1
      · intro i c u hc hu
        match i with
        | 0 => simp at hc hu; subst hc; subst hu; exact .p 0 0
        | 1 => simp at hc hu; subst hc; subst hu; exact hr1
        | i + 2 => simp at hc
    · exact AE.blO_ok (l := [.box [.p 0 0, .r 1] 97, .row 5 1 es]) rfl
  · have e0 := hr0.pInv
    subst e0
    refine (copyCheck_used (E.blk 0) W (by rw [Lib.cell_of_heap hh]; rfl)).mono ?_
    rintro e w' ⟨rfl, rfl⟩
    exact ⟨_, rfl, E, hM, hwf, .t _ _ [] rfl (by simp), .t _ (by simp)⟩

theorem string_ok (l : List UInt8) (h0 : l ≠ []) (es : List (List AE.AV)) (hes : es = l.map fun b => [.v (.int .u8 b.toNat)]) (s : ByteArray) (hs : s = ⟨l.toArray⟩) :
    AE.ACall Tryd.prog 50 [.box [.p 0 0, .r 1] 97, .row 5 1 es] [.p 0 0] [.box [.p 0 0, .r 1] 97, .dead] (.v (.string s)) := by
  intro E W vs hM hwf hlen hargs
  obtain ⟨u, rfl, hu⟩ := arg1 hlen hargs
  have hu' := hu.pInv
  subst hu'
  obtain ⟨u0, u1, hh, h00, h1, hr0, hr1⟩ := box2 (hM.owns 0 _ rfl)
  have e1 := hr1.rInv
  subst e1
  obtain ⟨xs, hrow⟩ := hM.owns 1 _ rfl
  have hel : es.length = l.length := by rw [hes]; simp
  have hl0 : l.length ≠ 0 := by simpa using h0
  rcases hrow.shape with ⟨_, hz⟩ | ⟨cap, cur, hv, hg, hnc, hcm, hcs, hxl, hxc⟩
  · rw [hz] at hel; simp at hel; exact absurd hel.symm (by simpa using h0)
  rw [hel] at hv hnc hxl hxc
  have hxs : xs = Lib.byteCells l := by
    apply List.ext_getElem?
    intro i
    by_cases hi : i < l.length
    · have hi2 : i < xs.length := by omega
      have hb : es[i]? = some [.v (.int .u8 (l[i]).toNat)] := by rw [hes]; simp [hi]
      have := (hrow.rav i 0 _ _ xs[i] hb rfl (by simp [hi2])).vInv
      rw [List.getElem?_eq_getElem hi2, this]
      simp [Lib.byteCells, hi]
    · rw [List.getElem?_eq_none (by omega), List.getElem?_eq_none (by simp [Lib.byteCells]; omega)]
  have htake : cur.toList.take l.length = Lib.byteCells l := by
    rw [← hxs]
    apply List.ext_getElem?
    intro i
    by_cases hi : i < l.length
    · rw [List.getElem?_take_of_lt hi]
      have := hxc i (by omega)
      simpa using this
    · rw [List.getElem?_eq_none (by simp; omega), List.getElem?_eq_none (by omega)]
  refine .inl ⟨enters Tryd.func50 rfl rfl, ?_⟩
  have hh' : W.heap[E.blk 0]? = some (.cells #[u0, .slice (some ⟨E.blk 1, 0, none⟩) l.length cap] 97 (0, 0)) := by rw [hh, hv]
  refine (string_some Tryd.lays169 Tryd.Builder_Extra_169 (E.blk 0) (E.blk 1) cap u0 cur l W hh' hg hnc hcm hcs htake h0).mono ?_
  rintro e w' ⟨rfl, rfl⟩
  have hlt : E.blk 1 < W.heap.size := (Array.getElem?_eq_some_iff.1 hg).1
  have hother : ∀ b, b ≠ E.blk 1 → (W.drew.freeze ⟨E.blk 1, 0, none⟩ l.length).heap[b]? = W.heap[b]? := by
    intro b hb
    unfold World.freeze
    rw [if_neg hl0]
    simp only [Array.getElem?_modify]
    rw [if_neg (fun e => hb e.symm)]
    rfl
  have hsz : (W.drew.freeze ⟨E.blk 1, 0, none⟩ l.length).heap.size = W.heap.size := by
    unfold World.freeze; rw [if_neg hl0]; exact Array.size_modify
  have hocc : AE.Occ E 1 (.row 5 1 es) := by simp only [AE.Occ, hv]; rfl
  refine ⟨_, rfl, E, ?_, AE.blO_ok (l := [.box [.p 0 0, .r 1] 97, .dead]) rfl, by rw [hs]; exact .v _ _ rfl, .v _⟩
  refine hM.set (k := 1) (ob := .row 5 1 es) (ob' := .dead) rfl rfl (fun _ _ => ⟨rfl, rfl⟩) (fun _ _ _ _ _ _ _ _ h => h) ?_ ?_ ?_ (by rw [hsz]; exact Nat.le_refl _) (fun b _ hb => hother b (hb hocc)) trivial (fun h => h.elim) (fun e => by cases e)
  all_goals (unfold World.freeze; rw [if_neg hl0]; rfl)

theorem stringNil_ok (s : ByteArray) (hs : s = ⟨#[]⟩) : AE.ACall Tryd.prog 50 [.box [.v (.pointer none), .v (.slice none 0 0)] 97] [.p 0 0] [.box [.v (.pointer none), .v (.slice none 0 0)] 97] (.v (.string s)) := by
  intro E W vs hM hwf hlen hargs
  obtain ⟨u, rfl, hu⟩ := arg1 hlen hargs
  have hu' := hu.pInv
  subst hu'
  obtain ⟨u0, u1, hh, h00, h1, hr0, hr1⟩ := box2 (hM.owns 0 _ rfl)
  have e1 := hr1.vInv
  subst e1
  refine .inl ⟨enters Tryd.func50 rfl rfl, (string_none Tryd.lays169 Tryd.Builder_Extra_169 (E.blk 0) u0 W hh).mono ?_⟩
  rintro e w' ⟨rfl, rfl⟩
  exact ⟨_, rfl, E, hM.grew ⟨rfl, rfl, rfl, Nat.le_refl _, fun _ _ => rfl⟩, hwf, by rw [hs]; exact .v _ _ rfl, .v _⟩

theorem writeString_ok (x : AE.AV) (hx : x = .v (.pointer none) ∨ x = .p 0 0) (es es' : List (List AE.AV)) (s : ByteArray) (n : Int) (hn : n = s.size) (hes : es' = es ++ AE.sbytes s) (hroom : es.length + s.size ≤ 2 ^ 46) :
    AE.ACall Tryd.prog 48 [.box [x, .r 1] 97, .row 5 1 es] [.p 0 0, .v (.string s)] [.box [.p 0 0, .r 1] 97, .row 5 1 es'] (.t [.v (.int .i64 n), .any]) := by
  have main : ∀ A, A = AE.std → AE.GrowR (A.llen es) (A.slen s) 1 := by
    intro A hA; subst hA; constructor <;> simp only [AE.std] <;> omega
  rcases hx with rfl | rfl
  · refine AE.ACall.of_walk (fn := Tryd.f48) (c := bodyOf Tryd.f48) tabOK Tryd.func48 rfl rfl mixed fun A hA X => ?_
    have hroom' := main A hA
    refine X.go 500 _ _ ?_
    cbv
    refine X.calls [0, 1] (copyCheck_ok (.v (.pointer none)) (.inl rfl) es) (by cbv) (by cbv <;> ((repeat' apply And.intro) <;> first | rfl | trivial)) (by cbv) ?_
    refine X.go 500 _ _ ?_
    cbv
    refine X.need _ _ _ hroom' ?_
    refine X.go 500 _ _ ?_
    cbv
    refine X.ret _ (X.done rfl ?_)
    cbv
    have e1 : A.slen s = n := by subst hA; rw [hn]; rfl
    have e2 : A.lapp es (AE.sbytes s) = es' := by subst hA; rw [hes]; rfl
    (repeat' apply And.intro) <;> first | rfl | trivial | exact congrArg (fun z => AE.AV.v (.int .i64 z)) e1 | exact e2
  · refine AE.ACall.of_walk (fn := Tryd.f48) (c := bodyOf Tryd.f48) tabOK Tryd.func48 rfl rfl mixed fun A hA X => ?_
    have hroom' := main A hA
    refine X.go 500 _ _ ?_
    cbv
    refine X.calls [0, 1] (copyCheck_ok (.p 0 0) (.inr rfl) es) (by cbv) (by cbv <;> ((repeat' apply And.intro) <;> first | rfl | trivial)) (by cbv) ?_
    refine X.go 500 _ _ ?_
    cbv
    refine X.need _ _ _ hroom' ?_
    refine X.go 500 _ _ ?_
    cbv
    refine X.ret _ (X.done rfl ?_)
    cbv
    have e1 : A.slen s = n := by subst hA; rw [hn]; rfl
    have e2 : A.lapp es (AE.sbytes s) = es' := by subst hA; rw [hes]; rfl
    (repeat' apply And.intro) <;> first | rfl | trivial | exact congrArg (fun z => AE.AV.v (.int .i64 z)) e1 | exact e2
end Go.Proofs.YtjbnffclpebkkaaDoor
