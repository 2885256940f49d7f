/- What all walks of this seat use: short words; bytes and digits as elements. Contracts of Go's library at this dump, for walks. The table that the library's functions read, out of a row's own conditions. strings.Trim in this program (the laid facts were printed by the kit's tool for contracts of the shelf). -/
import Derived.Test.YthadehkggddgoaaGreatDoorZTypes
import Derived.Test.YthadehkggddgoaaGreatDoorAE14
import Derived.Test.YthadehkggddgoaaGreatDoorZLibA
import Derived.Test.YthadehkggddgoaaGreatDoorZLibT
import Derived.Test.YthadehkggddgoaaGreatDoorZBits
import Derived.Lib.LaidTab
import Derived.MakeChecks
section
set_option linter.unusedVariables false
namespace Go.Proofs.YthadehkggddgoaaGreatDoor
open Go
def bodyOf (f : Func) : Code := f.body.getD .skip
theorem mixed : Tryz.prog.follows .mixedOrders = true := by kernel_rfl
theorem bl_ex : ∃ g : List UInt8 → List (List AE.AV), ∀ l, g l = l.map fun b => [.v (.int .u8 b.toNat)] := ⟨_, fun _ => rfl⟩
noncomputable def bl : List UInt8 → List (List AE.AV) := bl_ex.choose
theorem bl_eq (l : List UInt8) : bl l = l.map fun b => [.v (.int .u8 b.toNat)] := bl_ex.choose_spec l
theorem wl_ex : ∃ g : List Nat → List (List AE.AV), ∀ l, g l = l.map fun b => [.v (.int .u32 b)] := ⟨_, fun _ => rfl⟩
noncomputable def wl : List Nat → List (List AE.AV) := wl_ex.choose
theorem wl_eq (l : List Nat) : wl l = l.map fun b => [.v (.int .u32 b)] := wl_ex.choose_spec l
theorem ql_ex : ∃ g : List Nat → List (List AE.AV), ∀ l, g l = l.map fun b => [.v (.int .u64 b)] := ⟨_, fun _ => rfl⟩
noncomputable def ql : List Nat → List (List AE.AV) := ql_ex.choose
theorem ql_eq (l : List Nat) : ql l = l.map fun b => [.v (.int .u64 b)] := ql_ex.choose_spec l
theorem bl_len (l : List UInt8) : (bl l).length = l.length := by simp [bl_eq]
theorem wl_len (l : List Nat) : (wl l).length = l.length := by simp [wl_eq]
theorem ql_len (l : List Nat) : (ql l).length = l.length := by simp [ql_eq]
theorem bl_get {l : List UInt8} {i : Nat} {b : UInt8} (h : l[i]? = some b) : (bl l)[i]? = some [.v (.int .u8 b.toNat)] := by simp [bl_eq, h]
theorem wl_get {l : List Nat} {i d : Nat} (h : l[i]? = some d) : (wl l)[i]? = some [.v (.int .u32 d)] := by simp [wl_eq, h]
theorem ql_get {l : List Nat} {i d : Nat} (h : l[i]? = some d) : (ql l)[i]? = some [.v (.int .u64 d)] := by simp [ql_eq, h]
theorem bl_set (l : List UInt8) (i : Nat) (b : UInt8) : (bl l).set i [.v (.int .u8 b.toNat)] = bl (l.set i b) := by rw [bl_eq, bl_eq, List.map_set]
theorem wl_set (l : List Nat) (i d : Nat) : (wl l).set i [.v (.int .u32 d)] = wl (l.set i d) := by rw [wl_eq, wl_eq, List.map_set]
theorem ql_set (l : List Nat) (i d : Nat) : (ql l).set i [.v (.int .u64 d)] = ql (l.set i d) := by rw [ql_eq, ql_eq, List.map_set]
theorem bl_sbytes {l : List UInt8} {s : ByteArray} (h : s.data.toList = l) : bl l = AE.sbytes s := by rw [bl_eq, AE.sbytes_eq, h]
theorem bl_rep (n : Nat) : List.replicate n [AE.AV.v (.int .u8 0)] = bl (List.replicate n 0) := by rw [bl_eq, List.map_replicate]; rfl
theorem wl_rep (n : Nat) : List.replicate n [AE.AV.v (.int .u32 0)] = wl (List.replicate n 0) := by rw [wl_eq, List.map_replicate]; rfl
theorem ql_rep (n : Nat) : List.replicate n [AE.AV.v (.int .u64 0)] = ql (List.replicate n 0) := by rw [ql_eq, List.map_replicate]; rfl
theorem slen {A : AE.Ari} (hA : A = AE.std) (s : ByteArray) : A.slen s = (s.size : Int) := by subst hA; rfl
theorem llen {A : AE.Ari} (hA : A = AE.std) (es : List (List AE.AV)) : A.llen es = (es.length : Int) := by subst hA; rfl
end Go.Proofs.YthadehkggddgoaaGreatDoor
end
section
set_option linter.unusedVariables false
set_option linter.unusedSimpArgs false
namespace Go.Proofs.YthadehkggddgoaaGreatDoor
open Go Go.Num
theorem enters {f : Nat} {fn : Func} (h : Tryz.prog.funcs[f]? = some fn) (h1 : (fn.name == "runtime.NumGoroutine") = false) (h2 : fn.body.isNone = false) : AE.Enters Tryz.prog f := ⟨fn, h, h1, h2⟩
structure LibOK (W : World) : Prop where
  tz : TabAt 1 Lib.deBruijn64tab W
def GG (h : Nat → Option Obj) : Prop := ∀ W : World, (∀ b o, h b = some o → W.heap[b]? = some o) → LibOK W
theorem GG_stays : AE.Stays GG := fun h h' hh hg W hW => hg W fun b o hb => hW b o (hh b o hb)
theorem compare_ok (a b : ByteArray) (r : Int) (hr : r = Lib.compareBytes a.data.toList b.data.toList) : AE.ACall Tryz.prog 167 [] [.v (.string a), .v (.string b)] [] (.v (.int .i64 r)) := by
  subst hr
  exact AE.ACall.of_calls (args := [.string a, .string b]) (enters Tryz.func167 rfl rfl) rfl (fun _ _ _ h => by simp at h) fun W => (Tryz.strings_Compare a b W).mono fun e w' ⟨h1, h2⟩ => ⟨h1, h2 ▸ AE.Grew.refl _⟩
theorem compare_val : ∀ {a b : List UInt8}, a.length = b.length → Lib.compareBytes a b = if val a < val b then -1 else if val b < val a then 1 else 0
  | [], [], _ => by simp [Lib.compareBytes]
  | x :: a, y :: b, hl => by
    have hl' : a.length = b.length := by simpa using hl
    have ha := val_lt a
    have hb := val_lt b
    rw [hl'] at ha
    have hP : 0 < 256 ^ b.length := Nat.pow_pos (by decide)
    rw [Lib.compareBytes, compare_val hl', val_cons, val_cons, hl']
    by_cases h1 : x < y
    · have h1' : x.toNat + 1 ≤ y.toNat := h1
      have := Nat.mul_le_mul_right (256 ^ b.length) h1'
      rw [Nat.add_mul] at this
      rw [if_pos h1, if_pos (by omega)]
    · by_cases h2 : y < x
      · have h2' : y.toNat + 1 ≤ x.toNat := h2
        have := Nat.mul_le_mul_right (256 ^ b.length) h2'
        rw [Nat.add_mul] at this
        rw [if_neg h1, if_pos h2, if_neg (by omega), if_pos (by omega)]
      · have he : x.toNat = y.toNat := by
          have e1 : ¬ x.toNat < y.toNat := h1
          have e2 : ¬ y.toNat < x.toNat := h2
          omega
        have e3 : (y.toNat * 256 ^ b.length + val a < y.toNat * 256 ^ b.length + val b) ↔ val a < val b := by omega
        have e4 : (y.toNat * 256 ^ b.length + val b < y.toNat * 256 ^ b.length + val a) ↔ val b < val a := by omega
        rw [if_neg h1, if_neg h2, he]
        simp only [e3, e4]
  | [], _ :: _, hl => by simp at hl
  | _ :: _, [], hl => by simp at hl
theorem lz32_ok (d : Nat) (hd : d < 2 ^ 32) (x r : Int) (hx : x = d) (hr : r = 32 - (Lib.bitLen d : Int)) : AE.ACall Tryz.prog 226 [] [.v (.int .u32 x)] [] (.v (.int .i64 r)) := by
  subst hr; subst hx
  exact AE.ACall.of_calls (args := [.int .u32 (d : Int)]) (enters Tryz.func226 rfl rfl) rfl (fun _ _ _ h => by simp at h) fun W => (Tryz.bits_LeadingZeros32 (d : Int) W (Int.natCast_nonneg _) (by omega)).mono fun e w' ⟨h1, h2⟩ => ⟨h1, h2 ▸ AE.Grew.refl _⟩
theorem tz64_ok (d : Nat) (hd : d < 2 ^ 64) (x r : Int) (hx : x = d) (hr : r = (Lib.ctz 64 d : Int)) : AE.ACallG GG Tryz.prog 236 [] [.v (.int .u64 x)] [] (.v (.int .i64 r)) := by
  subst hr; subst hx
  exact AE.ACallG.of_calls (args := [.int .u64 (d : Int)]) (enters Tryz.func236 rfl rfl) rfl (fun _ _ _ h => by simp at h) fun W h0 hW hG => (Any7.bits_TrailingZeros64 Tryz.lays29 d (by omega) W fun _ => (hG W hW).tz).mono fun e w' ⟨h1, h2⟩ => ⟨h1, h2 ▸ AE.Grew.refl _⟩
end Go.Proofs.YthadehkggddgoaaGreatDoor
end
section
set_option linter.unusedVariables false
namespace Go.Proofs.YthadehkggddgoaaGreatDoor
open Go
theorem tab_at {P : Program} {W : World} {name : String} {g : Nat} {l : List Nat} (hg : P.globalNamed name = some g) (h : Lib.TabIs P W name .u8 (l.map fun n : Nat => (n : Int))) : TabAt g l W := by
  unfold Lib.TabIs World.var? at h
  rw [hg] at h
  simp only [Option.bind_some] at h
  intro j hj
  cases ho : W.heap[g]? with
  | none => simp [ho] at h
  | some o =>
    rw [ho] at h
    cases o with
    | cells cs t fr =>
      simp only [Option.some.injEq] at h
      subst h
      simp only [World.cell?, ho]
      simp [hj]
    | _ => cases h
theorem gg_of {W : World} (h : LibOK W) : GG (fun b => W.heap[b]?) := by
  intro W' hW
  refine ⟨fun j hj => ?_⟩
  have h1 := h.tz j hj
  unfold World.cell? at h1 ⊢
  cases hh : W.heap[(⟨1, j, none⟩ : Addr).block]? with
  | none => rw [hh] at h1; cases h1
  | some o => rw [hW _ o hh]; rw [hh] at h1; exact h1
end Go.Proofs.YthadehkggddgoaaGreatDoor
end
