/- strings.Trim in this program (the laid facts were printed by the kit's tool for contracts of the shelf). -/
import Derived.Shelf.Strings.SlTrimAscii
import Derived.Test.YtjbnffclpebkkaaGreatDoorZBase
set_option linter.unusedVariables false
namespace Go.Proofs
open Go.Shelf
def Tryz.lays160_ren : Go.Shelf.Ren := ⟨fun | 160 => 132 | 232 => 182 | 231 => 181 | 227 => 183 | 234 => 185 | 233 => 184 | 236 => 187 | 235 => 186 | 228 => 201 | 271 => 204 | 151 => 203 | 197 => 202 | 120 => 220 | 152 => 219 | 260 => 218 | 137 => 228 | 119 => 229 | 224 => 230 | 225 => 231 | 217 => 232 | 266 => 233 | n => n, fun | 9 => 9 | 4 => 4 | 3 => 3 | 5 => 5 | 117 => 242 | 116 => 241 | 0 => 0 | 124 => 245 | 21 => 21 | 105 => 257 | 46 => 147 | 119 => 279 | 139 => 282 | 138 => 281 | n => n, fun | 3 => 1 | 4 => 2 | n => n⟩
theorem Tryz.lays160 : Go.Proofs.Lays.n160 Tryz.prog Tryz.lays160_ren := {
  mixed := by kernel_rfl
  f119 := Tryz.func229.trans (congrArg some (by kernel_rfl))
  f120 := Tryz.func220.trans (congrArg some (by kernel_rfl))
  f137 := Tryz.func228.trans (congrArg some (by kernel_rfl))
  f151 := Tryz.func203.trans (congrArg some (by kernel_rfl))
  f152 := Tryz.func219.trans (congrArg some (by kernel_rfl))
  f160 := Tryz.func132.trans (congrArg some (by kernel_rfl))
  f197 := Tryz.func202.trans (congrArg some (by kernel_rfl))
  f217 := Tryz.func232.trans (congrArg some (by kernel_rfl))
  f224 := Tryz.func230.trans (congrArg some (by kernel_rfl))
  f225 := Tryz.func231.trans (congrArg some (by kernel_rfl))
  f227 := Tryz.func183.trans (congrArg some (by kernel_rfl))
  f228 := Tryz.func201.trans (congrArg some (by kernel_rfl))
  f231 := Tryz.func181.trans (congrArg some (by kernel_rfl))
  f232 := Tryz.func182.trans (congrArg some (by kernel_rfl))
  f233 := Tryz.func184.trans (congrArg some (by kernel_rfl))
  f234 := Tryz.func185.trans (congrArg some (by kernel_rfl))
  f235 := Tryz.func186.trans (congrArg some (by kernel_rfl))
  f236 := Tryz.func187.trans (congrArg some (by kernel_rfl))
  f260 := Tryz.func218.trans (congrArg some (by kernel_rfl))
  f266 := Tryz.func233.trans (congrArg some (by kernel_rfl))
  f271 := Tryz.func204.trans (congrArg some (by kernel_rfl))
  t0 := Tryz.underlying0
  a0 := Tryz.isAgg0
  z0 := Tryz.sizeOf0
  v0 := Tryz.zeroValue0
  t3 := Tryz.underlying3
  a3 := Tryz.isAgg3
  z3 := Tryz.sizeOf3
  v3 := Tryz.zeroValue3
  t4 := Tryz.underlying4
  a4 := Tryz.isAgg4
  z4 := Tryz.sizeOf4
  v4 := Tryz.zeroValue4
  t5 := Tryz.underlying5
  a5 := Tryz.isAgg5
  z5 := Tryz.sizeOf5
  v5 := Tryz.zeroValue5
  t9 := Tryz.underlying9
  a9 := Tryz.isAgg9
  z9 := Tryz.sizeOf9
  v9 := Tryz.zeroValue9
  t21 := Tryz.underlying21
  a21 := Tryz.isAgg21
  z21 := Tryz.sizeOf21
  v21 := Tryz.zeroValue21
  t46 := Tryz.underlying147
  a46 := Tryz.isAgg147
  z46 := Tryz.sizeOf147
  v46 := Tryz.zeroValue147
  t105 := Tryz.underlying257
  a105 := Tryz.isAgg257
  z105 := Tryz.sizeOf257
  v105 := Tryz.zeroValue257
  t116 := Tryz.underlying241
  a116 := Tryz.isAgg241
  z116 := Tryz.sizeOf241
  t117 := Tryz.underlying242
  a117 := Tryz.isAgg242
  z117 := Tryz.sizeOf242
  v117 := Tryz.zeroValue242
  t119 := Tryz.underlying279
  a119 := Tryz.isAgg279
  z119 := Tryz.sizeOf279
  t124 := Tryz.underlying245
  a124 := Tryz.isAgg245
  z124 := Tryz.sizeOf245
  v124 := Tryz.zeroValue245
  t138 := Tryz.underlying281
  a138 := Tryz.isAgg281
  z138 := Tryz.sizeOf281
  v138 := Tryz.zeroValue281
  t139 := Tryz.underlying282
  a139 := Tryz.isAgg282
  z139 := Tryz.sizeOf282
  v139 := Tryz.zeroValue282
  g3 := by kernel_rfl
  g4 := by kernel_rfl }
end Go.Proofs
namespace Go.Proofs.YtjbnffclpebkkaaGreatDoor
open Go Go.Num Go.Shelf Go.RowKit
theorem grew_of_below {W W' : World} (h : Below W.heap.size W W') : AE.Grew W W' := ⟨h.os, h.tape, h.output, h.size, h.block⟩
def abc : List UInt8 := [97, 98, 99, 100, 101, 102, 103, 104, 105, 106, 107, 108, 109, 110, 111, 112, 113, 114, 115, 116, 117, 118, 119, 120, 121, 122]
theorem trimAbc_ok (s : ByteArray) (hs : s.size < 2 ^ 60) (r : ByteArray) (hr : r = ⟨(Lib.trimS s.data.toList abc).toArray⟩) : AE.ACall Tryz.prog 132 [] [.v (.string s), .v (.string ⟨⟨[97, 98, 99, 100, 101, 102, 103, 104, 105, 106, 107, 108, 109, 110, 111, 112, 113, 114, 115, 116, 117, 118, 119, 120, 121, 122]⟩⟩)] [] (.v (.string r)) := by
  subst hr
  exact AE.ACall.of_calls (args := [.string s, .string ⟨⟨[97, 98, 99, 100, 101, 102, 103, 104, 105, 106, 107, 108, 109, 110, 111, 112, 113, 114, 115, 116, 117, 118, 119, 120, 121, 122]⟩⟩]) (enters Tryz.func132 rfl rfl) rfl (fun _ _ _ h => by simp at h) fun W => (Any.strings_Trim_laid Tryz.lays160 (by kernel_rfl) s ⟨⟨[97, 98, 99, 100, 101, 102, 103, 104, 105, 106, 107, 108, 109, 110, 111, 112, 113, 114, 115, 116, 117, 118, 119, 120, 121, 122]⟩⟩ W (by omega) (by decide) (ascii_of_all (by decide))).mono fun e w' ⟨h1, h2⟩ => ⟨h1, grew_of_below h2⟩
theorem dw_nil {α : Type} (p : α → Bool) (l : List α) : l.dropWhile p = [] ↔ ∀ x ∈ l, p x = true := by
  induction l with
  | nil => simp
  | cons a l ih =>
    rw [List.dropWhile_cons]
    split
    · rename_i h; rw [ih]; simp [h]
    · rename_i h; simp [h]
theorem trim_nil (l cs : List UInt8) : Lib.trimS l cs = [] ↔ ∀ x ∈ l, cs.contains x = true := by
  unfold Lib.trimS Lib.trimLeftS Lib.trimRightS
  rw [dw_nil]
  constructor
  · intro h x hx
    by_cases hn : l.reverse.dropWhile (cs.contains ·) = []
    · exact (dw_nil _ _).1 hn x (by simpa using hx)
    · obtain ⟨a, t, hat⟩ := List.exists_cons_of_ne_nil hn
      have h1 := List.head_dropWhile_not (cs.contains ·) hn
      have h2 := h _ (List.mem_reverse.2 (List.head_mem hn))
      rw [h2] at h1
      exact absurd h1 (by decide)
  · intro h x hx
    rw [List.mem_reverse] at hx
    exact h x (by have := (List.dropWhile_sublist _).mem hx; simpa using this)
theorem abc_all : ∀ n, n < 256 → (abc.contains (UInt8.ofNat n) = true ↔ 97 ≤ n ∧ n ≤ 122) := by decide +kernel
theorem abc_iff (b : UInt8) : abc.contains b = true ↔ 97 ≤ b.toNat ∧ b.toNat ≤ 122 := by
  have := abc_all b.toNat (UInt8.toNat_lt b)
  rwa [UInt8.ofNat_toNat] at this
end Go.Proofs.YtjbnffclpebkkaaGreatDoor
