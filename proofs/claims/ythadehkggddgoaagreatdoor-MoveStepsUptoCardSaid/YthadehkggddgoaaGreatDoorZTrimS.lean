/- strings.Trim in this program (the laid facts were printed by the kit's tool for contracts of the shelf). -/
import Derived.Shelf.Strings.SlTrimAscii
import Derived.Test.YthadehkggddgoaaGreatDoorZLoop
set_option linter.unusedVariables false
namespace Go.Proofs
open Go.Shelf
def Tryz.lays160_ren:Go.Shelf.Ren:=⟨fun|160=>190|232=>211|231=>210|227=>212|234=>214|233=>213|236=>216|235=>215|228=>231|271=>234|151=>233|197=>232|120=>242|152=>241|260=>240|137=>244|119=>245|224=>246|225=>247|217=>248|266=>249|n=>n,fun|9=>9|4=>4|3=>3|5=>5|117=>255|116=>254|0=>0|124=>258|21=>21|105=>270|46=>216|119=>281|139=>284|138=>283|n=>n,fun|3=>2|4=>3|n=>n⟩
theorem Tryz.lays160:Go.Proofs.Lays.n160 Tryz.prog Tryz.lays160_ren:={
 mixed:=by kernel_rfl
 f119:=Tryz.func245.trans (congrArg some (by kernel_rfl))
 f120:=Tryz.func242.trans (congrArg some (by kernel_rfl))
 f137:=Tryz.func244.trans (congrArg some (by kernel_rfl))
 f151:=Tryz.func233.trans (congrArg some (by kernel_rfl))
 f152:=Tryz.func241.trans (congrArg some (by kernel_rfl))
 f160:=Tryz.func190.trans (congrArg some (by kernel_rfl))
 f197:=Tryz.func232.trans (congrArg some (by kernel_rfl))
 f217:=Tryz.func248.trans (congrArg some (by kernel_rfl))
 f224:=Tryz.func246.trans (congrArg some (by kernel_rfl))
 f225:=Tryz.func247.trans (congrArg some (by kernel_rfl))
 f227:=Tryz.func212.trans (congrArg some (by kernel_rfl))
 f228:=Tryz.func231.trans (congrArg some (by kernel_rfl))
 f231:=Tryz.func210.trans (congrArg some (by kernel_rfl))
 f232:=Tryz.func211.trans (congrArg some (by kernel_rfl))
 f233:=Tryz.func213.trans (congrArg some (by kernel_rfl))
 f234:=Tryz.func214.trans (congrArg some (by kernel_rfl))
 f235:=Tryz.func215.trans (congrArg some (by kernel_rfl))
 f236:=Tryz.func216.trans (congrArg some (by kernel_rfl))
 f260:=Tryz.func240.trans (congrArg some (by kernel_rfl))
 f266:=Tryz.func249.trans (congrArg some (by kernel_rfl))
 f271:=Tryz.func234.trans (congrArg some (by kernel_rfl))
 t0:=Tryz.underlying0
 a0:=Tryz.isAgg0
 z0:=Tryz.sizeOf0
 v0:=Tryz.zeroValue0
 t3:=Tryz.underlying3
 a3:=Tryz.isAgg3
 z3:=Tryz.sizeOf3
 v3:=Tryz.zeroValue3
 t4:=Tryz.underlying4
 a4:=Tryz.isAgg4
 z4:=Tryz.sizeOf4
 v4:=Tryz.zeroValue4
 t5:=Tryz.underlying5
 a5:=Tryz.isAgg5
 z5:=Tryz.sizeOf5
 v5:=Tryz.zeroValue5
 t9:=Tryz.underlying9
 a9:=Tryz.isAgg9
 z9:=Tryz.sizeOf9
 v9:=Tryz.zeroValue9
 t21:=Tryz.underlying21
 a21:=Tryz.isAgg21
 z21:=Tryz.sizeOf21
 v21:=Tryz.zeroValue21
 t46:=Tryz.underlying216
 a46:=Tryz.isAgg216
 z46:=Tryz.sizeOf216
 v46:=Tryz.zeroValue216
 t105:=Tryz.underlying270
 a105:=Tryz.isAgg270
 z105:=Tryz.sizeOf270
 v105:=Tryz.zeroValue270
 t116:=Tryz.underlying254
 a116:=Tryz.isAgg254
 z116:=Tryz.sizeOf254
 t117:=Tryz.underlying255
 a117:=Tryz.isAgg255
 z117:=Tryz.sizeOf255
 v117:=Tryz.zeroValue255
 t119:=Tryz.underlying281
 a119:=Tryz.isAgg281
 z119:=Tryz.sizeOf281
 t124:=Tryz.underlying258
 a124:=Tryz.isAgg258
 z124:=Tryz.sizeOf258
 v124:=Tryz.zeroValue258
 t138:=Tryz.underlying283
 a138:=Tryz.isAgg283
 z138:=Tryz.sizeOf283
 v138:=Tryz.zeroValue283
 t139:=Tryz.underlying284
 a139:=Tryz.isAgg284
 z139:=Tryz.sizeOf284
 v139:=Tryz.zeroValue284
 g3:=by kernel_rfl
 g4:=by kernel_rfl }
end Go.Proofs
namespace Go.Proofs.YthadehkggddgoaaGreatDoor
open Go Go.Num Go.Shelf Go.RowKit
theorem grew_of_below {W W' : World} (h:Below W.heap.size W W'):AE.Grew W W' := ⟨h.os,h.tape,h.output,h.size,h.block⟩
def abc:List UInt8:=[97,98,99,100,101,102,103,104,105,106,107,108,109,110,111,112,113,114,115,116,117,118,119,120,121,122]
theorem trimAbc_ok (s:ByteArray) (hs:s.size < 2 ^ 60) (r:ByteArray) (hr:r = ⟨(Lib.trimS s.data.toList abc).toArray⟩):AE.ACall Tryz.prog 190 [] [.v (.string s),.v (.string ⟨⟨[97,98,99,100,101,102,103,104,105,106,107,108,109,110,111,112,113,114,115,116,117,118,119,120,121,122]⟩⟩)] [] (.v (.string r)):=by
 subst hr
 exact AE.ACall.of_calls (args:=[.string s,.string ⟨⟨[97,98,99,100,101,102,103,104,105,106,107,108,109,110,111,112,113,114,115,116,117,118,119,120,121,122]⟩⟩]) (enters Tryz.func190 rfl rfl) rfl (fun _ _ _ h=>by simp at h) fun W=>(Any.strings_Trim_laid Tryz.lays160 (by kernel_rfl) s ⟨⟨[97,98,99,100,101,102,103,104,105,106,107,108,109,110,111,112,113,114,115,116,117,118,119,120,121,122]⟩⟩ W (by omega) (by decide) (ascii_of_all (by decide))).mono fun e w' ⟨h1,h2⟩=>⟨h1,grew_of_below h2⟩
theorem dw_nil {α : Type} (p:α → Bool) (l:List α):l.dropWhile p = [] ↔ ∀ x ∈ l,p x = true:=by
 induction l with
 | nil=>simp
 | cons a l ih =>
  rw [List.dropWhile_cons]
  split
  ·rename_i h; rw [ih]; simp [h]
  ·rename_i h; simp [h]
theorem trim_nil (l cs:List UInt8):Lib.trimS l cs = [] ↔ ∀ x ∈ l,cs.contains x = true:=by
 unfold Lib.trimS Lib.trimLeftS Lib.trimRightS
 rw [dw_nil]
 constructor
 ·intro h x hx
  by_cases hn:l.reverse.dropWhile (cs.contains ·) = []
  ·exact (dw_nil _ _).1 hn x (by simpa using hx)
  ·obtain ⟨a,t,hat⟩:=List.exists_cons_of_ne_nil hn
   have h1:=List.head_dropWhile_not (cs.contains ·) hn
   have h2:=h _ (List.mem_reverse.2 (List.head_mem hn))
   rw [h2] at h1
   exact absurd h1 (by decide)
 ·intro h x hx
  rw [List.mem_reverse] at hx
  exact h x (by have:=(List.dropWhile_sublist _).mem hx; simpa using this)
theorem abc_all:∀ n,n < 256 → (abc.contains (UInt8.ofNat n) = true ↔ 97 ≤ n ∧ n ≤ 122):=by decide +kernel
theorem abc_iff (b:UInt8):abc.contains b = true ↔ 97 ≤ b.toNat ∧ b.toNat ≤ 122:=by
 have:=abc_all b.toNat (UInt8.toNat_lt b)
 rwa [UInt8.ofNat_toNat] at this
end Go.Proofs.YthadehkggddgoaaGreatDoor
