/-
  NARROWER THAN 'FOR EVERY INPUT', by the rows' own cells (each row's printed sentence says how): CopiesApart: laid · WorksCopies: laid · MoveOpens: laid · DoneFirst: laid · WorldCopies: laid · WorksChecks: laid.
  DERIVED. THE GIVEN ROWS OF THIS SEAT. 6 by the template 'for every input the law returns true; each argument reads behind the call as it read before'; 0 by the template 'total and deterministic' (their statements: YtjbnffclpebkkaaGreatDoorTotals.lean).
  GIVEN WITH THE SEED: the statements are not yours to turn. If you find one false, say at which input.
  Laid BY PROGRAM, IN A SANDBOX (cutbox-rows.mjs): the forced cells as the released guide's own fill.sh prints them over the translation 5dd8c9fdf3b798ed… (all of the seat's roots in one cut). By AI agents, Wed Nov 11 2026. No macro, syntax, notation, axiom, sorry.
-/
import Derived.Test.YtjbnffclpebkkaaGreatDoorChecked
import GoSem.PinnedTables
import GoSem.Claim
import GoSem.ClaimJoined
import GoSem.ClaimMapViews
import Derived.JoinedTies
import Derived.KernelRfl
namespace Go.Proofs.YtjbnffclpebkkaaGreatDoor
/- THE CELL 'sum', in the pinned program and in every row, IS THE sha256 OF THE DUMP (.gsa) THAT YtjbnffclpebkkaaGreatDoorProg.lean LOADS. Nothing in Lean hashes anything: it is a label: what it is worth is what the hold of that sum in a sandbox is worth. -/
noncomputable def Tryz.pinned : Pinned := { name := "ytjbnffclpebkkaagreatdoor", sum := "5dd8c9fdf3b798ed6b5557817fcdafb3155e9e2cd37dde9b1688b72ab73d9d13", checked := Tryz.checked }
namespace Rows
def none {H : Type} : Left H := { results := [], args := [] }

/- WHAT THE LISTED PACKAGE-LEVEL VARIABLES READ AS WHEN THE CALL BEGINS. Each datum BY PROGRAM (the guide's laid-datum.mjs) off the statement by which the dump's own 'gosem.cut.vars' lays the variable. In a bare row this is a premise. The card (YtjbnffclpebkkaaGreatDoorCards.lean) ties it to the program's text. -/
def laid_math_bits_deBruijn64tab {H : Type} : DataW H := .agg [.lit (.int .u8 0), .lit (.int .u8 1), .lit (.int .u8 56), .lit (.int .u8 2), .lit (.int .u8 57), .lit (.int .u8 49), .lit (.int .u8 28), .lit (.int .u8 3), .lit (.int .u8 61), .lit (.int .u8 58), .lit (.int .u8 42), .lit (.int .u8 50), .lit (.int .u8 38), .lit (.int .u8 29), .lit (.int .u8 17), .lit (.int .u8 4), .lit (.int .u8 62), .lit (.int .u8 47), .lit (.int .u8 59), .lit (.int .u8 36), .lit (.int .u8 45), .lit (.int .u8 43), .lit (.int .u8 51), .lit (.int .u8 22), .lit (.int .u8 53), .lit (.int .u8 39), .lit (.int .u8 33), .lit (.int .u8 30), .lit (.int .u8 24), .lit (.int .u8 18), .lit (.int .u8 12), .lit (.int .u8 5), .lit (.int .u8 63), .lit (.int .u8 55), .lit (.int .u8 48), .lit (.int .u8 27), .lit (.int .u8 60), .lit (.int .u8 41), .lit (.int .u8 37), .lit (.int .u8 16), .lit (.int .u8 46), .lit (.int .u8 35), .lit (.int .u8 44), .lit (.int .u8 21), .lit (.int .u8 52), .lit (.int .u8 32), .lit (.int .u8 23), .lit (.int .u8 11), .lit (.int .u8 54), .lit (.int .u8 26), .lit (.int .u8 40), .lit (.int .u8 15), .lit (.int .u8 34), .lit (.int .u8 20), .lit (.int .u8 31), .lit (.int .u8 10), .lit (.int .u8 25), .lit (.int .u8 14), .lit (.int .u8 19), .lit (.int .u8 9), .lit (.int .u8 13), .lit (.int .u8 8), .lit (.int .u8 7), .lit (.int .u8 6)]
def laid_unicode_utf8_acceptRanges {H : Type} : DataW H := .agg [.agg [.lit (.int .u8 128), .lit (.int .u8 191)], .agg [.lit (.int .u8 160), .lit (.int .u8 191)], .agg [.lit (.int .u8 128), .lit (.int .u8 159)], .agg [.lit (.int .u8 144), .lit (.int .u8 191)], .agg [.lit (.int .u8 128), .lit (.int .u8 143)], .agg [.lit (.int .u8 0), .lit (.int .u8 0)], .agg [.lit (.int .u8 0), .lit (.int .u8 0)], .agg [.lit (.int .u8 0), .lit (.int .u8 0)], .agg [.lit (.int .u8 0), .lit (.int .u8 0)], .agg [.lit (.int .u8 0), .lit (.int .u8 0)], .agg [.lit (.int .u8 0), .lit (.int .u8 0)], .agg [.lit (.int .u8 0), .lit (.int .u8 0)], .agg [.lit (.int .u8 0), .lit (.int .u8 0)], .agg [.lit (.int .u8 0), .lit (.int .u8 0)], .agg [.lit (.int .u8 0), .lit (.int .u8 0)], .agg [.lit (.int .u8 0), .lit (.int .u8 0)]]
/-- One of Go's own tables, pinned by name: the form's constant. -/
def laid_unicode_utf8_first : DataW Unit := Go.Pinned.utf8First

/-- 'gantlaw2.CopiesApart': WHATEVER THE INPUT: true; the input reads as it did. -/
def copiesApartSpec : ChangeSpec := { name := "copiesApart", fn := fun _ => fun
  | [d1, d2] => { results := [.lit (.bool true)], args := [d1, d2] }
  | _ => none }
def copiesApartRow : OpenClaim := { program := "ytjbnffclpebkkaagreatdoor", sum := "5dd8c9fdf3b798ed6b5557817fcdafb3155e9e2cd37dde9b1688b72ab73d9d13", func := "gantry/gantlaw2.CopiesApart", spec := "copiesApart", inPlace := ["math/bits.Sub64", "internal/bytealg.abigen_runtime_cmpstring"], unfollowed := true, recurses := true, named := ["math/bits.deBruijn64tab"], apart := false, laid := [("math/bits.deBruijn64tab", laid_math_bits_deBruijn64tab)] }
def CopiesApartSaid : Prop := copiesApartRow.holds Tryz.pinned (OpenSpec.ofChange copiesApartSpec)

/-- ITS FALSE NEIGHBOUR: 'it returns false'. Refute it at one input. -/
def copiesApartWrong : ChangeSpec := { name := "copiesApart", fn := fun _ => fun
  | [d1, d2] => { results := [.lit (.bool false)], args := [d1, d2] }
  | _ => none }
def CopiesApartWrongFalsely : Prop := copiesApartRow.holds Tryz.pinned (OpenSpec.ofChange copiesApartWrong)

/-- 'gantkeep2.WorksCopies': WHATEVER THE INPUT: true; the input reads as it did. -/
def worksCopiesSpec : ChangeSpec := { name := "worksCopies", fn := fun _ => fun
  | [d] => { results := [.lit (.bool true)], args := [d] }
  | _ => none }
def worksCopiesRow : OpenClaim := { program := "ytjbnffclpebkkaagreatdoor", sum := "5dd8c9fdf3b798ed6b5557817fcdafb3155e9e2cd37dde9b1688b72ab73d9d13", func := "gantry/gantkeep2.WorksCopies", spec := "worksCopies", inPlace := ["math/bits.Sub64", "internal/bytealg.abigen_runtime_cmpstring"], unfollowed := true, recurses := true, named := ["math/bits.deBruijn64tab"], apart := false, laid := [("math/bits.deBruijn64tab", laid_math_bits_deBruijn64tab)] }
def WorksCopiesSaid : Prop := worksCopiesRow.holds Tryz.pinned (OpenSpec.ofChange worksCopiesSpec)

/-- ITS FALSE NEIGHBOUR: 'it returns false'. Refute it at one input. -/
def worksCopiesWrong : ChangeSpec := { name := "worksCopies", fn := fun _ => fun
  | [d] => { results := [.lit (.bool false)], args := [d] }
  | _ => none }
def WorksCopiesWrongFalsely : Prop := worksCopiesRow.holds Tryz.pinned (OpenSpec.ofChange worksCopiesWrong)

/-- 'gantkeep2.MoveOpens': WHATEVER THE INPUT: true; the input reads as it did. -/
def moveOpensSpec : ChangeSpec := { name := "moveOpens", fn := fun _ => fun
  | [d1, d2, d3] => { results := [.lit (.bool true)], args := [d1, d2, d3] }
  | _ => none }
def moveOpensRow : OpenClaim := { program := "ytjbnffclpebkkaagreatdoor", sum := "5dd8c9fdf3b798ed6b5557817fcdafb3155e9e2cd37dde9b1688b72ab73d9d13", func := "gantry/gantkeep2.MoveOpens", spec := "moveOpens", inPlace := ["math/bits.Sub64", "internal/bytealg.abigen_runtime_cmpstring"], unfollowed := true, recurses := true, named := ["math/bits.deBruijn64tab"], apart := false, laid := [("math/bits.deBruijn64tab", laid_math_bits_deBruijn64tab)] }
def MoveOpensSaid : Prop := moveOpensRow.holds Tryz.pinned (OpenSpec.ofChange moveOpensSpec)

/-- ITS FALSE NEIGHBOUR: 'it returns false'. Refute it at one input. -/
def moveOpensWrong : ChangeSpec := { name := "moveOpens", fn := fun _ => fun
  | [d1, d2, d3] => { results := [.lit (.bool false)], args := [d1, d2, d3] }
  | _ => none }
def MoveOpensWrongFalsely : Prop := moveOpensRow.holds Tryz.pinned (OpenSpec.ofChange moveOpensWrong)

/-- 'gantkeep2.DoneFirst': WHATEVER THE INPUT: true; the input reads as it did. -/
def doneFirstSpec : ChangeSpec := { name := "doneFirst", fn := fun _ => fun
  | [d1, d2, d3] => { results := [.lit (.bool true)], args := [d1, d2, d3] }
  | _ => none }
def doneFirstRow : OpenClaim := { program := "ytjbnffclpebkkaagreatdoor", sum := "5dd8c9fdf3b798ed6b5557817fcdafb3155e9e2cd37dde9b1688b72ab73d9d13", func := "gantry/gantkeep2.DoneFirst", spec := "doneFirst", inPlace := ["math/bits.Sub64", "internal/bytealg.abigen_runtime_cmpstring"], unfollowed := true, recurses := true, named := ["math/bits.deBruijn64tab"], apart := false, laid := [("math/bits.deBruijn64tab", laid_math_bits_deBruijn64tab)] }
def DoneFirstSaid : Prop := doneFirstRow.holds Tryz.pinned (OpenSpec.ofChange doneFirstSpec)

/-- ITS FALSE NEIGHBOUR: 'it returns false'. Refute it at one input. -/
def doneFirstWrong : ChangeSpec := { name := "doneFirst", fn := fun _ => fun
  | [d1, d2, d3] => { results := [.lit (.bool false)], args := [d1, d2, d3] }
  | _ => none }
def DoneFirstWrongFalsely : Prop := doneFirstRow.holds Tryz.pinned (OpenSpec.ofChange doneFirstWrong)

/-- 'gantkeep2.WorldCopies': WHATEVER THE INPUT: true; the input reads as it did. -/
def worldCopiesSpec : ChangeSpec := { name := "worldCopies", fn := fun _ => fun
  | [d] => { results := [.lit (.bool true)], args := [d] }
  | _ => none }
def worldCopiesRow : OpenClaim := { program := "ytjbnffclpebkkaagreatdoor", sum := "5dd8c9fdf3b798ed6b5557817fcdafb3155e9e2cd37dde9b1688b72ab73d9d13", func := "gantry/gantkeep2.WorldCopies", spec := "worldCopies", inPlace := ["math/bits.Sub64", "internal/bytealg.abigen_runtime_cmpstring"], unfollowed := true, recurses := true, named := ["math/bits.deBruijn64tab"], apart := false, laid := [("math/bits.deBruijn64tab", laid_math_bits_deBruijn64tab)] }
def WorldCopiesSaid : Prop := worldCopiesRow.holds Tryz.pinned (OpenSpec.ofChange worldCopiesSpec)

/-- ITS FALSE NEIGHBOUR: 'it returns false'. Refute it at one input. -/
def worldCopiesWrong : ChangeSpec := { name := "worldCopies", fn := fun _ => fun
  | [d] => { results := [.lit (.bool false)], args := [d] }
  | _ => none }
def WorldCopiesWrongFalsely : Prop := worldCopiesRow.holds Tryz.pinned (OpenSpec.ofChange worldCopiesWrong)

/-- 'gantlaw2.WorksChecks': WHATEVER THE INPUT: true; the input reads as it did. -/
def worksChecksSpec : ChangeSpec := { name := "worksChecks", fn := fun _ => fun
  | [d1, d2, d3] => { results := [.lit (.bool true)], args := [d1, d2, d3] }
  | _ => none }
def worksChecksRow : OpenClaim := { program := "ytjbnffclpebkkaagreatdoor", sum := "5dd8c9fdf3b798ed6b5557817fcdafb3155e9e2cd37dde9b1688b72ab73d9d13", func := "gantry/gantlaw2.WorksChecks", spec := "worksChecks", inPlace := ["math/bits.Sub64", "internal/bytealg.abigen_runtime_cmpstring", "internal/bytealg.IndexByteString", "internal/bytealg.IndexString"], unfollowed := true, recurses := true, named := ["math/bits.deBruijn64tab", "unicode/utf8.first", "unicode/utf8.acceptRanges", "internal/bytealg.MaxLen"], apart := false, laid := [("math/bits.deBruijn64tab", laid_math_bits_deBruijn64tab), ("unicode/utf8.acceptRanges", laid_unicode_utf8_acceptRanges), ("unicode/utf8.first", laid_unicode_utf8_first)] }
def WorksChecksSaid : Prop := worksChecksRow.holds Tryz.pinned (OpenSpec.ofChange worksChecksSpec)

/-- ITS FALSE NEIGHBOUR: 'it returns false'. Refute it at one input. -/
def worksChecksWrong : ChangeSpec := { name := "worksChecks", fn := fun _ => fun
  | [d1, d2, d3] => { results := [.lit (.bool false)], args := [d1, d2, d3] }
  | _ => none }
def WorksChecksWrongFalsely : Prop := worksChecksRow.holds Tryz.pinned (OpenSpec.ofChange worksChecksWrong)

/- THE SECOND FORM. 'bulk': how many values and letters a reading holds, each counted each time it is reached (what is shared counts as often as it is met; a slice's spare places count too). A statement '..UptoSaid' is the law's where the arguments, and the package variables that the reading takes, are together of bulk at most 1048576: NARROWER than '..Said'. Prove '..Said' where nothing that the law and all that it calls make is longer than what came in: it says more and counts as full. Else prove '..UptoSaid'. A law counts once. -/
mutual
def uptoBulk {H : Type} : DataW H → Nat
  | .lit (.string bytes) => bytes.length + 1
  | .lit _ => 1
  | .nil => 1
  | .ptr d => uptoBulk d + 1
  | .slice elems spare => uptoBulkAll elems + uptoBulkAll spare + 1
  | .agg parts => uptoBulkAll parts + 1
  | .iface _ d => uptoBulk d + 1
  | .map entries => uptoBulkEntries entries + 1
  | .held _ => 1
def uptoBulkAll {H : Type} : List (DataW H) → Nat
  | [] => 0
  | d :: r => uptoBulk d + uptoBulkAll r
def uptoBulkEntries {H : Type} : List (Lit × DataW H) → Nat
  | [] => 0
  | x :: r => uptoBulkEntry x + uptoBulkEntries r
def uptoBulkEntry {H : Type} : Lit × DataW H → Nat
  | (.string bytes, d) => bytes.length + uptoBulk d + 1
  | (_, d) => uptoBulk d + 1
 end
def uptoSmall : (H : Type) → List (DataW H) → Bool := fun _ ds => decide (uptoBulkAll ds ≤ 1048576)
def OpenSpec.upto (s : _root_.Go.ChangeSpec) : _root_.Go.OpenSpec := { _root_.Go.OpenSpec.ofChange s with cond := some uptoSmall }

/-- 'gantlaw2.CopiesApart', WHERE WHAT IT READS IS OF BULK AT MOST 1048576: true; the input reads as it did. -/
def copiesApartUptoRow : OpenClaim := { program := "ytjbnffclpebkkaagreatdoor", sum := "5dd8c9fdf3b798ed6b5557817fcdafb3155e9e2cd37dde9b1688b72ab73d9d13", func := "gantry/gantlaw2.CopiesApart", spec := "copiesApart", inPlace := ["math/bits.Sub64", "internal/bytealg.abigen_runtime_cmpstring"], unfollowed := true, recurses := true, named := ["math/bits.deBruijn64tab"], apart := false, laid := [("math/bits.deBruijn64tab", laid_math_bits_deBruijn64tab)], narrowed := true }
def CopiesApartUptoSaid : Prop := copiesApartUptoRow.holds Tryz.pinned (OpenSpec.upto copiesApartSpec)

/-- 'gantkeep2.WorksCopies', WHERE WHAT IT READS IS OF BULK AT MOST 1048576: true; the input reads as it did. -/
def worksCopiesUptoRow : OpenClaim := { program := "ytjbnffclpebkkaagreatdoor", sum := "5dd8c9fdf3b798ed6b5557817fcdafb3155e9e2cd37dde9b1688b72ab73d9d13", func := "gantry/gantkeep2.WorksCopies", spec := "worksCopies", inPlace := ["math/bits.Sub64", "internal/bytealg.abigen_runtime_cmpstring"], unfollowed := true, recurses := true, named := ["math/bits.deBruijn64tab"], apart := false, laid := [("math/bits.deBruijn64tab", laid_math_bits_deBruijn64tab)], narrowed := true }
def WorksCopiesUptoSaid : Prop := worksCopiesUptoRow.holds Tryz.pinned (OpenSpec.upto worksCopiesSpec)

/-- 'gantkeep2.MoveOpens', WHERE WHAT IT READS IS OF BULK AT MOST 1048576: true; the input reads as it did. -/
def moveOpensUptoRow : OpenClaim := { program := "ytjbnffclpebkkaagreatdoor", sum := "5dd8c9fdf3b798ed6b5557817fcdafb3155e9e2cd37dde9b1688b72ab73d9d13", func := "gantry/gantkeep2.MoveOpens", spec := "moveOpens", inPlace := ["math/bits.Sub64", "internal/bytealg.abigen_runtime_cmpstring"], unfollowed := true, recurses := true, named := ["math/bits.deBruijn64tab"], apart := false, laid := [("math/bits.deBruijn64tab", laid_math_bits_deBruijn64tab)], narrowed := true }
def MoveOpensUptoSaid : Prop := moveOpensUptoRow.holds Tryz.pinned (OpenSpec.upto moveOpensSpec)

/-- 'gantkeep2.DoneFirst', WHERE WHAT IT READS IS OF BULK AT MOST 1048576: true; the input reads as it did. -/
def doneFirstUptoRow : OpenClaim := { program := "ytjbnffclpebkkaagreatdoor", sum := "5dd8c9fdf3b798ed6b5557817fcdafb3155e9e2cd37dde9b1688b72ab73d9d13", func := "gantry/gantkeep2.DoneFirst", spec := "doneFirst", inPlace := ["math/bits.Sub64", "internal/bytealg.abigen_runtime_cmpstring"], unfollowed := true, recurses := true, named := ["math/bits.deBruijn64tab"], apart := false, laid := [("math/bits.deBruijn64tab", laid_math_bits_deBruijn64tab)], narrowed := true }
def DoneFirstUptoSaid : Prop := doneFirstUptoRow.holds Tryz.pinned (OpenSpec.upto doneFirstSpec)

/-- 'gantkeep2.WorldCopies', WHERE WHAT IT READS IS OF BULK AT MOST 1048576: true; the input reads as it did. -/
def worldCopiesUptoRow : OpenClaim := { program := "ytjbnffclpebkkaagreatdoor", sum := "5dd8c9fdf3b798ed6b5557817fcdafb3155e9e2cd37dde9b1688b72ab73d9d13", func := "gantry/gantkeep2.WorldCopies", spec := "worldCopies", inPlace := ["math/bits.Sub64", "internal/bytealg.abigen_runtime_cmpstring"], unfollowed := true, recurses := true, named := ["math/bits.deBruijn64tab"], apart := false, laid := [("math/bits.deBruijn64tab", laid_math_bits_deBruijn64tab)], narrowed := true }
def WorldCopiesUptoSaid : Prop := worldCopiesUptoRow.holds Tryz.pinned (OpenSpec.upto worldCopiesSpec)

/-- 'gantlaw2.WorksChecks', WHERE WHAT IT READS IS OF BULK AT MOST 1048576: true; the input reads as it did. -/
def worksChecksUptoRow : OpenClaim := { program := "ytjbnffclpebkkaagreatdoor", sum := "5dd8c9fdf3b798ed6b5557817fcdafb3155e9e2cd37dde9b1688b72ab73d9d13", func := "gantry/gantlaw2.WorksChecks", spec := "worksChecks", inPlace := ["math/bits.Sub64", "internal/bytealg.abigen_runtime_cmpstring", "internal/bytealg.IndexByteString", "internal/bytealg.IndexString"], unfollowed := true, recurses := true, named := ["math/bits.deBruijn64tab", "unicode/utf8.first", "unicode/utf8.acceptRanges", "internal/bytealg.MaxLen"], apart := false, laid := [("math/bits.deBruijn64tab", laid_math_bits_deBruijn64tab), ("unicode/utf8.acceptRanges", laid_unicode_utf8_acceptRanges), ("unicode/utf8.first", laid_unicode_utf8_first)], narrowed := true }
def WorksChecksUptoSaid : Prop := worksChecksUptoRow.holds Tryz.pinned (OpenSpec.upto worksChecksSpec)

end Rows
end Go.Proofs.YtjbnffclpebkkaaGreatDoor
