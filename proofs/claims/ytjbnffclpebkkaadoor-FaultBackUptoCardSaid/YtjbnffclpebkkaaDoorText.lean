/- Texts of faults: words, lines, the text of a script. -/
import Derived.Test.YtjbnffclpebkkaaDoorStrs
set_option linter.unusedVariables false
set_option linter.unusedSimpArgs false
namespace Go.Proofs.YtjbnffclpebkkaaDoor
open Go
def sp : ByteArray := ⟨#[32]⟩
def nl : ByteArray := ⟨#[10]⟩
def wordB (k : Int) : ByteArray := ⟨((wordsL[k.toNat]?).getD []).toArray⟩
noncomputable def lineB (x : Fl) : ByteArray := ((((dec x.t ++ sp) ++ wordB x.k) ++ sp) ++ dec x.n) ++ nl
noncomputable def textB (l : List Fl) : ByteArray := l.foldl (fun s x => s ++ lineB x) ByteArray.empty
theorem sbytes_app (a b : ByteArray) : AE.sbytes (a ++ b) = AE.sbytes a ++ AE.sbytes b := by
  rw [AE.sbytes_eq, AE.sbytes_eq, AE.sbytes_eq, ← List.map_append]
  congr 1
theorem line_size (x : Fl) : (lineB x).size = (dec x.t).size + 1 + (wordB x.k).size + 1 + (dec x.n).size + 1 := by
  simp only [lineB, ByteArray.size_append]
  try rfl
theorem word_size (k : Int) : (wordB k).size ≤ 5 := by
  have key : ∀ n : Nat, ((wordsL[n]?).getD []).length ≤ 5 := fun n => by
    match n with
    | 0 | 1 | 2 | 3 | 4 | 5 => decide
    | n + 6 => simp [wordsL]
  exact key k.toNat
theorem text_succ (l : List Fl) (i : Nat) (h : i < l.length) : textB (l.take (i + 1)) = textB (l.take i) ++ lineB l[i] := by
  rw [textB, fold_succ _ _ _ _ h]; rfl
theorem text_size (l : List Fl) (h : ∀ x ∈ l, (lineB x).size ≤ 300) (i : Nat) (hi : i ≤ l.length) : (textB (l.take i)).size ≤ 300 * i := by
  induction i with
  | zero => simp [textB]
  | succ i ih =>
    have hlt : i < l.length := hi
    rw [text_succ l i hlt, ByteArray.size_append]
    have := ih (by omega)
    have := h l[i] (List.getElem_mem hlt)
    omega
end Go.Proofs.YtjbnffclpebkkaaDoor
