import Derived.Test.YtjbnffclpebkkaaNat
set_option linter.unusedVariables false
namespace Go.Proofs.Ytjbnffclpebkkaa
open Go

theorem bool_ok (x : Bool) (l : List UInt8) (hl : l.length + 10 ≤ 2 ^ 46) (es es' : List (List AE.AV)) (he : es = bl l) (he' : es' = bl (l ++ natL (if x then 1 else 0))) :
    AE.ACall Try.prog 11 [.box [.r 1] 38, .row 5 1 es] [.p 0 0, .b x] [.box [.r 1] 38, .row 5 1 es'] (.t []) := by
  refine AE.ACall.of_walk (fn := Try.f11) (c := bodyOf Try.f11) tabOK Try.func11 rfl rfl mixed fun A hA X => ?_
  refine X.go 500 _ _ ?_
  cbv
  refine X.split _ _ _ _ _ (fun hc => ?_) (fun hc => ?_)
  · refine X.go 500 _ _ ?_
    cbv
    refine X.calls [0, 1] (nat_ok 1 l hl es es' he (by rw [he', hc]; rfl)) (by cbv) (by cbv) (by cbv) ?_
    refine X.go 500 _ _ ?_
    cbv
    refine X.fin _ (X.done rfl ?_)
    cbv
  · refine X.go 500 _ _ ?_
    cbv
    refine X.calls [0, 1] (nat_ok 0 l hl es es' he (by rw [he', hc]; rfl)) (by cbv) (by cbv) (by cbv) ?_
    refine X.go 500 _ _ ?_
    cbv
    refine X.fin _ (X.done rfl ?_)
    cbv

def textL (s : ByteArray) : List UInt8 := natL s.size ++ s.data.toList
theorem bl_sbytes (s : ByteArray) : AE.sbytes s = bl s.data.toList := by rw [AE.sbytes_eq, bl_eq]
theorem text_ok (s : ByteArray) (l : List UInt8) (hl : l.length + s.size + 10 ≤ 2 ^ 46) (es es' : List (List AE.AV)) (he : es = bl l) (he' : es' = bl (l ++ textL s)) :
    AE.ACall Try.prog 25 [.box [.r 1] 38, .row 5 1 es] [.p 0 0, .v (.string s)] [.box [.r 1] 38, .row 5 1 es'] (.t []) := by
  refine AE.ACall.of_walk (fn := Try.f25) (c := bodyOf Try.f25) tabOK Try.func25 rfl rfl mixed fun A hA X => ?_
  obtain ⟨e1, he1⟩ : ∃ e1, e1 = bl (l ++ natL s.size) := ⟨_, rfl⟩
  have hn : A.slen s = s.size := by subst hA; rfl
  have hns : (natL s.size).length ≤ 10 := natL_len _ (by omega)
  obtain ⟨z, hz⟩ : ∃ z : Int, z = s.size := ⟨_, rfl⟩
  rw [← hz] at hn
  have hns2 : (z % 2 ^ 64).toNat = s.size := by omega
  refine X.go 500 _ _ ?_
  cbv
  refine X.calls [0, 1] (nat_ok z l (by omega) es e1 he (by rw [he1, hns2])) (by cbv) (by cbv; exact ⟨congrArg (fun z => AE.AV.v (.int .i64 z)) hn, trivial⟩) (by cbv) ?_
  refine X.go 500 _ _ ?_
  cbv
  refine X.need _ _ _ (by subst hA; constructor <;> simp only [AE.std, he1, bl_len, List.length_append] <;> omega) ?_
  refine X.go 500 _ _ ?_
  cbv
  refine X.fin _ (X.done rfl ?_)
  cbv
  refine ⟨⟨?_, trivial⟩, trivial⟩
  subst hA; subst he1; subst he'
  show bl (l ++ natL s.size) ++ AE.sbytes s = bl (l ++ textL s)
  rw [bl_sbytes, ← bl_app, textL, List.append_assoc]

/-- A number as bytes: sign, numerator, denominator. -/
structure Q where
  neg : Bool
  num : ByteArray
  den : ByteArray
def Q.av (q : Q) : List AE.AV := [.b q.neg, .v (.string q.num), .v (.string q.den)]
def boolL (x : Bool) : List UInt8 := natL (if x then 1 else 0)
def Q.L (q : Q) : List UInt8 := boolL q.neg ++ (textL q.num ++ textL q.den)
def Q.room (q : Q) : Nat := q.num.size + q.den.size + 30
theorem boolL_len (x : Bool) : (boolL x).length ≤ 10 := natL_len _ (by cases x <;> decide)
theorem textL_len (s : ByteArray) (h : s.size < 2 ^ 46) : (textL s).length ≤ s.size + 10 := by
  have := natL_len s.size (by omega)
  have h2 : s.data.toList.length = s.size := by rw [Array.length_toList]; rfl
  rw [textL, List.length_append, h2]; omega
theorem Q.L_len (q : Q) (h : q.room < 2 ^ 46) : q.L.length ≤ q.room := by
  have h1 := boolL_len q.neg
  have h2 := textL_len q.num (by simp only [Q.room] at h; omega)
  have h3 := textL_len q.den (by simp only [Q.room] at h; omega)
  simp only [Q.L, Q.room, List.length_append]; omega

theorem rat_ok (q : Q) (neg : Bool) (num den : ByteArray) (hq : q = ⟨neg, num, den⟩) (l : List UInt8) (hl : l.length + q.room ≤ 2 ^ 46) (es es' : List (List AE.AV)) (he : es = bl l) (he' : es' = bl (l ++ q.L)) :
    AE.ACall Try.prog 13 [.box [.r 1] 38, .row 5 1 es] [.p 0 0, .a [.b neg, .v (.string num), .v (.string den)]] [.box [.r 1] 38, .row 5 1 es'] (.t []) := by
  refine AE.ACall.of_walk (fn := Try.f13) (c := bodyOf Try.f13) tabOK Try.func13 rfl rfl mixed fun A hA X => ?_
  have h1 := boolL_len neg
  have hr : q.room = num.size + den.size + 30 := by rw [hq]; rfl
  have h2 := textL_len num (by omega)
  obtain ⟨e1, he1⟩ : ∃ e1, e1 = bl (l ++ boolL neg) := ⟨_, rfl⟩
  obtain ⟨e2, he2⟩ : ∃ e2, e2 = bl (l ++ boolL neg ++ textL num) := ⟨_, rfl⟩
  refine X.go 500 _ _ ?_
  cbv
  refine X.calls [0, 1] (bool_ok neg l (by omega) es e1 he he1) (by cbv) (by cbv) (by cbv) ?_
  refine X.go 500 _ _ ?_
  cbv
  refine X.calls [0, 1] (text_ok num (l ++ boolL neg) (by simp only [List.length_append]; omega) e1 e2 he1 he2) (by cbv) (by cbv) (by cbv) ?_
  refine X.go 500 _ _ ?_
  cbv
  refine X.calls [0, 1] (text_ok den (l ++ boolL neg ++ textL num) (by simp only [List.length_append]; omega) e2 es' he2 (by rw [he', hq]; simp only [Q.L, List.append_assoc])) (by cbv) (by cbv) (by cbv) ?_
  refine X.go 500 _ _ ?_
  cbv
  refine X.fin _ (X.done rfl ?_)
  cbv
end Go.Proofs.Ytjbnffclpebkkaa
