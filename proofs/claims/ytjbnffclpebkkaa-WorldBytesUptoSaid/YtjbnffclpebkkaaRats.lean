import Derived.Test.YtjbnffclpebkkaaWriter
set_option linter.unusedVariables false
namespace Go.Proofs.Ytjbnffclpebkkaa
open Go

def qsL (l : List Q) : List UInt8 := natL l.length ++ l.flatMap Q.L
theorem qsAv_ex : ∃ g : List Q → List (List AE.AV), ∀ l, g l = l.map Q.av := ⟨_, fun _ => rfl⟩
noncomputable def qsAv : List Q → List (List AE.AV) := qsAv_ex.choose
theorem qsAv_eq (l : List Q) : qsAv l = l.map Q.av := qsAv_ex.choose_spec l
def qsRoom (l : List Q) : Nat := (l.map Q.room).sum + 10
theorem upL_ex : ∃ g : List UInt8 → (Q → List UInt8) → List Q → Nat → List UInt8, ∀ A f l i, g A f l i = A ++ (l.take i).flatMap f := ⟨_, fun _ _ _ _ => rfl⟩
noncomputable def upL : List UInt8 → (Q → List UInt8) → List Q → Nat → List UInt8 := upL_ex.choose
theorem upL_eq (A : List UInt8) (f : Q → List UInt8) (l : List Q) (i : Nat) : upL A f l i = A ++ (l.take i).flatMap f := upL_ex.choose_spec A f l i



theorem u64_nat {z : Int} {n : Nat} (h : z = n) (hn : n < 2 ^ 64) : (z % 2 ^ 64).toNat = n := by omega
theorem Q.avE (q : Q) : q.av = [.b q.neg, .v (.string q.num), .v (.string q.den)] := rfl
theorem upL_zero (A : List UInt8) (f : Q → List UInt8) (l : List Q) : upL A f l 0 = A := by simp [upL_eq]
theorem upL_succ (A : List UInt8) (f : Q → List UInt8) (l : List Q) (i : Nat) (h : i < l.length) : upL A f l (i + 1) = upL A f l i ++ f l[i] := by
  simp only [upL_eq]
  rw [List.take_add_one, List.getElem?_eq_getElem h, List.flatMap_append, ← List.append_assoc]
  simp only [Option.toList, List.flatMap_cons, List.flatMap_nil, List.append_nil]
theorem upL_room (A : List UInt8) (l : List Q) (hs : (l.map Q.room).sum < 2 ^ 46) (i : Nat) : (upL A Q.L l i).length ≤ A.length + ((l.take i).map Q.room).sum := by
  simp only [upL_eq]
  rw [List.length_append]
  have : ∀ (m : List Q), (m.map Q.room).sum < 2 ^ 46 → (m.flatMap Q.L).length ≤ (m.map Q.room).sum := by
    intro m
    induction m with
    | nil => simp
    | cons q m ih =>
      intro h
      simp only [List.map_cons, List.sum_cons] at h
      have h1 := q.L_len (by omega)
      have h2 := ih (by omega)
      simp only [List.flatMap_cons, List.length_append, List.map_cons, List.sum_cons]
      omega
  have ht : ((l.take i).map Q.room).sum ≤ (l.map Q.room).sum := by
    conv => rhs; rw [← List.take_append_drop i l, List.map_append, List.sum_append]
    omega
  have := this (l.take i) (by omega)
  omega
theorem sum_take (l : List Q) (i : Nat) (h : i < l.length) : ((l.take i).map Q.room).sum + (l[i]).room ≤ (l.map Q.room).sum := by
  have h1 : (l.take (i + 1)) = l.take i ++ [l[i]] := by rw [List.take_add_one, List.getElem?_eq_getElem h]; rfl
  have ht : ((l.take (i + 1)).map Q.room).sum ≤ (l.map Q.room).sum := by
    conv => rhs; rw [← List.take_append_drop (i + 1) l, List.map_append, List.sum_append]
    omega
  rw [h1, List.map_append, List.sum_append] at ht
  simp only [List.map_cons, List.map_nil, List.sum_cons, List.sum_nil] at ht
  omega

theorem rats_ok (ql : List Q) (l : List UInt8) (hl : l.length + qsRoom ql < 2 ^ 46) (es es' vs : List (List AE.AV)) (hv : vs = qsAv ql) (he : es = bl l) (he' : es' = bl (l ++ qsL ql)) (hcount : ql.length < 2 ^ 62) :
    AE.ACall Try.prog 10 [.box [.r 1] 38, .row 5 1 es] [.p 0 0, .l 3 vs] [.box [.r 1] 38, .row 5 1 es'] (.t []) := by
  refine AE.ACall.of_walk (fn := Try.f10) (c := bodyOf Try.f10) tabOK Try.func10 rfl rfl mixed fun A hA X => ?_
  obtain ⟨z, hz⟩ : ∃ z : Int, z = ql.length := ⟨_, rfl⟩
  have hn : A.llen vs = z := by subst hA; subst hv; simp [AE.std, qsAv_eq, hz]
  obtain ⟨pre, hpre⟩ : ∃ pre, pre = l ++ natL ql.length := ⟨_, rfl⟩
  obtain ⟨e1, he1⟩ : ∃ e1, e1 = bl pre := ⟨_, rfl⟩
  have hnl := natL_len ql.length (by omega)
  have hpl : pre.length ≤ l.length + 10 := by rw [hpre, List.length_append]; omega
  have hend : ∀ i, i = ql.length → bl (upL pre Q.L ql i) = es' := by
    rintro i rfl
    rw [he', hpre, upL_eq, qsL, List.take_length, List.append_assoc]
  simp only [qsRoom] at hl
  refine X.go 500 _ _ ?_
  cbv
  refine X.calls [0, 1] (nat_ok z l (by omega) es e1 he (by rw [he1, hpre, u64_nat hz (by omega)])) (by cbv) (by cbv; exact ⟨congrArg (fun z => AE.AV.v (.int .i64 z)) hn, trivial⟩) (by cbv) ?_
  refine X.go 500 _ _ ?_
  cbv
  refine X.carries (ι := { i : Nat // i ≤ ql.length }) (fun i => [(12, .v (.int .i64 i.1))]) (fun i => [.box [.r 1] 38, .row 5 1 (bl (upL pre Q.L ql i.1))]) (fun i => ql.length - i.1) ⟨0, Nat.zero_le _⟩ ?_ fun i B hB => ?_
  · cbv
    (repeat' apply And.intro) <;> try first | rfl | trivial
    have h00 : e1 = bl (upL pre Q.L ql 0) := by rw [upL_zero]; exact he1
    exact h00
  · obtain ⟨i, hi⟩ := i
    obtain ⟨ei, hei⟩ : ∃ ei, ei = bl (upL pre Q.L ql i) := ⟨_, rfl⟩
    simp only [← hei]
    refine X.go 500 _ _ ?_
    cbv
    refine X.split _ _ _ _ _ (fun hc => ?_) (fun hc => ?_)
    · have hlt : i < ql.length := by
        have : (i : Int) < ql.length := by subst hA; simpa [AE.std, AE.cmpI, hn, hz, hv, qsAv_eq] using hc
        omega
      obtain ⟨q, hq⟩ : ∃ q, q = ql[i] := ⟨_, rfl⟩
      obtain ⟨ei', hei'⟩ : ∃ ei', ei' = bl (upL pre Q.L ql (i + 1)) := ⟨_, rfl⟩
      have hroom := upL_room pre ql (by omega) i
      have hst := sum_take ql i hlt
      rw [← hq] at hst
      refine X.go 500 _ _ ?_
      cbv
      refine X.idx _ _ _ _ _ _ i q.av (by rw [hv, hq]; simp [qsAv_eq, hlt]) rfl ?_
      rw [Q.avE]
      obtain ⟨neg, num, den⟩ := q
      refine X.go 500 _ _ ?_
      cbv
      refine X.calls [0, 1] (rat_ok ⟨neg, num, den⟩ neg num den rfl (upL pre Q.L ql i) (by omega) ei ei' hei (by rw [hei', upL_succ _ _ _ _ hlt, hq])) (by cbv) (by cbv) (by cbv) ?_
      refine X.go 500 _ _ ?_
      cbv
      refine hB ⟨i + 1, hlt⟩ _ (by show ql.length - (i + 1) < ql.length - i; omega) ?_
      cbv
      have hadd : A.bin .add .i64 (i : Int) 1 = ((i + 1 : Nat) : Int) := by subst hA; rw [AE.std_add] <;> omega
      (repeat' apply And.intro) <;> try first | rfl | trivial | exact congrArg (fun z => AE.AV.v (.int .i64 z)) hadd | exact hei'
    · have hge : i = ql.length := by
        have : ¬ (i : Int) < ql.length := by subst hA; simpa [AE.std, AE.cmpI, hn, hz, hv, qsAv_eq] using hc
        omega
      refine X.go 500 _ _ ?_
      cbv
      refine X.fin _ (X.done rfl ?_)
      cbv
      exact ⟨⟨hei.trans (hend i hge), trivial⟩, trivial⟩

structure V2 where
  x : Q
  y : Q
def V2.av (v : V2) : List AE.AV := v.x.av ++ v.y.av
def V2.L (v : V2) : List UInt8 := v.x.L ++ v.y.L
def V2.room (v : V2) : Nat := v.x.room + v.y.room
theorem vec_ok (v : V2) (n1 n2 : Bool) (a1 b1 a2 b2 : ByteArray) (hq : v = ⟨⟨n1, a1, b1⟩, ⟨n2, a2, b2⟩⟩) (l : List UInt8) (hl : l.length + v.room < 2 ^ 46) (es es' : List (List AE.AV)) (he : es = bl l) (he' : es' = bl (l ++ v.L)) :
    AE.ACall Try.prog 12 [.box [.r 1] 38, .row 5 1 es] [.p 0 0, .a [.b n1, .v (.string a1), .v (.string b1), .b n2, .v (.string a2), .v (.string b2)]] [.box [.r 1] 38, .row 5 1 es'] (.t []) := by
  refine AE.ACall.of_walk (fn := Try.f12) (c := bodyOf Try.f12) tabOK Try.func12 rfl rfl mixed fun A hA X => ?_
  obtain ⟨q1, hq1⟩ : ∃ q1 : Q, q1 = ⟨n1, a1, b1⟩ := ⟨_, rfl⟩
  obtain ⟨q2, hq2⟩ : ∃ q2 : Q, q2 = ⟨n2, a2, b2⟩ := ⟨_, rfl⟩
  rw [← hq1, ← hq2] at hq
  have hr : v.room = q1.room + q2.room := by rw [hq]; rfl
  have h1 := q1.L_len (by omega)
  obtain ⟨e1, he1⟩ : ∃ e1, e1 = bl (l ++ q1.L) := ⟨_, rfl⟩
  refine X.go 500 _ _ ?_
  cbv
  refine X.calls [0, 1] (rat_ok q1 n1 a1 b1 hq1 l (by omega) es e1 he he1) (by cbv) (by cbv) (by cbv) ?_
  refine X.go 500 _ _ ?_
  cbv
  refine X.calls [0, 1] (rat_ok q2 n2 a2 b2 hq2 (l ++ q1.L) (by simp only [List.length_append]; omega) e1 es' he1 (by rw [he', hq, V2.L, List.append_assoc])) (by cbv) (by cbv) (by cbv) ?_
  refine X.go 500 _ _ ?_
  cbv
  refine X.fin _ (X.done rfl ?_)
  cbv
end Go.Proofs.Ytjbnffclpebkkaa
