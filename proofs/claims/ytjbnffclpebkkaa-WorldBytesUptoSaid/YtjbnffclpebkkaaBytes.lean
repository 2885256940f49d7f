import Derived.Test.YtjbnffclpebkkaaRats
set_option linter.unusedVariables false
set_option maxRecDepth 4000
namespace Go.Proofs.Ytjbnffclpebkkaa
open Go

theorem upG_ex (α : Type) : ∃ g : List UInt8 → (α → List UInt8) → List α → Nat → List UInt8, ∀ pre f l i, g pre f l i = pre ++ (l.take i).flatMap f := ⟨_, fun _ _ _ _ => rfl⟩
noncomputable def upG {α : Type} : List UInt8 → (α → List UInt8) → List α → Nat → List UInt8 := (upG_ex α).choose
theorem upG_eq {α : Type} (pre : List UInt8) (f : α → List UInt8) (l : List α) (i : Nat) : upG pre f l i = pre ++ (l.take i).flatMap f := (upG_ex α).choose_spec pre f l i
theorem upG_zero {α : Type} (pre : List UInt8) (f : α → List UInt8) (l : List α) : upG pre f l 0 = pre := by simp [upG_eq]
theorem upG_end {α : Type} (pre : List UInt8) (f : α → List UInt8) (l : List α) {i : Nat} (h : i = l.length) : upG pre f l i = pre ++ l.flatMap f := by rw [upG_eq, h, List.take_length]
theorem upG_succ {α : Type} (pre : List UInt8) (f : α → List UInt8) (l : List α) (i : Nat) (h : i < l.length) : upG pre f l (i + 1) = upG pre f l i ++ f l[i] := by
  simp only [upG_eq]
  rw [List.take_add_one, List.getElem?_eq_getElem h, List.flatMap_append, ← List.append_assoc]
  simp only [Option.toList, List.flatMap_cons, List.flatMap_nil, List.append_nil]
theorem flat_le {α : Type} (f : α → List UInt8) (ρ : α → Nat) : ∀ (l : List α), (∀ x ∈ l, (f x).length ≤ ρ x) → (l.flatMap f).length ≤ (l.map ρ).sum
  | [], _ => by simp
  | x :: l, h => by
    have h1 := h x (by simp)
    have h2 := flat_le f ρ l (fun y hy => h y (by simp [hy]))
    simp only [List.flatMap_cons, List.length_append, List.map_cons, List.sum_cons]
    omega
theorem upG_room {α : Type} (pre : List UInt8) (f : α → List UInt8) (ρ : α → Nat) (l : List α) (hf : ∀ x ∈ l, (f x).length ≤ ρ x) (i : Nat) (h : i < l.length) : (upG pre f l i).length + ρ l[i] ≤ pre.length + (l.map ρ).sum := by
  have h0 := flat_le f ρ (l.take i) (fun x hx => hf x (List.mem_of_mem_take hx))
  have h1 : (l.take (i + 1)) = l.take i ++ [l[i]] := by rw [List.take_add_one, List.getElem?_eq_getElem h]; rfl
  have ht : ((l.take (i + 1)).map ρ).sum ≤ (l.map ρ).sum := by
    conv => rhs; rw [← List.take_append_drop (i + 1) l, List.map_append, List.sum_append]
    omega
  rw [h1, List.map_append, List.sum_append] at ht
  simp only [List.map_cons, List.map_nil, List.sum_cons, List.sum_nil] at ht
  rw [upG_eq, List.length_append]
  omega
theorem len_le {α : Type} (ρ : α → Nat) : ∀ (l : List α), (∀ x ∈ l, 1 ≤ ρ x) → l.length ≤ (l.map ρ).sum
  | [], _ => by simp
  | x :: l, h => by
    have h1 := h x (by simp)
    have h2 := len_le ρ l (fun y hy => h y (by simp [hy]))
    simp only [List.length_cons, List.map_cons, List.sum_cons]
    omega
theorem mem_le {α : Type} (ρ : α → Nat) : ∀ (l : List α) (x : α), x ∈ l → ρ x ≤ (l.map ρ).sum
  | y :: l, x, h => by
    simp only [List.map_cons, List.sum_cons]
    rcases List.mem_cons.1 h with rfl | h
    · omega
    · have := mem_le ρ l x h; omega

theorem qsL_len (l : List Q) (h : qsRoom l < 2 ^ 46) : (qsL l).length ≤ qsRoom l := by
  simp only [qsRoom] at h ⊢
  have h0 := len_le Q.room l (fun x _ => by simp only [Q.room]; omega)
  have h1 := natL_len l.length (by omega)
  have h2 := flat_le Q.L Q.room l (fun x hx => x.L_len (by have := mem_le Q.room l x hx; omega))
  rw [qsL, List.length_append]
  omega

structure ArmS where
  q : List Q
  v : List Q
  power : Bool
  holds : Int
def intL (n : Int) : List UInt8 := natL (n % 2 ^ 64).toNat
theorem intL_len (n : Int) : (intL n).length ≤ 10 := natL_len _ (by omega)
noncomputable def ArmS.av (x : ArmS) : List AE.AV := [.l 3 (qsAv x.q), .l 3 (qsAv x.v), .b x.power, .v (.int .i64 x.holds)]
def ArmS.L (x : ArmS) : List UInt8 := qsL x.q ++ (qsL x.v ++ (boolL x.power ++ intL (x.holds + 1)))
def ArmS.room (x : ArmS) : Nat := qsRoom x.q + qsRoom x.v + 20
theorem ArmS.L_len (x : ArmS) (h : x.room < 2 ^ 46) : x.L.length ≤ x.room := by
  simp only [ArmS.room] at h ⊢
  have h1 := qsL_len x.q (by omega)
  have h2 := qsL_len x.v (by omega)
  have h3 := boolL_len x.power
  have h4 := intL_len (x.holds + 1)
  simp only [ArmS.L, List.length_append]; omega
theorem V2.L_len (v : V2) (h : v.room < 2 ^ 46) : v.L.length ≤ v.room := by
  simp only [V2.room] at h ⊢
  have h1 := v.x.L_len (by omega)
  have h2 := v.y.L_len (by omega)
  simp only [V2.L, List.length_append]; omega
structure Fr where
  at' : V2
  half : Bool
  t : Q
def Fr.av (f : Fr) : List AE.AV := f.at'.x.av ++ (f.at'.y.av ++ (.b f.half :: f.t.av))
def Fr.L (f : Fr) : List UInt8 := f.at'.L ++ (boolL f.half ++ f.t.L)
def Fr.room (f : Fr) : Nat := f.at'.room + f.t.room + 10
theorem Fr.L_len (f : Fr) (h : f.room < 2 ^ 46) : f.L.length ≤ f.room := by
  simp only [Fr.room] at h ⊢
  have h1 := f.at'.L_len (by omega)
  have h2 := f.t.L_len (by omega)
  have h3 := boolL_len f.half
  simp only [Fr.L, List.length_append]; omega
def bRoom (_ : Bool) : Nat := 10
def boolAv (x : Bool) : List AE.AV := [.b x]
structure StS where
  tick : Int
  arms : List ArmS
  parts : List Fr
  people : List V2
  opens : List Bool
theorem lsAv_ex (α : Type) : ∃ g : (α → List AE.AV) → List α → List (List AE.AV), ∀ f l, g f l = l.map f := ⟨_, fun _ _ => rfl⟩
noncomputable def lsAv {α : Type} : (α → List AE.AV) → List α → List (List AE.AV) := (lsAv_ex α).choose
theorem lsAv_eq {α : Type} (f : α → List AE.AV) (l : List α) : lsAv f l = l.map f := (lsAv_ex α).choose_spec f l
def lsL {α : Type} (f : α → List UInt8) (l : List α) : List UInt8 := natL l.length ++ l.flatMap f
noncomputable def StS.av (s : StS) : List AE.AV := [.v (.int .i64 s.tick), .l 4 (lsAv ArmS.av s.arms), .l 10 (lsAv Fr.av s.parts), .l 6 (lsAv V2.av s.people), .l 1 (lsAv boolAv s.opens)]
def StS.L (s : StS) : List UInt8 := intL s.tick ++ lsL ArmS.L s.arms ++ lsL Fr.L s.parts ++ lsL V2.L s.people ++ lsL boolL s.opens
def StS.room (s : StS) : Nat := (s.arms.map ArmS.room).sum + (s.parts.map Fr.room).sum + (s.people.map V2.room).sum + (s.opens.map bRoom).sum + 60

theorem add1_u64 (n : Int) : (AE.std.bin .add .i64 n 1 % 2 ^ 64) = (n + 1) % 2 ^ 64 := by
  simp only [AE.std, AE.binI]
  simp [IntKind.wrap, IntKind.bits, IntKind.signed]
  omega

theorem bytes_ok (s : StS) (hroom : s.room < 2 ^ 45) (va vp vw vo out : List (List AE.AV)) (tick : Int) (ht : tick = s.tick) (hva : va = lsAv ArmS.av s.arms) (hvp : vp = lsAv Fr.av s.parts) (hvw : vw = lsAv V2.av s.people) (hvo : vo = lsAv boolAv s.opens) (hout : out = bl s.L) :
    AE.ACall Try.prog 4 [] [.a [.v (.int .i64 tick), .l 4 va, .l 10 vp, .l 6 vw, .l 1 vo]] [] (.l 1 out) := by
  obtain ⟨tick', arms, parts, people, opens⟩ := s
  simp only at ht hva hvp hvw hvo
  simp only [StS.room] at hroom
  have hla := len_le ArmS.room arms (fun x _ => by simp only [ArmS.room]; omega)
  have hlp := len_le Fr.room parts (fun x _ => by simp only [Fr.room]; omega)
  have hlw := len_le V2.room people (fun x _ => by simp only [V2.room, Q.room]; omega)
  have hlo := len_le bRoom opens (fun x _ => by simp only [bRoom]; omega)
  have hfa : ∀ x ∈ arms, (ArmS.L x).length ≤ ArmS.room x := fun x hx => x.L_len (by have := mem_le ArmS.room arms x hx; omega)
  have hfp : ∀ x ∈ parts, (Fr.L x).length ≤ Fr.room x := fun x hx => x.L_len (by have := mem_le Fr.room parts x hx; omega)
  have hfw : ∀ x ∈ people, (V2.L x).length ≤ V2.room x := fun x hx => x.L_len (by have := mem_le V2.room people x hx; omega)
  have hfo : ∀ x ∈ opens, (boolL x).length ≤ bRoom x := fun x hx => boolL_len x
  have hsa := flat_le ArmS.L ArmS.room arms hfa
  have hsp := flat_le Fr.L Fr.room parts hfp
  have hsw := flat_le V2.L V2.room people hfw
  have hso := flat_le boolL bRoom opens hfo
  have hna := natL_len arms.length (by omega)
  have hnp := natL_len parts.length (by omega)
  have hnw := natL_len people.length (by omega)
  have hno := natL_len opens.length (by omega)
  have hnt := intL_len tick
  -- the bytes after each part
  obtain ⟨p0, hp0⟩ : ∃ p, p = intL tick := ⟨_, rfl⟩
  obtain ⟨pa, hpa⟩ : ∃ p, p = p0 ++ natL arms.length := ⟨_, rfl⟩
  obtain ⟨qa, hqa⟩ : ∃ p, p = pa ++ arms.flatMap ArmS.L := ⟨_, rfl⟩
  obtain ⟨pp, hpp⟩ : ∃ p, p = qa ++ natL parts.length := ⟨_, rfl⟩
  obtain ⟨qp, hqp⟩ : ∃ p, p = pp ++ parts.flatMap Fr.L := ⟨_, rfl⟩
  obtain ⟨pw, hpw⟩ : ∃ p, p = qp ++ natL people.length := ⟨_, rfl⟩
  obtain ⟨qw, hqw⟩ : ∃ p, p = pw ++ people.flatMap V2.L := ⟨_, rfl⟩
  obtain ⟨po, hpo⟩ : ∃ p, p = qw ++ natL opens.length := ⟨_, rfl⟩
  obtain ⟨qo, hqo⟩ : ∃ p, p = po ++ opens.flatMap boolL := ⟨_, rfl⟩
  have hfin : out = bl qo := by
    rw [hout, hqo, hpo, hqw, hpw, hqp, hpp, hqa, hpa, hp0, ht]; simp only [StS.L, lsL, List.append_assoc]
  have l0 : p0.length ≤ 10 := by rw [hp0]; exact hnt
  have la : pa.length ≤ 20 := by rw [hpa, List.length_append]; omega
  have la' : qa.length ≤ 20 + (arms.map ArmS.room).sum := by rw [hqa, List.length_append]; omega
  have lp : pp.length ≤ 30 + (arms.map ArmS.room).sum := by rw [hpp, List.length_append]; omega
  have lp' : qp.length ≤ 30 + (arms.map ArmS.room).sum + (parts.map Fr.room).sum := by rw [hqp, List.length_append]; omega
  have lw : pw.length ≤ 40 + (arms.map ArmS.room).sum + (parts.map Fr.room).sum := by rw [hpw, List.length_append]; omega
  have lw' : qw.length ≤ 40 + (arms.map ArmS.room).sum + (parts.map Fr.room).sum + (people.map V2.room).sum := by rw [hqw, List.length_append]; omega
  have lo : po.length ≤ 50 + (arms.map ArmS.room).sum + (parts.map Fr.room).sum + (people.map V2.room).sum := by rw [hpo, List.length_append]; omega
  refine AE.ACall.of_walk (fn := Try.f4) (c := bodyOf Try.f4) tabOK Try.func4 rfl rfl mixed fun A hA X => ?_
  obtain ⟨za, hza⟩ : ∃ z : Int, z = arms.length := ⟨_, rfl⟩
  have hnza : A.llen va = za := by subst hA; rw [hva, hza]; simp [AE.std, lsAv_eq]
  obtain ⟨zp, hzp⟩ : ∃ z : Int, z = parts.length := ⟨_, rfl⟩
  have hnzp : A.llen vp = zp := by subst hA; rw [hvp, hzp]; simp [AE.std, lsAv_eq]
  obtain ⟨zw, hzw⟩ : ∃ z : Int, z = people.length := ⟨_, rfl⟩
  have hnzw : A.llen vw = zw := by subst hA; rw [hvw, hzw]; simp [AE.std, lsAv_eq]
  obtain ⟨zo, hzo⟩ : ∃ z : Int, z = opens.length := ⟨_, rfl⟩
  have hnzo : A.llen vo = zo := by subst hA; rw [hvo, hzo]; simp [AE.std, lsAv_eq]
  obtain ⟨ep0, hep0⟩ : ∃ e, e = bl p0 := ⟨_, rfl⟩
  obtain ⟨epa, hepa⟩ : ∃ e, e = bl pa := ⟨_, rfl⟩
  obtain ⟨eqa, heqa⟩ : ∃ e, e = bl qa := ⟨_, rfl⟩
  obtain ⟨epp, hepp⟩ : ∃ e, e = bl pp := ⟨_, rfl⟩
  obtain ⟨eqp, heqp⟩ : ∃ e, e = bl qp := ⟨_, rfl⟩
  obtain ⟨epw, hepw⟩ : ∃ e, e = bl pw := ⟨_, rfl⟩
  obtain ⟨eqw, heqw⟩ : ∃ e, e = bl qw := ⟨_, rfl⟩
  obtain ⟨epo, hepo⟩ : ∃ e, e = bl po := ⟨_, rfl⟩
  obtain ⟨eqo, heqo⟩ : ∃ e, e = bl qo := ⟨_, rfl⟩
  refine X.go 500 _ _ ?_
  cbv
  refine X.callNilB _ _ _ _ _ 1 0 5 1 ?_
  refine X.calls [1, 2] (nat_ok tick [] (by simp) [] ep0 (by rw [bl_eq]; rfl) (by rw [hep0, hp0]; rfl)) (by cbv) (by cbv) (by cbv) ?_
  refine X.go 500 _ _ ?_
  cbv
  refine X.calls [1, 2] (nat_ok za p0 (by omega) ep0 epa hep0 (by rw [hepa, hpa, u64_nat hza (by omega)])) (by cbv) (by cbv; exact ⟨congrArg (fun z => AE.AV.v (.int .i64 z)) hnza, trivial⟩) (by cbv) ?_
  refine X.go 500 _ _ ?_
  cbv
  refine X.carries (ι := { i : Nat // i ≤ arms.length }) (fun i => [(26, .v (.int .i64 i.1))]) (fun i => [.box [.v (.int .i64 tick), .l 4 va, .l 10 vp, .l 6 vw, .l 1 vo] 27, .box [.r 2] 38, .row 5 1 (bl (upG pa ArmS.L arms i.1))]) (fun i => arms.length - i.1) ⟨0, Nat.zero_le _⟩ ?_ fun i B hB => ?_
  · cbv
    (repeat' apply And.intro) <;> try first | rfl | trivial
    all_goals exact (show epa = bl (upG pa ArmS.L arms 0) from hepa.trans (by rw [upG_zero]))
  obtain ⟨i, hi⟩ := i
  obtain ⟨ei, hei⟩ : ∃ ei, ei = bl (upG pa ArmS.L arms i) := ⟨_, rfl⟩
  simp only [← hei]
  refine X.go 500 _ _ ?_
  cbv
  refine X.split _ _ _ _ _ (fun hc => ?_) (fun hc => ?_)
  · have hlt : i < arms.length := by
      have h5 : A.cmp .lss (i : Int) (A.llen va) = true := hc
      rw [hnza, hza] at h5
      have : (i : Int) < (arms.length : Int) := by subst hA; simpa [AE.std, AE.cmpI] using h5
      omega
    obtain ⟨x, hx⟩ : ∃ x, x = arms[i] := ⟨_, rfl⟩
    obtain ⟨ei', hei'⟩ : ∃ ei', ei' = bl (upG pa ArmS.L arms (i + 1)) := ⟨_, rfl⟩
    have hroom2 := upG_room pa ArmS.L ArmS.room arms hfa i hlt
    rw [← hx] at hroom2
    obtain ⟨g, hg⟩ : ∃ g, g = upG pa ArmS.L arms i := ⟨_, rfl⟩
    rw [← hg] at hroom2 hei
    have hei2 : ei' = bl (g ++ ArmS.L x) := by rw [hei', upG_succ _ _ _ _ hlt, ← hg, hx]
    refine X.go 500 _ _ ?_
    cbv
    refine X.idx _ _ _ _ _ _ i (ArmS.av x) (by rw [hva, hx]; simp [lsAv_eq, hlt]) rfl ?_
    obtain ⟨xq, xv, power, holds⟩ := x
    simp only [ArmS.av]
    simp only [ArmS.room] at hroom2
    have m1 := qsL_len xq (by omega)
    have m2 := qsL_len xv (by omega)
    have m3 := boolL_len power
    have c1 := len_le Q.room xq (fun x _ => by simp only [Q.room]; omega)
    have c2 := len_le Q.room xv (fun x _ => by simp only [Q.room]; omega)
    have c3 : (xq.map Q.room).sum + 10 = qsRoom xq := rfl
    have c4 : (xv.map Q.room).sum + 10 = qsRoom xv := rfl
    obtain ⟨g1, hg1⟩ : ∃ g1, g1 = g ++ qsL xq := ⟨_, rfl⟩
    obtain ⟨g2, hg2⟩ : ∃ g2, g2 = g1 ++ qsL xv := ⟨_, rfl⟩
    obtain ⟨g3, hg3⟩ : ∃ g3, g3 = g2 ++ boolL power := ⟨_, rfl⟩
    have n1 : g1.length = g.length + (qsL xq).length := by rw [hg1, List.length_append]
    have n2 : g2.length = g1.length + (qsL xv).length := by rw [hg2, List.length_append]
    have n3 : g3.length = g2.length + (boolL power).length := by rw [hg3, List.length_append]
    obtain ⟨f1, hf1⟩ : ∃ f1, f1 = bl g1 := ⟨_, rfl⟩
    obtain ⟨f2, hf2⟩ : ∃ f2, f2 = bl g2 := ⟨_, rfl⟩
    obtain ⟨f3, hf3⟩ : ∃ f3, f3 = bl g3 := ⟨_, rfl⟩
    refine X.go 500 _ _ ?_
    cbv
    refine X.calls [1, 2] (rats_ok xq g (by omega) ei f1 (qsAv xq) rfl hei (by rw [hf1, hg1]) (by omega)) (by cbv) (by cbv <;> ((repeat' apply And.intro) <;> first | rfl | trivial)) (by cbv) ?_
    refine X.go 500 _ _ ?_
    cbv
    refine X.calls [1, 2] (rats_ok xv g1 (by omega) f1 f2 (qsAv xv) rfl hf1 (by rw [hf2, hg2]) (by omega)) (by cbv) (by cbv <;> ((repeat' apply And.intro) <;> first | rfl | trivial)) (by cbv) ?_
    refine X.go 500 _ _ ?_
    cbv
    refine X.calls [1, 2] (bool_ok power g2 (by omega) f2 f3 hf2 (by rw [hf3, hg3]; rfl)) (by cbv) (by cbv <;> ((repeat' apply And.intro) <;> first | rfl | trivial)) (by cbv) ?_
    refine X.go 500 _ _ ?_
    cbv
    refine X.calls [1, 2] (nat_ok (A.bin .add .i64 holds 1) g3 (by omega) f3 ei' hf3 (by subst hA; rw [add1_u64, hei2, hg3, hg2, hg1]; simp only [ArmS.L, intL, List.append_assoc])) (by cbv) (by cbv <;> ((repeat' apply And.intro) <;> first | rfl | trivial)) (by cbv) ?_
    refine X.go 500 _ _ ?_
    cbv
    refine hB ⟨i + 1, hlt⟩ _ (by show arms.length - (i + 1) < arms.length - i; omega) ?_
    have hadd : A.bin .add .i64 (i : Int) 1 = ((i + 1 : Nat) : Int) := by subst hA; rw [AE.std_add] <;> omega
    cbv
    (repeat' apply And.intro) <;> try first | rfl | trivial | exact congrArg (fun z => AE.AV.v (.int .i64 z)) hadd | exact hei'
  have hge : i = arms.length := by
    have h5 : A.cmp .lss (i : Int) (A.llen va) = false := hc
    rw [hnza, hza] at h5
    have : (arms.length : Int) ≤ (i : Int) := by subst hA; simpa [AE.std, AE.cmpI] using h5
    omega
  have hei3 : eqa = ei := by rw [hei, heqa, hqa, upG_end _ _ _ hge]
  subst hei3
  refine X.go 500 _ _ ?_
  cbv
  refine X.calls [1, 2] (nat_ok zp qa (by omega) eqa epp heqa (by rw [hepp, hpp, u64_nat hzp (by omega)])) (by cbv) (by cbv; exact ⟨congrArg (fun z => AE.AV.v (.int .i64 z)) hnzp, trivial⟩) (by cbv) ?_
  refine X.go 500 _ _ ?_
  cbv
  refine X.carries (ι := { i : Nat // i ≤ parts.length }) (fun i => [(56, .v (.int .i64 i.1))]) (fun i => [.box [.v (.int .i64 tick), .l 4 va, .l 10 vp, .l 6 vw, .l 1 vo] 27, .box [.r 2] 38, .row 5 1 (bl (upG pp Fr.L parts i.1))]) (fun i => parts.length - i.1) ⟨0, Nat.zero_le _⟩ ?_ fun i B hB => ?_
  · cbv
    (repeat' apply And.intro) <;> try first | rfl | trivial
    all_goals exact (show epp = bl (upG pp Fr.L parts 0) from hepp.trans (by rw [upG_zero]))
  obtain ⟨i, hi⟩ := i
  obtain ⟨ei, hei⟩ : ∃ ei, ei = bl (upG pp Fr.L parts i) := ⟨_, rfl⟩
  simp only [← hei]
  refine X.go 500 _ _ ?_
  cbv
  refine X.split _ _ _ _ _ (fun hc => ?_) (fun hc => ?_)
  · have hlt : i < parts.length := by
      have h5 : A.cmp .lss (i : Int) (A.llen vp) = true := hc
      rw [hnzp, hzp] at h5
      have : (i : Int) < (parts.length : Int) := by subst hA; simpa [AE.std, AE.cmpI] using h5
      omega
    obtain ⟨x, hx⟩ : ∃ x, x = parts[i] := ⟨_, rfl⟩
    obtain ⟨ei', hei'⟩ : ∃ ei', ei' = bl (upG pp Fr.L parts (i + 1)) := ⟨_, rfl⟩
    have hroom2 := upG_room pp Fr.L Fr.room parts hfp i hlt
    rw [← hx] at hroom2
    obtain ⟨g, hg⟩ : ∃ g, g = upG pp Fr.L parts i := ⟨_, rfl⟩
    rw [← hg] at hroom2 hei
    have hei2 : ei' = bl (g ++ Fr.L x) := by rw [hei', upG_succ _ _ _ _ hlt, ← hg, hx]
    refine X.go 500 _ _ ?_
    cbv
    refine X.idx _ _ _ _ _ _ i (Fr.av x) (by rw [hvp, hx]; simp [lsAv_eq, hlt]) rfl ?_
    obtain ⟨⟨⟨n1, a1, b1⟩, ⟨n2, a2, b2⟩⟩, half, ⟨n3, a3, b3⟩⟩ := x
    simp only [Fr.av, Q.avE, List.cons_append, List.nil_append]
    obtain ⟨v, hv⟩ : ∃ v : V2, v = ⟨⟨n1, a1, b1⟩, ⟨n2, a2, b2⟩⟩ := ⟨_, rfl⟩
    obtain ⟨t, ht'⟩ : ∃ t : Q, t = ⟨n3, a3, b3⟩ := ⟨_, rfl⟩
    rw [← hv, ← ht'] at hroom2 hei2
    simp only [Fr.room] at hroom2
    have m1 := v.L_len (by omega)
    have m3 := boolL_len half
    obtain ⟨g1, hg1⟩ : ∃ g1, g1 = g ++ v.L := ⟨_, rfl⟩
    obtain ⟨g2, hg2⟩ : ∃ g2, g2 = g1 ++ boolL half := ⟨_, rfl⟩
    have k1 : g1.length = g.length + v.L.length := by rw [hg1, List.length_append]
    have k2 : g2.length = g1.length + (boolL half).length := by rw [hg2, List.length_append]
    obtain ⟨f1, hf1⟩ : ∃ f1, f1 = bl g1 := ⟨_, rfl⟩
    obtain ⟨f2, hf2⟩ : ∃ f2, f2 = bl g2 := ⟨_, rfl⟩
    refine X.go 500 _ _ ?_
    cbv
    refine X.calls [1, 2] (vec_ok v n1 n2 a1 b1 a2 b2 hv g (by omega) ei f1 hei (by rw [hf1, hg1])) (by cbv) (by cbv <;> ((repeat' apply And.intro) <;> first | rfl | trivial)) (by cbv) ?_
    refine X.go 500 _ _ ?_
    cbv
    refine X.calls [1, 2] (bool_ok half g1 (by omega) f1 f2 hf1 (by rw [hf2, hg2]; rfl)) (by cbv) (by cbv <;> ((repeat' apply And.intro) <;> first | rfl | trivial)) (by cbv) ?_
    refine X.go 500 _ _ ?_
    cbv
    refine X.calls [1, 2] (rat_ok t n3 a3 b3 ht' g2 (by omega) f2 ei' hf2 (by rw [hei2, hg2, hg1]; simp only [Fr.L, List.append_assoc])) (by cbv) (by cbv <;> ((repeat' apply And.intro) <;> first | rfl | trivial)) (by cbv) ?_
    refine X.go 500 _ _ ?_
    cbv
    refine hB ⟨i + 1, hlt⟩ _ (by show parts.length - (i + 1) < parts.length - i; omega) ?_
    have hadd : A.bin .add .i64 (i : Int) 1 = ((i + 1 : Nat) : Int) := by subst hA; rw [AE.std_add] <;> omega
    cbv
    (repeat' apply And.intro) <;> try first | rfl | trivial | exact congrArg (fun z => AE.AV.v (.int .i64 z)) hadd | exact hei'
  have hge : i = parts.length := by
    have h5 : A.cmp .lss (i : Int) (A.llen vp) = false := hc
    rw [hnzp, hzp] at h5
    have : (parts.length : Int) ≤ (i : Int) := by subst hA; simpa [AE.std, AE.cmpI] using h5
    omega
  have hei3 : eqp = ei := by rw [hei, heqp, hqp, upG_end _ _ _ hge]
  subst hei3
  refine X.go 500 _ _ ?_
  cbv
  refine X.calls [1, 2] (nat_ok zw qp (by omega) eqp epw heqp (by rw [hepw, hpw, u64_nat hzw (by omega)])) (by cbv) (by cbv; exact ⟨congrArg (fun z => AE.AV.v (.int .i64 z)) hnzw, trivial⟩) (by cbv) ?_
  refine X.go 500 _ _ ?_
  cbv
  refine X.carries (ι := { i : Nat // i ≤ people.length }) (fun i => [(83, .v (.int .i64 i.1))]) (fun i => [.box [.v (.int .i64 tick), .l 4 va, .l 10 vp, .l 6 vw, .l 1 vo] 27, .box [.r 2] 38, .row 5 1 (bl (upG pw V2.L people i.1))]) (fun i => people.length - i.1) ⟨0, Nat.zero_le _⟩ ?_ fun i B hB => ?_
  · cbv
    (repeat' apply And.intro) <;> try first | rfl | trivial
    all_goals exact (show epw = bl (upG pw V2.L people 0) from hepw.trans (by rw [upG_zero]))
  obtain ⟨i, hi⟩ := i
  obtain ⟨ei, hei⟩ : ∃ ei, ei = bl (upG pw V2.L people i) := ⟨_, rfl⟩
  simp only [← hei]
  refine X.go 500 _ _ ?_
  cbv
  refine X.split _ _ _ _ _ (fun hc => ?_) (fun hc => ?_)
  · have hlt : i < people.length := by
      have h5 : A.cmp .lss (i : Int) (A.llen vw) = true := hc
      rw [hnzw, hzw] at h5
      have : (i : Int) < (people.length : Int) := by subst hA; simpa [AE.std, AE.cmpI] using h5
      omega
    obtain ⟨x, hx⟩ : ∃ x, x = people[i] := ⟨_, rfl⟩
    obtain ⟨ei', hei'⟩ : ∃ ei', ei' = bl (upG pw V2.L people (i + 1)) := ⟨_, rfl⟩
    have hroom2 := upG_room pw V2.L V2.room people hfw i hlt
    rw [← hx] at hroom2
    obtain ⟨g, hg⟩ : ∃ g, g = upG pw V2.L people i := ⟨_, rfl⟩
    rw [← hg] at hroom2 hei
    have hei2 : ei' = bl (g ++ V2.L x) := by rw [hei', upG_succ _ _ _ _ hlt, ← hg, hx]
    refine X.go 500 _ _ ?_
    cbv
    refine X.idx _ _ _ _ _ _ i (V2.av x) (by rw [hvw, hx]; simp [lsAv_eq, hlt]) rfl ?_
    obtain ⟨⟨n1, a1, b1⟩, ⟨n2, a2, b2⟩⟩ := x
    simp only [V2.av, Q.avE, List.cons_append, List.nil_append]
    refine X.go 500 _ _ ?_
    cbv
    refine X.calls [1, 2] (vec_ok ⟨⟨n1, a1, b1⟩, ⟨n2, a2, b2⟩⟩ n1 n2 a1 b1 a2 b2 rfl g (by omega) ei ei' hei hei2) (by cbv) (by cbv <;> ((repeat' apply And.intro) <;> first | rfl | trivial)) (by cbv) ?_
    refine X.go 500 _ _ ?_
    cbv
    refine hB ⟨i + 1, hlt⟩ _ (by show people.length - (i + 1) < people.length - i; omega) ?_
    have hadd : A.bin .add .i64 (i : Int) 1 = ((i + 1 : Nat) : Int) := by subst hA; rw [AE.std_add] <;> omega
    cbv
    (repeat' apply And.intro) <;> try first | rfl | trivial | exact congrArg (fun z => AE.AV.v (.int .i64 z)) hadd | exact hei'
  have hge : i = people.length := by
    have h5 : A.cmp .lss (i : Int) (A.llen vw) = false := hc
    rw [hnzw, hzw] at h5
    have : (people.length : Int) ≤ (i : Int) := by subst hA; simpa [AE.std, AE.cmpI] using h5
    omega
  have hei3 : eqw = ei := by rw [hei, heqw, hqw, upG_end _ _ _ hge]
  subst hei3
  refine X.go 500 _ _ ?_
  cbv
  refine X.calls [1, 2] (nat_ok zo qw (by omega) eqw epo heqw (by rw [hepo, hpo, u64_nat hzo (by omega)])) (by cbv) (by cbv; exact ⟨congrArg (fun z => AE.AV.v (.int .i64 z)) hnzo, trivial⟩) (by cbv) ?_
  refine X.go 500 _ _ ?_
  cbv
  refine X.carries (ι := { i : Nat // i ≤ opens.length }) (fun i => [(99, .v (.int .i64 i.1))]) (fun i => [.box [.v (.int .i64 tick), .l 4 va, .l 10 vp, .l 6 vw, .l 1 vo] 27, .box [.r 2] 38, .row 5 1 (bl (upG po boolL opens i.1))]) (fun i => opens.length - i.1) ⟨0, Nat.zero_le _⟩ ?_ fun i B hB => ?_
  · cbv
    (repeat' apply And.intro) <;> try first | rfl | trivial
    all_goals exact (show epo = bl (upG po boolL opens 0) from hepo.trans (by rw [upG_zero]))
  obtain ⟨i, hi⟩ := i
  obtain ⟨ei, hei⟩ : ∃ ei, ei = bl (upG po boolL opens i) := ⟨_, rfl⟩
  simp only [← hei]
  refine X.go 500 _ _ ?_
  cbv
  refine X.split _ _ _ _ _ (fun hc => ?_) (fun hc => ?_)
  · have hlt : i < opens.length := by
      have h5 : A.cmp .lss (i : Int) (A.llen vo) = true := hc
      rw [hnzo, hzo] at h5
      have : (i : Int) < (opens.length : Int) := by subst hA; simpa [AE.std, AE.cmpI] using h5
      omega
    obtain ⟨x, hx⟩ : ∃ x, x = opens[i] := ⟨_, rfl⟩
    obtain ⟨ei', hei'⟩ : ∃ ei', ei' = bl (upG po boolL opens (i + 1)) := ⟨_, rfl⟩
    have hroom2 := upG_room po boolL bRoom opens hfo i hlt
    rw [← hx] at hroom2
    obtain ⟨g, hg⟩ : ∃ g, g = upG po boolL opens i := ⟨_, rfl⟩
    rw [← hg] at hroom2 hei
    have hei2 : ei' = bl (g ++ boolL x) := by rw [hei', upG_succ _ _ _ _ hlt, ← hg, hx]
    refine X.go 500 _ _ ?_
    cbv
    refine X.idx _ _ _ _ _ _ i (boolAv x) (by rw [hvo, hx]; simp [lsAv_eq, hlt]) rfl ?_
    simp only [boolAv]
    simp only [bRoom] at hroom2
    refine X.go 500 _ _ ?_
    cbv
    refine X.calls [1, 2] (bool_ok x g (by omega) ei ei' hei (by rw [hei2]; rfl)) (by cbv) (by cbv <;> ((repeat' apply And.intro) <;> first | rfl | trivial)) (by cbv) ?_
    refine X.go 500 _ _ ?_
    cbv
    refine hB ⟨i + 1, hlt⟩ _ (by show opens.length - (i + 1) < opens.length - i; omega) ?_
    have hadd : A.bin .add .i64 (i : Int) 1 = ((i + 1 : Nat) : Int) := by subst hA; rw [AE.std_add] <;> omega
    cbv
    (repeat' apply And.intro) <;> try first | rfl | trivial | exact congrArg (fun z => AE.AV.v (.int .i64 z)) hadd | exact hei'
  have hge : i = opens.length := by
    have h5 : A.cmp .lss (i : Int) (A.llen vo) = false := hc
    rw [hnzo, hzo] at h5
    have : (opens.length : Int) ≤ (i : Int) := by subst hA; simpa [AE.std, AE.cmpI] using h5
    omega
  have hei3 : eqo = ei := by rw [hei, heqo, hqo, upG_end _ _ _ hge]
  subst hei3
  refine X.go 500 _ _ ?_
  cbv
  refine X.ret _ (X.frz 2 _ _ (X.done rfl ?_))
  cbv
  (repeat' apply And.intro) <;> try first | rfl | trivial
  all_goals (rw [hfin, heqo])
end Go.Proofs.Ytjbnffclpebkkaa

