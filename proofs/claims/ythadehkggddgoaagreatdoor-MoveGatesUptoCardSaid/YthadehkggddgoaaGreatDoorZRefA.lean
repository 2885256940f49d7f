/- Contracts: the reference's Name, small, Frame, shape; slices.Index and Contains of texts; its names. -/
import Derived.Test.YthadehkggddgoaaGreatDoorZWorks
import Derived.Test.YthadehkggddgoaaGreatDoorZTrimS
set_option maxRecDepth 100000
set_option maxHeartbeats 0
set_option linter.unusedVariables false
set_option linter.unusedSimpArgs false
namespace Go.Proofs.YthadehkggddgoaaGreatDoor
open Go Go.Num
theorem refName_ok (s : ByteArray) (hs : s.size < 2 ^ 60) (r : Bool) (hr : r = decide (nameOK s)) : AE.ACall Tryz.prog 121 [] [.v (.string s)] [] (.b r) := by
  refine AE.ACall.of_walk (fn := Tryz.f121) (c := bodyOf Tryz.f121) tabOK Tryz.func121 rfl rfl mixed fun A hA X => ?_
  have hle : A.cmp .leq (A.slen s) 12 = decide (s.size ≤ 12) := leI hA (slen hA s) (b := 12) rfl
  by_cases h0 : s = ⟨⟨[]⟩⟩
  · have c1 : A.scmp .neq s ⟨⟨[]⟩⟩ = false := by rw [c_sneq hA, decide_eq_true h0]; rfl
    have e1 : false = r := by rw [hr, decide_eq_false (fun h => by rw [h0] at h; exact absurd h.1 (by decide))]
    (repeat' (first | (refine X.g ?_; cbv) | refine X.splitT ?_ | refine X.splitF ?_ | refine X.sp (fun hc => ?_) (fun hc => ?_) | refine X.needT ?_))
    all_goals (refine X.ret _ (X.done rfl ?_); cbv <;> (and_intros <;> first | exact e1 | rfl | trivial))
  have c1 : A.scmp .neq s ⟨⟨[]⟩⟩ = true := by rw [c_sneq hA, decide_eq_false h0]; rfl
  have h1 : 1 ≤ s.size := by
    obtain ⟨b, l, hl⟩ := ba_cons h0
    rw [← size_data, hl]; simp
  by_cases h2 : s.size ≤ 12
  · have c2 : A.cmp .leq (A.slen s) 12 = true := by rw [hle, decide_eq_true h2]
    obtain ⟨t, ht⟩ : ∃ t : ByteArray, t = ⟨(Lib.trimS s.data.toList abc).toArray⟩ := ⟨_, rfl⟩
    have k1 := trimAbc_ok s hs t ht
    have e1 : A.scmp .eql t ⟨⟨[]⟩⟩ = r := by
      rw [c_seql hA, hr]
      congr 1
      have : t = ⟨⟨[]⟩⟩ ↔ letters s.data.toList := by
        rw [ht]
        constructor
        · intro h
          have h' : (Lib.trimS s.data.toList abc).toArray = #[] := by injection h
          have : Lib.trimS s.data.toList abc = [] := by simpa using h'
          exact fun b hb => (abc_iff b).1 ((trim_nil _ _).1 this b hb)
        · intro h
          have : Lib.trimS s.data.toList abc = [] := (trim_nil _ _).2 fun b hb => (abc_iff b).2 (h b hb)
          rw [this]
      exact propext ⟨fun h => ⟨h1, h2, this.1 h⟩, fun h => this.2 h.2.2⟩
    (repeat' (first | (refine X.g ?_; cbv) | refine X.splitT ?_ | refine X.splitF ?_ | refine X.sp (fun hc => ?_) (fun hc => ?_) | refine X.callsA [] k1 ?_ | refine X.needT ?_))
    all_goals (refine X.ret _ (X.done rfl ?_); cbv <;> (and_intros <;> first | exact e1 | rfl | trivial))
  · have c2 : A.cmp .leq (A.slen s) 12 = false := by rw [hle, decide_eq_false h2]
    have e1 : false = r := by rw [hr, decide_eq_false (fun h => h2 h.2.1)]
    (repeat' (first | (refine X.g ?_; cbv) | refine X.splitT ?_ | refine X.splitF ?_ | refine X.sp (fun hc => ?_) (fun hc => ?_) | refine X.needT ?_))
    all_goals (refine X.ret _ (X.done rfl ?_); cbv <;> (and_intros <;> first | exact e1 | rfl | trivial))
theorem refSmall_ok (l : List Q) (hsz : ∀ q ∈ l, q.sz ≤ 2 ^ 34) (hl : l.length < 2 ^ 40) (es : List (List AE.AV)) (hes : es = lsAv Q.c l) (r : Bool) (hr : r = decide (∀ q ∈ l, q.Small)) : AE.ACallG GG Tryz.prog 126 [] [.l 3 es] [] (.b r) := by
  refine AE.ACallG.of_walk (fn := Tryz.f126) (c := bodyOf Tryz.f126) GG_stays tabOK Tryz.func126 rfl rfl mixed fun A hA X => ?_
  (repeat' (first | (refine X.g ?_; cbv) | refine X.splitT ?_ | refine X.splitF ?_ | refine X.sp (fun hc => ?_) (fun hc => ?_) | refine X.needT ?_))
  refine rangeL0 X hA hes (by omega) (fun i => ∀ q ∈ l.take i, q.Small) (fun z _ => [(7, .v (.int .i64 z))]) (fun b hb => by simp at hb) ?_ (fun i z y hz hy he c3 hI B hB => ?_) (fun z c3 hI B => ?_)
  · (cbv <;> (and_intros <;> first | rfl | trivial))
  · have hm := List.mem_of_getElem? hy
    obtain ⟨g, hg⟩ : ∃ g, g = decide y.Small := ⟨_, rfl⟩
    obtain ⟨gd, hgd⟩ : ∃ g, g = decide y.Good := ⟨_, rfl⟩
    have k1 := small_ok y (hsz y hm) g hg
    have k2 := good_ok y (hsz y hm) gd hgd
    by_cases h : y.Small
    · have c4 : A.bnot g = false := by rw [AE.c_not hA, hg, decide_eq_true h]; rfl
      have c5 : A.bnot gd = false := by rw [AE.c_not hA, hgd, decide_eq_true h.1]; rfl
      have hI' : ∀ q ∈ l.take (i + 1), q.Small := by
        rw [List.take_add_one, hy]
        intro x hx
        rcases List.mem_append.1 hx with hx | hx
        · exact hI x hx
        · simp at hx; rw [hx]; exact h
      (repeat' (first | (refine X.g ?_; cbv) | refine X.splitT ?_ | refine X.splitF ?_ | refine X.sp (fun hc => ?_) (fun hc => ?_) | refine X.needT ?_ | refine X.idx _ _ _ _ _ _ _ _ he hz ?_ | refine X.callsGA [] k1 ?_ | refine X.callsGA [] k2 ?_))
      all_goals (refine hB hI' _ ?_; clear hB; (cbv <;> (and_intros <;> first | rfl | trivial)))
    · have c4 : A.bnot g = true := by rw [AE.c_not hA, hg, decide_eq_false h]; rfl
      have e1 : false = r := by rw [hr, decide_eq_false (fun hh => h (hh y hm))]
      clear hB
      (repeat' (first | (refine X.g ?_; cbv) | refine X.splitT ?_ | refine X.splitF ?_ | refine X.sp (fun hc => ?_) (fun hc => ?_) | refine X.needT ?_ | refine X.idx _ _ _ _ _ _ _ _ he hz ?_ | refine X.callsGA [] k1 ?_ | refine X.callsGA [] k2 ?_))
      all_goals (refine X.ret _ (X.done rfl ?_); cbv <;> (and_intros <;> first | exact e1 | rfl | trivial))
  · rw [List.take_length] at hI
    have e1 : true = r := by rw [hr, decide_eq_true hI]
    (repeat' (first | (refine X.g ?_; cbv) | refine X.splitT ?_ | refine X.splitF ?_ | refine X.sp (fun hc => ?_) (fun hc => ?_) | refine X.needT ?_))
    all_goals (refine X.ret _ (X.done rfl ?_); cbv <;> (and_intros <;> first | exact e1 | rfl | trivial))
theorem refFrame_ok (f : Fr) (hf : f.le (2 ^ 28)) (r : Bool) (hr : r = frameB f) : AE.ACallG GG Tryz.prog 125 [] [.a f.c] [] (.b r) := by
  obtain ⟨z1, z2⟩ := hf
  obtain ⟨⟨q1, q2⟩, half, t⟩ := f
  simp only [V2.sz] at z1 z2
  refine AE.ACallG.of_walk (fn := Tryz.f125) (c := bodyOf Tryz.f125) GG_stays tabOK Tryz.func125 rfl rfl mixed fun A hA X => ?_
  obtain ⟨sm, hsm⟩ : ∃ b, b = decide (∀ q ∈ [q1, q2, t], q.Small) := ⟨_, rfl⟩
  obtain ⟨z, hz⟩ : ∃ z, z = sgnR t.v := ⟨_, rfl⟩
  have hr2 : r = (sm && (!half || decide (z = 0))) := by
    rw [hr, frameB, ← hz, hsm, frameI]
    congr 1
    rw [← Bool.decide_and]
    congr 1
    simp [V2.Small, and_assoc]
  clear hr
  have k1 := refSmall_ok [q1, q2, t] (by simp only [List.mem_cons, List.not_mem_nil, or_false, forall_eq_or_imp, forall_eq]; omega) (by simp) [q1.c, q2.c, t.c] (by rw [lsAv_eq]; rfl) sm hsm
  have k4 := sign_ok t (by omega) z hz
  (repeat' (first | (refine X.g ?_; cbv) | refine X.splitT ?_ | refine X.splitF ?_ | refine X.sp (fun hc => ?_) (fun hc => ?_) | refine X.needT ?_ | (refine X.isCall ?_; refine X.lendsG [1] k1 rfl ?_ (by cbv) ?_; focus (cbv <;> (and_intros <;> first | rfl | trivial))) | refine X.callsGA [] k4 ?_))
  all_goals (refine X.ret _ (X.done rfl ?_); cbv <;> (and_intros <;> first | rfl | trivial | (clear X k1 k4 hsm hz z1 z2; rw [hr2]; (try simp only [AE.c_lss hA, AE.c_leq hA, AE.c_gtr hA, AE.c_geq hA, AE.c_eql hA, AE.c_neq hA, AE.c_not hA, AE.c_and hA, AE.c_beq hA, AE.c_bne hA, decide_eq_true_eq, decide_eq_false_iff_not, Bool.not_eq_true, Bool.not_eq_false, Bool.not_eq_eq_eq_not, Bool.not_true, Bool.not_false, Int.not_lt, Int.not_le, Int.ofNat_eq_natCast] at *); clear hA hr2; cases sm <;> cases half <;> first | rfl | contradiction | (rw [decide_eq_true (by omega)]; rfl) | (rw [decide_eq_false (by omega)]; rfl) | simp)))
theorem refShape_ok (l : List V2) (hsz : ∀ p ∈ l, p.sz ≤ 2 ^ 28) (hl : l.length < 2 ^ 40) (es : List (List AE.AV)) (hes : es = lsAv V2.c l) (r : Int) (hr : r = shapeC l) : AE.ACallG GG Tryz.prog 124 [] [.l 6 es] [] (.v (.int .i64 r)) := by
  refine AE.ACallG.of_walk (fn := Tryz.f124) (c := bodyOf Tryz.f124) GG_stays tabOK Tryz.func124 rfl rfl mixed fun A hA X => ?_
  obtain ⟨pc, hpc⟩ : ∃ z, z = polyC 8 l := ⟨_, rfl⟩
  have k6 := polyCheck8_ok l hsz hl es hes pc hpc
  rw [shapeC, ← hpc] at hr
  by_cases h0 : pc = 0
  · have c4 : A.cmp .neq pc 0 = false := by rw [AE.c_neq hA, h0]; rfl
    (repeat' (first | (refine X.g ?_; cbv) | refine X.splitT ?_ | refine X.splitF ?_ | refine X.sp (fun hc => ?_) (fun hc => ?_) | refine X.callsGA [] k6 ?_ | refine X.needT ?_))
    refine rangeL0 X hA hes (by omega) (fun i => ∀ p ∈ l.take i, p.Small) (fun z _ => [(13, .v (.int .i64 z))]) (fun b hb => by simp at hb) ?_ (fun i z y hz hy he c3 hI B hB => ?_) (fun z c3 hI B => ?_)
    · (cbv <;> (and_intros <;> first | rfl | trivial))
    · have hm := List.mem_of_getElem? hy
      have ym := hsz y hm
      simp only [V2.sz] at ym
      obtain ⟨g, hg⟩ : ∃ g, g = decide (∀ q ∈ [y.x, y.y], q.Small) := ⟨_, rfl⟩
      have k1 := refSmall_ok [y.x, y.y] (by simp only [List.mem_cons, List.not_mem_nil, or_false, forall_eq_or_imp, forall_eq]; omega) (by simp) [y.x.c, y.y.c] (by rw [lsAv_eq]; rfl) g hg
      have hgs : g = decide y.Small := by rw [hg]; congr 1; simp [V2.Small]
      clear k6
      by_cases h : y.Small
      · have c4 : A.bnot g = false := by rw [AE.c_not hA, hgs, decide_eq_true h]; rfl
        have hI' : ∀ q ∈ l.take (i + 1), q.Small := by
          rw [List.take_add_one, hy]
          intro x hx
          rcases List.mem_append.1 hx with hx | hx
          · exact hI x hx
          · simp at hx; rw [hx]; exact h
        (repeat' (first | (refine X.g ?_; cbv) | refine X.splitT ?_ | refine X.splitF ?_ | refine X.sp (fun hc => ?_) (fun hc => ?_) | refine X.needT ?_ | refine X.idx _ _ _ _ _ _ _ _ he hz ?_ | (refine X.isCall ?_; refine X.lendsG [1] k1 rfl ?_ (by cbv) ?_; focus (cbv <;> (and_intros <;> first | rfl | trivial)))))
        all_goals (refine hB hI' _ ?_; clear hB; (cbv <;> (and_intros <;> first | rfl | trivial)))
      · have c4 : A.bnot g = true := by rw [AE.c_not hA, hgs, decide_eq_false h]; rfl
        have e1 : 1 = r := by rw [hr, shapeI, if_neg (by omega), decide_eq_false (fun hh => h (hh y hm))]; rfl
        clear hB
        (repeat' (first | (refine X.g ?_; cbv) | refine X.splitT ?_ | refine X.splitF ?_ | refine X.sp (fun hc => ?_) (fun hc => ?_) | refine X.needT ?_ | refine X.idx _ _ _ _ _ _ _ _ he hz ?_ | (refine X.isCall ?_; refine X.lendsG [1] k1 rfl ?_ (by cbv) ?_; focus (cbv <;> (and_intros <;> first | rfl | trivial)))))
        all_goals (refine X.ret _ (X.done rfl ?_); cbv <;> (and_intros <;> first | exact e1 | rfl | trivial))
    · rw [List.take_length] at hI
      have e1 : 0 = r := by rw [hr, shapeI, if_neg (by omega), decide_eq_true hI]; rfl
      (repeat' (first | (refine X.g ?_; cbv) | refine X.splitT ?_ | refine X.splitF ?_ | refine X.sp (fun hc => ?_) (fun hc => ?_) | refine X.needT ?_))
      all_goals (refine X.ret _ (X.done rfl ?_); cbv <;> (and_intros <;> first | exact e1 | rfl | trivial))
  · have c4 : A.cmp .neq pc 0 = true := by rw [AE.c_neq hA]; simpa using h0
    have e1 : pc = r := by rw [hr, shapeI, if_pos h0]
    (repeat' (first | (refine X.g ?_; cbv) | refine X.splitT ?_ | refine X.splitF ?_ | refine X.sp (fun hc => ?_) (fun hc => ?_) | refine X.callsGA [] k6 ?_ | refine X.needT ?_))
    all_goals (refine X.ret _ (X.done rfl ?_); cbv <;> (and_intros <;> first | exact e1 | rfl | trivial))
def strC (s : ByteArray) : List AE.AV := [.v (.string s)]
theorem indexStr_ok (l : List ByteArray) (hl : l.length < 2 ^ 40) (es : List (List AE.AV)) (hes : es = lsAv strC l) (s : ByteArray) (r : Int) (hr : r = idxB (fun t => decide (s = t)) l) : AE.ACall Tryz.prog 191 [] [.l 1 es, .v (.string s)] [] (.v (.int .i64 r)) := by
  refine AE.ACall.of_walk (fn := Tryz.f191) (c := bodyOf Tryz.f191) tabOK Tryz.func191 rfl rfl mixed fun A hA X => ?_
  (repeat' (first | (refine X.g ?_; cbv) | refine X.splitT ?_ | refine X.splitF ?_ | refine X.sp (fun hc => ?_) (fun hc => ?_) | refine X.needT ?_))
  refine rangeL0 X hA hes (by omega) (fun i => ∀ x ∈ l.take i, decide (s = x) = false) (fun z _ => [(8, .v (.int .i64 z))]) (fun x h => by simp at h) ?_ (fun i z y hz hy he c3 hI B hB => ?_) (fun z c3 hI B => ?_)
  · (cbv <;> (and_intros <;> first | rfl | trivial))
  · rw [strC] at he
    have hc : A.scmp .eql s y = decide (s = y) := c_seql hA s y
    by_cases h : s = y
    · have c4 : A.scmp .eql s y = true := by rw [hc, decide_eq_true h]
      have e1 : z = r := by rw [hr, idx_hit (p := fun t => decide (s = t)) hI hy (decide_eq_true h), hz]
      clear hB
      (repeat' (first | (refine X.g ?_; cbv) | refine X.splitT ?_ | refine X.splitF ?_ | refine X.sp (fun hc => ?_) (fun hc => ?_) | refine X.needT ?_ | refine X.idx _ _ _ _ _ _ _ _ he hz ?_))
      all_goals (refine X.ret _ (X.done rfl ?_); cbv <;> (and_intros <;> first | exact e1 | rfl | trivial))
    · have c4 : A.scmp .eql s y = false := by rw [hc, decide_eq_false h]
      have hI' := take_all (p := fun t => decide (s = t)) hI hy (decide_eq_false h)
      (repeat' (first | (refine X.g ?_; cbv) | refine X.splitT ?_ | refine X.splitF ?_ | refine X.sp (fun hc => ?_) (fun hc => ?_) | refine X.needT ?_ | refine X.idx _ _ _ _ _ _ _ _ he hz ?_))
      all_goals (refine hB hI' _ ?_; clear hB; (cbv <;> (and_intros <;> first | rfl | trivial)))
  · rw [List.take_length] at hI
    have e1 : -1 = r := by rw [hr, idx_none hI]
    (repeat' (first | (refine X.g ?_; cbv) | refine X.splitT ?_ | refine X.splitF ?_ | refine X.sp (fun hc => ?_) (fun hc => ?_) | refine X.needT ?_))
    all_goals (refine X.ret _ (X.done rfl ?_); cbv <;> (and_intros <;> first | exact e1 | rfl | trivial))
theorem containsStr_ok (l : List ByteArray) (hl : l.length < 2 ^ 40) (es : List (List AE.AV)) (hes : es = lsAv strC l) (s : ByteArray) (r : Bool) (hr : r = decide (s ∈ l)) : AE.ACall Tryz.prog 122 [] [.l 1 es, .v (.string s)] [] (.b r) := by
  refine AE.ACall.of_walk (fn := Tryz.f122) (c := bodyOf Tryz.f122) tabOK Tryz.func122 rfl rfl mixed fun A hA X => ?_
  obtain ⟨z, hz⟩ : ∃ z, z = idxB (fun t => decide (s = t)) l := ⟨_, rfl⟩
  have k1 := indexStr_ok l hl es hes s z hz
  have e1 : A.cmp .geq z 0 = r := by
    rw [AE.c_geq hA, hr, hz, idx_ge]
    by_cases h : s ∈ l
    · rw [decide_eq_true h, List.any_eq_true]; exact ⟨s, h, decide_eq_true rfl⟩
    · rw [decide_eq_false h, List.any_eq_false]; intro x hx; simp only [decide_eq_true_eq]; rintro rfl; exact h hx
  (repeat' (first | (refine X.g ?_; cbv) | refine X.splitT ?_ | refine X.splitF ?_ | refine X.sp (fun hc => ?_) (fun hc => ?_) | refine X.callsA [] k1 ?_ | refine X.needT ?_))
  all_goals (refine X.ret _ (X.done rfl ?_); cbv <;> (and_intros <;> first | exact e1 | rfl | trivial))
theorem refNames_ok (ns : List ByteArray) (hn : ns.length < 1000) (s : ByteArray) (hs : s.size < 2 ^ 60) (es es' : List (List AE.AV)) (e : Int) (hes : es = lsAv strC ns) (hes' : es' = lsAv strC (addN ns s).2) (he : e = (addN ns s).1) : AE.ACallG GG Tryz.prog 120 [.box [.r 1] 176, .row 9 1 es] [.v (.string s), .p 0 0] [.box [.r 1] 176, .row 9 1 es'] (.v (.int .i64 e)) := by
  refine AE.ACallG.of_walk (fn := Tryz.f120) (c := bodyOf Tryz.f120) GG_stays tabOK Tryz.func120 rfl rfl mixed fun A hA X => ?_
  obtain ⟨nm, hnm⟩ : ∃ b, b = decide (nameOK s) := ⟨_, rfl⟩
  have k1 := refName_ok s hs nm hnm
  obtain ⟨b, hb⟩ : ∃ b, b = decide (s ∈ ns) := ⟨_, rfl⟩
  have k2 := containsStr_ok ns (by omega) es hes s b hb
  by_cases h1 : nameOK s
  · have c1 : A.bnot nm = false := by rw [AE.c_not hA, hnm, decide_eq_true h1]; rfl
    by_cases h2 : s ∈ ns
    · have c2 : b = true := by rw [hb, decide_eq_true h2]
      rw [addN, if_neg (by simpa using h1), if_pos h2] at he hes'
      have e1 : es = es' := by rw [hes, hes']
      (repeat' (first | (refine X.g ?_; cbv) | refine X.splitT ?_ | refine X.splitF ?_ | refine X.sp (fun hc => ?_) (fun hc => ?_) | refine X.needT ?_ | refine X.callsA [] k1 ?_ | (refine X.isCall ?_; refine X.lends [1] k2 rfl ?_ (by cbv) ?_; focus (cbv <;> (and_intros <;> first | rfl | trivial)))))
      all_goals (refine X.ret _ (X.done rfl ?_); cbv <;> (and_intros <;> first | exact he.symm | exact e1 | rfl | trivial))
    · have c2 : b = false := by rw [hb, decide_eq_false h2]
      rw [addN, if_neg (by simpa using h1), if_neg h2] at he hes'
      have hn1 : A.llen es = ns.length := by rw [llen hA, hes, lsAv_len]
      have e1 : A.lapp es [[.v (.string s)]] = es' := by subst hA; rw [hes, hes', ← lsAv_app, show lsAv strC [s] = [[.v (.string s)]] by rw [lsAv_eq]; rfl]; rfl
      have hgrow : AE.GrowR (A.llen es) (A.llen [[AE.AV.v (.string s)]]) 16 := by
        have h1 : A.llen [[AE.AV.v (.string s)]] = 1 := by subst hA; rfl
        constructor <;> rw [h1, hn1] <;> omega
      (repeat' (first | (refine X.g ?_; cbv) | refine X.splitT ?_ | refine X.splitF ?_ | refine X.sp (fun hc => ?_) (fun hc => ?_) | refine X.needT ?_ | refine X.callsA [] k1 ?_ | (refine X.isCall ?_; refine X.lends [1] k2 rfl ?_ (by cbv) ?_; focus (cbv <;> (and_intros <;> first | rfl | trivial))) | refine X.need _ _ _ hgrow ?_))
      all_goals (refine X.ret _ (X.done rfl ?_); cbv <;> (and_intros <;> first | exact he.symm | exact e1 | rfl | trivial))
  · have c1 : A.bnot nm = true := by rw [AE.c_not hA, hnm, decide_eq_false h1]; rfl
    rw [addN, if_pos h1] at he hes'
    have e1 : es = es' := by rw [hes, hes']
    (repeat' (first | (refine X.g ?_; cbv) | refine X.splitT ?_ | refine X.splitF ?_ | refine X.sp (fun hc => ?_) (fun hc => ?_) | refine X.needT ?_ | refine X.callsA [] k1 ?_))
    all_goals (refine X.ret _ (X.done rfl ?_); cbv <;> (and_intros <;> first | exact he.symm | exact e1 | rfl | trivial))
end Go.Proofs.YthadehkggddgoaaGreatDoor
