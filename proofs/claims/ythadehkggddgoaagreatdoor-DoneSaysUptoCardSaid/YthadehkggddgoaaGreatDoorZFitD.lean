/- Contract: the law DoneSays. Reading wants; a works and a state of a small bulk have short numbers. -/
import Derived.Test.YthadehkggddgoaaGreatDoorZDoneB
import Derived.Test.YthadehkggddgoaaGreatDoorZRState
import Derived.Test.YthadehkggddgoaaGreatDoorZFitS
section
set_option maxRecDepth 100000
set_option maxHeartbeats 0
set_option linter.unusedVariables false
set_option linter.unusedSimpArgs false
namespace Go.Proofs.YthadehkggddgoaaGreatDoor
open Go Go.Num
theorem joins0 {A : AE.Ari} {P : Program} {T : AE.Tab} {fn : Func} {n0 : Nat} {own' : List AE.OB} {res : AE.AV} {GG : (Nat → Option Obj) → Prop} (X : AE.Walk A P T fn n0 own' res GG) {x : Code} {id : Nat} {K : List AE.Item} {σ : AE.St} (ps : List (Nat × AE.AV)) (h1 : X.H K (σ.carry x ps σ.own))
    (h2 : ∀ B : Act → World → Prop, (∀ σ' : AE.St, AE.Says n0 σ' (σ.carry x ps σ.own) → X.G (.back B σ')) → X.G (.loop x (.blk id :: .back B :: K) σ)) : X.G (.loop x (.blk id :: K) σ) :=
  X.joins (ι := Unit) (fun _ => ps) (fun _ => σ.own) (fun _ => h1) fun B hB => h2 B fun σ' hs => hB () σ' hs
theorem eq_self_A {A : AE.Ari} (hA : A = AE.std) (q : Q) : A.band (A.bcmp .eql q.1 q.1) (A.band (A.scmp .eql q.2 q.2) (A.scmp .eql q.3 q.3)) = true := (eqQ_eq hA q q).trans (by simp)
theorem emptyW_c : emptyW.c = [.l 12 [], .l 1 [], .l 12 [], .l 14 [], .l 13 [], .b false, .v (.string ⟨⟨[]⟩⟩), .v (.string ⟨⟨[]⟩⟩)] := by simp only [Wk.c, emptyW, lsAv_nil]; rfl
theorem empty_C : stateC emptyW Ss.nil = 4 := by rw [stateC, stateI, emptyW_ok]; rfl
theorem best_spec (w : Wk) (s : Ss) (p : Int) : ∀ n : Nat, 0 < n → ∃ b : Nat, b < n ∧ (bestAt w s p n).1 = b ∧ (bestAt w s p n).2 = offR (frAt s p) (slotAt w b).frame (partAt w p).shape ∧
    (∀ k : Nat, k < n → offR (frAt s p) (slotAt w b).frame (partAt w p).shape ≤ offR (frAt s p) (slotAt w k).frame (partAt w p).shape) ∧
    (∀ k : Nat, k < n → offR (frAt s p) (slotAt w k).frame (partAt w p).shape = offR (frAt s p) (slotAt w b).frame (partAt w p).shape → b ≤ k)
  | 0, h => absurd h (by decide)
  | n + 1, _ => by
    by_cases h0 : n = 0
    · subst h0
      refine ⟨0, by decide, rfl, rfl, fun k hk => ?_, fun k hk _ => Nat.zero_le _⟩
      have : k = 0 := by omega
      subst this
      exact Rat.le_refl
    · obtain ⟨b, h1, h2, h3, h4, h5⟩ := best_spec w s p n (by omega)
      rw [bestAt]
      by_cases h : offR (frAt s p) (slotAt w n).frame (partAt w p).shape < (bestAt w s p n).2
      · rw [if_pos (Or.inr h)]
        rw [h3] at h
        refine ⟨n, by omega, rfl, rfl, fun k hk => ?_, fun k hk he => ?_⟩
        · by_cases hkn : k = n
          · subst hkn; exact Rat.le_refl
          · have := h4 k (by omega)
            grind
        · by_cases hkn : k = n
          · omega
          · have := h4 k (by omega)
            rw [he] at this
            exact absurd h (Rat.not_lt.2 this)
      · rw [if_neg (fun hh => hh.elim h0 h)]
        rw [h3] at h
        refine ⟨b, by omega, h2, h3, fun k hk => ?_, fun k hk he => ?_⟩
        · by_cases hkn : k = n
          · subst hkn; exact Rat.not_lt.1 h
          · exact h4 k (by omega)
        · by_cases hkn : k = n
          · omega
          · exact h5 k (by omega) he
theorem doneSaysBad_ok (w : Wk) (hw : w.Le) (s : Ss) (hs : s.Le) (p q : Int) (et : List (List AE.AV)) (h0 : stateC w s ≠ 0) : AE.ACallG GG Tryz.prog 9 [] [.a w.c, .a s.c, .v (.int .i64 p), .v (.int .i64 q), .l 2 et] [] (.b true) := by
  obtain ⟨e, he⟩ : ∃ e, e = stateC w s := ⟨_, rfl⟩
  rw [← he] at h0
  have kE := doneInBad_ok emptyW emptyW_le Ss.nil nil_le 0 0 4 empty_C.symm (by decide)
  rw [emptyW_c, Ss.nil_c] at kE
  have k1 := doneOffBad_ok w hw s hs p q e he h0
  have k2 := doneInBad_ok w hw s hs p q e he h0
  have k3 := doneBestBad_ok w hw s hs p e he h0
  have k4 := doneAllBad_ok w hw s hs et e he h0
  have k5 := refState_ok w hw s hs e he
  clear he hw hs
  obtain ⟨arms, walls, parts, slots, gates, walk⟩ := w
  obtain ⟨tick, xs, fs, ps, os⟩ := s
  obtain ⟨ea, hea⟩ : ∃ es, es = lsAv Ar.c arms := ⟨_, rfl⟩
  obtain ⟨ew, hew⟩ : ∃ es, es = lsAv wallC walls := ⟨_, rfl⟩
  obtain ⟨ep, hep⟩ : ∃ es, es = lsAv Pt.c parts := ⟨_, rfl⟩
  obtain ⟨es, hes⟩ : ∃ es, es = lsAv Sl.c slots := ⟨_, rfl⟩
  obtain ⟨eg, heg⟩ : ∃ es, es = lsAv Gt.c gates := ⟨_, rfl⟩
  obtain ⟨ex, hex⟩ : ∃ es, es = lsAv As.c xs := ⟨_, rfl⟩
  obtain ⟨ef, hef⟩ : ∃ es, es = lsAv Fr.c fs := ⟨_, rfl⟩
  obtain ⟨ev, hev⟩ : ∃ es, es = lsAv V2.c ps := ⟨_, rfl⟩
  obtain ⟨eo, heo⟩ : ∃ es, es = lsAv boolC os := ⟨_, rfl⟩
  simp only [Wk.c, Ss.c, ← hea, ← hew, ← hep, ← hes, ← heg, ← hex, ← hef, ← hev, ← heo] at k1 k2 k3 k4 k5 ⊢
  clear hea hew hep hes heg hex hef hev heo
  refine AE.ACallG.of_walk (fn := Tryz.f9) (c := bodyOf Tryz.f9) GG_stays tabOK Tryz.func9 rfl rfl mixed fun A hA X => ?_
  have c1 : A.cmp .neq 4 4 = false := by rw [AE.c_neq hA]; rfl
  have c2 : A.cmp .neq e 0 = true := by rw [AE.c_neq hA]; simpa using h0
  have c3 : A.cmp .eql e e = true := by rw [AE.c_eql hA]; exact decide_eq_true rfl
  have c4 : A.cmp .eql 0 0 = true := by rw [AE.c_eql hA]; rfl
  have c5 : A.bnot false = true := by rw [AE.c_not hA]; rfl
  have c6 := eq_self_A hA Q.nil
  have c6 : A.band (A.bcmp .eql false false) (A.band (A.scmp .eql ⟨⟨[]⟩⟩ ⟨⟨[]⟩⟩) (A.scmp .eql ⟨⟨[]⟩⟩ ⟨⟨[]⟩⟩)) = true := c6
  (repeat' (first | (refine X.g ?_; cbv) | refine X.splitT ?_ | refine X.splitF ?_ | refine X.sp (fun hc => ?_) (fun hc => ?_) | refine X.needT ?_ | refine X.callsGA [] kE ?_ | refine X.callsGA [] k1 ?_ | refine X.callsGA [] k2 ?_ | refine X.callsGA [] k3 ?_ | refine X.callsGA [] k4 ?_ | refine X.callsGA [] k5 ?_ | fail))
  all_goals (refine X.ret _ (X.done rfl ?_); cbv <;> (and_intros <;> first | exact c6 | rfl | trivial))
theorem doneSays_ok (w : Wk) (hw : w.Le) (s : Ss) (hs : s.Le) (hf : Fine20 w s) (p q : Int) (l : List Wt) (hl : l.length < 2 ^ 40) (et : List (List AE.AV)) (het : et = lsAv Wt.c l) : AE.ACallG GG Tryz.prog 9 [] [.a w.c, .a s.c, .v (.int .i64 p), .v (.int .i64 q), .l 2 et] [] (.b true) := by
  by_cases h0 : stateC w s = 0
  rotate_left
  · exact doneSaysBad_ok w hw s hs p q et h0
  have kE := doneInBad_ok emptyW emptyW_le Ss.nil nil_le 0 0 4 empty_C.symm (by decide)
  rw [emptyW_c, Ss.nil_c] at kE
  have hpl := state_parts h0
  obtain ⟨e1, he1⟩ : ∃ e, e = doneI (stateC w s) p w.parts.length q w.slots.length := ⟨_, rfl⟩
  obtain ⟨off, hoff⟩ : ∃ x, x = if e1 ≠ 0 then Q.nil else Q.of (offR (frAt s p) (slotAt w q).frame (partAt w p).shape) := ⟨_, rfl⟩
  obtain ⟨inr, hinr⟩ : ∃ x, x = if e1 ≠ 0 then false else inB w s p q := ⟨_, rfl⟩
  obtain ⟨ok, hok⟩ : ∃ f, f = wOK w := ⟨_, rfl⟩
  obtain ⟨f, hff⟩ : ∃ f, f = fun x : Wt => inB w s x.part x.slot := ⟨_, rfl⟩
  obtain ⟨ar, ae, hre⟩ : ∃ r e, (r, e) = allE ok f true l := ⟨_, _, rfl⟩
  have k1 := doneOff_ok w hw s hs hf.frames p q e1 he1 (hf.hz he1) hpl off hoff
  have k2 := doneIn_ok w hw s hs hf.frames p q e1 he1 (hf.hz he1) hpl inr hinr
  have k4 := doneAll_ok w hw s hs hf h0 l hl et het ar ae (by rw [← hok, ← hff]; exact hre)
  have k5 := refState_ok w hw s hs 0 h0.symm
  have k6 : ∀ a b r, r = ok ⟨a, b⟩ → AE.ACallG GG Tryz.prog 57 [] [.v (.int .i64 a), .v (.int .i64 b), .ip w.c] [] (.b r) := fun a b r hr => says2_ok w a b r (by rw [hr, hok])
  have k7 : ∀ a b r, ok ⟨a, b⟩ = true → r = f ⟨a, b⟩ → AE.ACallG GG Tryz.prog 53 [] [.v (.int .i64 a), .v (.int .i64 b), .ip s.c, .ip w.c] [] (.b r) := fun a b r hk hr => says1_ok w hw s hs hf h0 a b (by rw [← hok]; exact hk) r (by rw [hr, hff])
  obtain ⟨of_, hof⟩ : ∃ g : Nat → Rat, ∀ k : Nat, g k = offR (frAt s p) (slotAt w (k : Int)).frame (partAt w p).shape := ⟨_, fun _ => rfl⟩
  have k8 : 0 ≤ p → p < (w.parts.length : Int) → ∀ (z : Int) (j : Nat), z = j → j < w.slots.length → ∀ r, r = Q.of (of_ j) → AE.ACallG GG Tryz.prog 56 [] [.a w.c, .a s.c, .v (.int .i64 p), .v (.int .i64 z)] [] (.a r.c) := fun i1 i2 z j hz hj r hr => by
    obtain ⟨i, hi⟩ : ∃ i : Nat, p = i := ⟨p.toNat, by omega⟩
    have hgp : w.parts[i]? = some (partAt w p) := by rw [partAt, hi, Int.toNat_natCast]; exact getD_some (by omega) _
    have hgs : w.slots[j]? = some (slotAt w z) := by rw [slotAt, hz, Int.toNat_natCast]; exact getD_some (by omega) _
    have hgf : s.parts[i]? = some (frAt s p) := by rw [frAt, hi, Int.toNat_natCast]; exact getD_some (by omega) _
    exact refOff_ok w s p z i j hi hz _ _ _ hgp hgs hgf (hf.frames _ (List.mem_of_getElem? hgf)) (hf.parts _ (List.mem_of_getElem? hgp)) (hf.slots _ (List.mem_of_getElem? hgs)) (hw.parts _ (List.mem_of_getElem? hgp)).2.2.1 r (by rw [hr, hof, hz])
  have hsz : 0 ≤ p → p < (w.parts.length : Int) → ∀ j : Nat, j < w.slots.length → rs (of_ j) ≤ 2 ^ 30 := fun i1 i2 j hj => by
    have hgp : w.parts[p.toNat]? = some (partAt w p) := getD_some (by omega) _
    have hgs : w.slots[j]? = some (slotAt w (j : Int)) := by rw [slotAt, Int.toNat_natCast]; exact getD_some (by omega) _
    have hgf : s.parts[p.toNat]? = some (frAt s p) := getD_some (by omega) _
    have := offR_rs (frAt s p) (slotAt w (j : Int)).frame (n := 2 ^ 20) (hf.frames _ (List.mem_of_getElem? hgf)) (hf.slots _ (List.mem_of_getElem? hgs)) (partAt w p).shape 0 (hf.parts _ (List.mem_of_getElem? hgp)) (by have := rs0; omega)
    rw [hof]
    show rs ((partAt w p).shape.foldl (offStep (frAt s p) (slotAt w (j : Int)).frame) 0) ≤ _
    omega
  obtain ⟨bi, bq, be, kB, hB1, hB2, hB3⟩ : ∃ (bi : Int) (bq : Q) (be : Int), (AE.ACallG GG Tryz.prog 23 [] [.a w.c, .a s.c, .v (.int .i64 p)] [] (.t [.v (.int .i64 bi), .a bq.c, .v (.int .i64 be)])) ∧ ((p < 0 ∨ (w.parts.length : Int) ≤ p) → be = 1) ∧ (0 ≤ p → p < (w.parts.length : Int) → w.slots.length = 0 → be = 4 ∧ bi = 0) ∧
      (0 ≤ p → p < (w.parts.length : Int) → 0 < w.slots.length → be = 0 ∧ ∃ b : Nat, b < w.slots.length ∧ bi = b ∧ bq = Q.of (of_ b) ∧ (∀ k : Nat, k < w.slots.length → of_ b ≤ of_ k) ∧ ∀ k : Nat, k < w.slots.length → of_ k = of_ b → b ≤ k) := by
    by_cases i1 : p < 0 ∨ (w.parts.length : Int) ≤ p
    · exact ⟨0, Q.nil, 1, doneBestArg_ok w hw s hs p h0 i1, fun _ => rfl, fun a b => by omega, fun a b => by omega⟩
    · by_cases i2 : w.slots.length = 0
      · exact ⟨0, Q.nil, 4, doneBestNone_ok w hw s hs p h0 (by omega) (by omega) (List.length_eq_zero_iff.1 i2), fun a => absurd a i1, fun _ _ _ => ⟨rfl, rfl⟩, fun _ _ a => by omega⟩
      · obtain ⟨b, b1, b2, b3, b4, b5⟩ := best_spec w s p w.slots.length (by omega)
        refine ⟨(bestAt w s p w.slots.length).1, Q.of (bestAt w s p w.slots.length).2, 0, doneBest_ok w hw s hs hf.frames p h0 (by omega) (by omega) (fun h => i2 (by rw [h]; rfl)) (hf.parts _ (List.mem_of_getElem? (i := p.toNat) (getD_some (by omega) _))) hf.slots hpl _ _ rfl rfl, fun a => absurd a i1, fun _ _ a => absurd a i2, fun _ _ _ => ⟨rfl, b, b1, b2, by rw [b3, hof], fun k hk => ?_, fun k hk he => ?_⟩⟩
        · rw [hof, hof]; exact b4 k hk
        · rw [hof, hof] at he; exact b5 k hk he
  have hokd : ok ⟨p, q⟩ = decide (0 ≤ p ∧ p < w.parts.length ∧ 0 ≤ q ∧ q < w.slots.length) := by rw [hok]; rfl
  have he2 : e1 = if ok ⟨p, q⟩ then 0 else 1 := by rw [he1, hok]; exact wOK_I h0 ⟨p, q⟩
  have hoffz := hoff
  have hoff1 : ok ⟨p, q⟩ = true → off = Q.of (of_ q.toNat) := fun h => by
    have hq : ((q.toNat : Nat) : Int) = q := by rw [h] at hokd; have := of_decide_eq_true hokd.symm; omega
    rw [hoffz, he2, h, hof, hq]; rfl
  have hoff0 : ok ⟨p, q⟩ = false → off = Q.nil := fun h => by rw [hoffz, he2, h]; rfl
  have hinr1 : ok ⟨p, q⟩ = true → inr = f ⟨p, q⟩ := fun h => by rw [hinr, he2, h, hff]; rfl
  have hinr0 : ok ⟨p, q⟩ = false → inr = false := fun h => by rw [hinr, he2, h]; rfl
  obtain ⟨np, hnp⟩ : ∃ n : Int, n = (w.parts.length : Int) := ⟨_, rfl⟩
  obtain ⟨ns, hns⟩ : ∃ n : Int, n = (w.slots.length : Int) := ⟨_, rfl⟩
  simp only [← hnp] at k8 hsz hB1 hB2 hB3 hokd
  simp only [← hns] at hokd
  have hnsl : w.slots.length < 2 ^ 40 := hw.nslots
  clear hinr hok hff hf hw hs h0 hpl hof he1 hoffz hoff
  obtain ⟨arms, walls, parts, slots, gates, walk⟩ := w
  obtain ⟨tick, xs, fs, ps, os⟩ := s
  simp only at k8 hsz hB1 hB2 hB3 hokd hnp hns hnsl
  obtain ⟨ea, hea⟩ : ∃ es, es = lsAv Ar.c arms := ⟨_, rfl⟩
  obtain ⟨ew, hew⟩ : ∃ es, es = lsAv wallC walls := ⟨_, rfl⟩
  obtain ⟨ep, hep⟩ : ∃ es, es = lsAv Pt.c parts := ⟨_, rfl⟩
  obtain ⟨es, hes⟩ : ∃ es, es = lsAv Sl.c slots := ⟨_, rfl⟩
  obtain ⟨eg, heg⟩ : ∃ es, es = lsAv Gt.c gates := ⟨_, rfl⟩
  obtain ⟨ex, hex⟩ : ∃ es, es = lsAv As.c xs := ⟨_, rfl⟩
  obtain ⟨ef, hef⟩ : ∃ es, es = lsAv Fr.c fs := ⟨_, rfl⟩
  obtain ⟨ev, hev⟩ : ∃ es, es = lsAv V2.c ps := ⟨_, rfl⟩
  obtain ⟨eo, heo⟩ : ∃ es, es = lsAv boolC os := ⟨_, rfl⟩
  simp only [Wk.c, Ss.c, ← hea, ← hew, ← hep, ← hes, ← heg, ← hex, ← hef, ← hev, ← heo] at k1 k2 k4 k5 k6 k7 k8 kB ⊢
  clear hea hew heg hex hef hev heo
  obtain ⟨bb, hbb⟩ : ∃ g : Nat → Bool, ∀ i, g i = (l.take i).all f := ⟨_, fun _ => rfl⟩
  have hb0 : true = bb 0 := by rw [hbb]; rfl
  refine AE.ACallG.of_walk (fn := Tryz.f9) (c := bodyOf Tryz.f9) GG_stays tabOK Tryz.func9 rfl rfl mixed fun A hA X => ?_
  have l1 : A.llen ep = np := by rw [hnp, llen hA, hep, lsAv_len]
  have l2 : A.llen es = ns := by rw [hns, llen hA, hes, lsAv_len]
  have c1 : A.cmp .neq 4 4 = false := by rw [AE.c_neq hA]; rfl
  have c2 : A.cmp .neq 0 0 = false := by rw [AE.c_neq hA]; rfl
  have c3 : A.cmp .eql 1 1 = true := by rw [AE.c_eql hA]; rfl
  have c4 : A.cmp .eql 0 0 = true := by rw [AE.c_eql hA]; rfl
  have c4b : A.cmp .eql 4 4 = true := by rw [AE.c_eql hA]; rfl
  have n1 : A.bnot true = false := by rw [AE.c_not hA]; rfl
  have n2 : A.bnot false = true := by rw [AE.c_not hA]; rfl
  have cb : ∀ b, A.bcmp .neq b b = false := fun b => by rw [AE.c_bne hA]; simp
  have cb2 : ∀ b, A.bcmp .eql b b = true := fun b => by rw [AE.c_beq hA]; cases b <;> rfl
  have ce : ∀ z, A.cmp .neq z z = false := fun z => by rw [AE.c_neq hA]; simp
  have cz : A.band (A.bcmp .eql false false) (A.band (A.scmp .eql ⟨⟨[]⟩⟩ ⟨⟨[]⟩⟩) (A.scmp .eql ⟨⟨[]⟩⟩ ⟨⟨[]⟩⟩)) = true := eq_self_A hA Q.nil
  (refine X.g ?_; cbv)
  refine X.callsGA [] kE ?_
  refine X.frzB 0 _ _ (Nat.zero_le _) (X.frzB 1 _ _ (Nat.zero_le _) ?_)
  clear kE
  (repeat' (first | (refine X.g ?_; cbv) | refine X.splitT ?_ | refine X.splitF ?_ | refine X.sp (fun hc => ?_) (fun hc => ?_) | refine X.needT ?_ | refine X.callsGA [] k1 ?_ | refine X.callsGA [] k2 ?_ | refine X.callsGA [] kB ?_ | refine X.callsGA [] k4 ?_ | refine X.callsGA [] k5 ?_ | fail))
  refine joins0 X [(25, .b ar), (22, .v (.int .i64 ae))] ?_ (fun BJ hJ => ?_)
  rotate_left
  · clear k1 k2 kB k4 k5 k8 hsz hB1 hB2 hB3 hoff1 hoff0 hinr1 hinr0
    refine rangeL0 X hA het (by omega) (fun i => (ar, ae) = allE ok f (bb i) (l.drop i)) (fun z i => [(118, .v (.int .i64 z)), (25, .b (bb i)), (22, .v (.int .i64 0))]) (by rw [← hb0]; exact hre) ?_ (fun i z y hz hy hye c9 hI B hB => ?_) (fun z c9 hI B => ?_)
    · clear hJ; (cbv <;> (and_intros <;> first | exact hb0 | rfl | trivial))
    · rw [allE_drop hy] at hI
      obtain ⟨yp, yq⟩ := y
      obtain ⟨okb, hokb⟩ : ∃ b, b = ok ⟨yp, yq⟩ := ⟨_, rfl⟩
      obtain ⟨fb, hfb⟩ : ∃ b, b = f ⟨yp, yq⟩ := ⟨_, rfl⟩
      have m1 := k6 yp yq okb hokb
      have hsn : bb (i + 1) = (bb i && fb) := by rw [hbb, hbb, all_snoc hy, hfb]
      rw [← hfb, ← hsn, ← hokb] at hI
      simp only [Wt.c] at hye
      cases okb
      · have e5 : (ar, ae) = (false, 1) := hI
        cases e5
        clear hB k6 k7
        (repeat' (first | (refine X.g ?_; cbv) | refine X.splitT ?_ | refine X.splitF ?_ | refine X.sp (fun hc => ?_) (fun hc => ?_) | refine X.needT ?_ | refine X.idx _ _ _ _ _ _ _ _ hye hz ?_ | refine X.callsGA [] m1 ?_ | fail))
        all_goals (refine hJ _ ?_; clear hJ; (cbv <;> (and_intros <;> first | rfl | trivial)))
      · have m2 := k7 yp yq fb hokb.symm hfb
        have hI' : (ar, ae) = allE ok f (bb (i + 1)) (l.drop (i + 1)) := hI
        obtain ⟨b0, hb0'⟩ : ∃ b, b = bb i := ⟨_, rfl⟩
        rw [← hb0'] at hsn ⊢
        clear k6 k7 hJ
        cases b0
        · have e6 : false = bb (i + 1) := by rw [hsn]; rfl
          (repeat' (first | (refine X.g ?_; cbv) | refine X.splitT ?_ | refine X.splitF ?_ | refine X.sp (fun hc => ?_) (fun hc => ?_) | refine X.needT ?_ | refine X.idx _ _ _ _ _ _ _ _ hye hz ?_ | refine X.callsGA [] m1 ?_ | refine X.callsGA [] m2 ?_ | fail))
          all_goals (refine hB hI' _ ?_; clear hB; (cbv <;> (and_intros <;> first | exact e6 | rfl | trivial)))
        · have e6 : fb = bb (i + 1) := by rw [hsn]; rfl
          (repeat' (first | (refine X.g ?_; cbv) | refine X.splitT ?_ | refine X.splitF ?_ | refine X.sp (fun hc => ?_) (fun hc => ?_) | refine X.needT ?_ | refine X.idx _ _ _ _ _ _ _ _ hye hz ?_ | refine X.callsGA [] m1 ?_ | refine X.callsGA [] m2 ?_ | fail))
          all_goals (refine hB hI' _ ?_; clear hB; (cbv <;> (and_intros <;> first | exact e6 | rfl | trivial)))
    · rw [List.drop_length, allE] at hI
      have g1 : bb l.length = ar := (congrArg Prod.fst hI).symm
      have g2 : 0 = ae := (congrArg Prod.snd hI).symm
      clear k6 k7
      (repeat' (first | (refine X.g ?_; cbv) | refine X.splitT ?_ | refine X.splitF ?_ | refine X.sp (fun hc => ?_) (fun hc => ?_) | refine X.needT ?_ | fail))
      all_goals (refine hJ _ ?_; clear hJ; (cbv <;> (and_intros <;> first | exact g1 | exact g2 | rfl | trivial)))
  clear k1 k2 kB k4 k5 het hre hbb hb0 hl
  have hns2 : ns = (slots.length : Int) := hns
  have c5 := ce ae
  have c6 := cb ar
  by_cases i1 : 0 ≤ p
  rotate_left
  · have d1 : A.cmp .lss p 0 = true := by rw [AE.c_lss hA]; exact decide_eq_true (by omega)
    have x1 : e1 = 1 := by rw [he2, hokd, decide_eq_false (fun h => i1 h.1)]; rfl
    have x2 : be = 1 := hB1 (Or.inl (by omega))
    subst x1; subst x2
    (repeat' (first | (refine X.g ?_; cbv) | refine X.splitT ?_ | refine X.splitF ?_ | refine X.sp (fun hc => ?_) (fun hc => ?_) | refine X.needT ?_ | fail))
    all_goals (refine X.ret _ (X.done rfl ?_); cbv <;> (and_intros <;> first | exact c3 | rfl | trivial))
  have d1 : A.cmp .lss p 0 = false := by rw [AE.c_lss hA]; exact decide_eq_false (by omega)
  by_cases i2 : p < np
  rotate_left
  · have d2 : A.cmp .geq p (A.llen ep) = true := by rw [AE.c_geq hA, l1]; exact decide_eq_true (by omega)
    have x1 : e1 = 1 := by rw [he2, hokd, decide_eq_false (fun h => i2 h.2.1)]; rfl
    have x2 : be = 1 := hB1 (Or.inr (by omega))
    subst x1; subst x2
    (repeat' (first | (refine X.g ?_; cbv) | refine X.splitT ?_ | refine X.splitF ?_ | refine X.sp (fun hc => ?_) (fun hc => ?_) | refine X.needT ?_ | fail))
    all_goals (refine X.ret _ (X.done rfl ?_); cbv <;> (and_intros <;> first | exact c3 | rfl | trivial))
  have d2 : A.cmp .geq p (A.llen ep) = false := by rw [AE.c_geq hA, l1]; exact decide_eq_false (by omega)
  by_cases i3 : slots.length = 0
  · have d3 : A.cmp .eql (A.llen es) 0 = true := by rw [AE.c_eql hA, l2]; exact decide_eq_true (by omega)
    have x1 : e1 = 1 := by rw [he2, hokd, decide_eq_false (fun h => by omega)]; rfl
    obtain ⟨x2, x3⟩ := hB2 i1 i2 i3
    subst x1; subst x2; subst x3
    (repeat' (first | (refine X.g ?_; cbv) | refine X.splitT ?_ | refine X.splitF ?_ | refine X.sp (fun hc => ?_) (fun hc => ?_) | refine X.needT ?_ | fail))
    all_goals (refine X.ret _ (X.done rfl ?_); cbv <;> (and_intros <;> first | exact c4 | rfl | trivial))
  have d3 : A.cmp .eql (A.llen es) 0 = false := by rw [AE.c_eql hA, l2]; exact decide_eq_false (by omega)
  obtain ⟨x2, b, hb, x3, hbq, hmin, hfst⟩ := hB3 i1 i2 (by omega)
  have x3 : bi = (b : Int) := x3
  have d4 : A.cmp .lss bi 0 = false := by rw [AE.c_lss hA]; exact decide_eq_false (by omega)
  have d5 : A.cmp .geq bi (A.llen es) = false := by rw [AE.c_geq hA, l2]; exact decide_eq_false (by omega)
  have d6 : A.bnot (A.band (A.bcmp .eql bq.1 bq.1) (A.band (A.scmp .eql bq.2 bq.2) (A.scmp .eql bq.3 bq.3))) = false := by rw [eq_self_A hA, n1]
  have k9 := k8 i1 i2 bi b x3 hb bq hbq
  have k8 := k8 i1 i2
  have hsz := hsz i1 i2
  clear hB1 hB2 hB3
  subst x2
  (repeat' (first | (refine X.g ?_; cbv) | refine X.splitT ?_ | refine X.splitF ?_ | refine X.sp (fun hc => ?_) (fun hc => ?_) | refine X.needT ?_ | refine X.drawX _ _ _ (by kernel_rfl) (X.frzB 2 _ _ (Nat.zero_le _) (X.frzB 3 _ _ (Nat.zero_le _) ?_)) | refine X.fork _ _ ?_ ?_ | refine X.callsGA [] k9 ?_ | fail))
  refine rangeL0 X hA hes (by omega) (fun _ => True) (fun z _ => [(209, .v (.int .i64 z))]) trivial ?_ (fun k z y hz hy hye c9 hI B hB => ?_) (fun z c9 hI B => ?_)
  · (cbv <;> (and_intros <;> first | rfl | trivial))
  · have hk : k < slots.length := (List.getElem?_eq_some_iff.1 hy).1
    obtain ⟨o, ho⟩ : ∃ q, q = Q.of (of_ k) := ⟨_, rfl⟩
    have m1 := k8 z k hz hk o ho
    obtain ⟨c, hc⟩ : ∃ c, c = cmpR o.v bq.v := ⟨_, rfl⟩
    have m2 := ratCmp_ok o bq (by rw [ho, sz_of]; have := hsz k hk; omega) (by rw [hbq, sz_of]; have := hsz b hb; omega) c hc
    have hge : of_ b ≤ of_ k := hmin k hk
    rw [ho, hbq, Q.v_of, Q.v_of] at hc
    have hc0 : 0 ≤ c := by rw [hc]; exact cmpR_ge.2 hge
    have g1 : A.cmp .lss c 0 = false := by rw [AE.c_lss hA]; exact decide_eq_false (by omega)
    clear k8 k9 k6 k7
    by_cases h0 : c = 0
    · have g2 : A.cmp .eql c 0 = true := by rw [AE.c_eql hA]; exact decide_eq_true h0
      have hle : of_ k ≤ of_ b := cmpR_le.1 (by omega)
      have g3 : A.cmp .lss z bi = false := by
        have hbk := hfst k hk (Rat.le_antisymm hle hge)
        have x4 : bi = (b : Int) := x3
        have x5 : z = (k : Int) := hz
        rw [AE.c_lss hA]; exact decide_eq_false (by omega)
      (repeat' (first | (refine X.g ?_; cbv) | refine X.splitT ?_ | refine X.splitF ?_ | refine X.sp (fun hc => ?_) (fun hc => ?_) | refine X.needT ?_ | refine X.drawX _ _ _ (by kernel_rfl) (X.frzB 2 _ _ (Nat.zero_le _) (X.frzB 3 _ _ (Nat.zero_le _) ?_)) | refine X.fork _ _ ?_ ?_ | refine X.callsGA [] m1 ?_ | refine X.callsGA [] m2 ?_ | fail))
      all_goals (refine hB trivial _ ?_; clear hB; (cbv <;> (and_intros <;> first | rfl | trivial)))
    · have g2 : A.cmp .eql c 0 = false := by rw [AE.c_eql hA]; exact decide_eq_false h0
      (repeat' (first | (refine X.g ?_; cbv) | refine X.splitT ?_ | refine X.splitF ?_ | refine X.sp (fun hc => ?_) (fun hc => ?_) | refine X.needT ?_ | refine X.drawX _ _ _ (by kernel_rfl) (X.frzB 2 _ _ (Nat.zero_le _) (X.frzB 3 _ _ (Nat.zero_le _) ?_)) | refine X.fork _ _ ?_ ?_ | refine X.callsGA [] m1 ?_ | refine X.callsGA [] m2 ?_ | fail))
      all_goals (refine hB trivial _ ?_; clear hB; (cbv <;> (and_intros <;> first | rfl | trivial)))
  · obtain ⟨okb, hokb⟩ : ∃ b, b = ok ⟨p, q⟩ := ⟨_, rfl⟩
    have m1 := k6 p q okb hokb
    rw [← hokb] at hokd he2
    cases okb
    · have x1 : e1 = 1 := he2
      have y1 := hoff0 hokb.symm
      have y2 := hinr0 hokb.symm
      subst x1; subst y1; subst y2
      clear k6 k7 k8 k9
      (repeat' (first | (refine X.g ?_; cbv) | refine X.splitT ?_ | refine X.splitF ?_ | refine X.sp (fun hc => ?_) (fun hc => ?_) | refine X.callsGA [] m1 ?_ | refine X.needT ?_ | fail))
      all_goals (refine X.ret _ (X.done rfl ?_); cbv <;> (and_intros <;> first | exact n2 | rfl | trivial))
    · have x1 : e1 = 0 := he2
      have y1 := hoff1 hokb.symm
      have y2 := hinr1 hokb.symm
      obtain ⟨_, _, i4, i5⟩ := of_decide_eq_true hokd.symm
      have m2 := k7 p q inr hokb.symm y2
      have hns3 : ns = (slots.length : Int) := hns
      obtain ⟨jq, hjq⟩ : ∃ j : Nat, q = j := ⟨q.toNat, (Int.toNat_of_nonneg i4).symm⟩
      have m3 := k8 q jq hjq (Int.ofNat_lt.1 (by rw [← hjq, ← hns3]; exact i5)) off (by rw [y1, hjq]; rfl)
      have d8 := eq_self_A hA off
      have d9 := cb2 inr
      subst x1
      clear k6 k7 k8 k9
      (repeat' (first | (refine X.g ?_; cbv) | refine X.splitT ?_ | refine X.splitF ?_ | refine X.sp (fun hc => ?_) (fun hc => ?_) | refine X.needT ?_ | refine X.drawX _ _ _ (by kernel_rfl) (X.frzB 2 _ _ (Nat.zero_le _) (X.frzB 3 _ _ (Nat.zero_le _) ?_)) | refine X.fork _ _ ?_ ?_ | refine X.callsGA [] m1 ?_ | refine X.callsGA [] m2 ?_ | refine X.callsGA [] m3 ?_ | fail))
      all_goals (refine X.ret _ (X.done rfl ?_); cbv <;> (and_intros <;> first | exact d9 | rfl | trivial))
end Go.Proofs.YthadehkggddgoaaGreatDoor
end
section
set_option linter.unusedVariables false
set_option linter.unusedSectionVars false
set_option linter.unusedSimpArgs false
namespace Go.Proofs.YthadehkggddgoaaGreatDoor
open Go Go.Num
section
variable {H : Type} {enc : TypeId × Value → H} {W : World} {E : AE.Env} {bulk : DataW H → Nat}
theorem openWt (hb : AE.BulkOK bulk) : AE.Opens enc Tryz.prog W E bulk 118 Wt.c (fun _ => 1) :=
  (AE.Opens.struct hb Tryz.underlying118 (by kernel_rfl)
    (.cons (.int hb Tryz.underlying3) (sz := 1) (by kernel_rfl) rfl (.cons (.int hb Tryz.underlying3) (sz := 1) (by kernel_rfl) rfl .nil))).to
    (fun p => (⟨p.1, p.2.1⟩ : Wt)) (fun _ => by simp [Wt.c]) (fun _ => by omega)
variable (hE : ∀ b o, W.heap[b]? = some o → E.h b = some o)
include hE
theorem openWts (hb : AE.BulkOK bulk) : AE.Opens enc Tryz.prog W E bulk 112 (fun l : List Wt => [.l 2 (lsAv Wt.c l)]) (lw fun _ => 1) :=
  openL hE hb (sz := 2) (by decide) Tryz.underlying112 (by kernel_rfl) (openWt hb)
end
theorem wants_len (l : List Wt) {n : Nat} (h : lw (fun _ : Wt => 1) l ≤ n) (hn : n ≤ 2 ^ 28) : l.length < 2 ^ 40 := by
  have := lw_len (ρ := fun _ : Wt => 1) (fun _ => Nat.le_refl _) l
  omega
theorem fine20_wt (w : Wk) (s : Ss) (h1 : w.wt ≤ 1048576) (h2 : s.wt ≤ 1048576) : Fine20 w s := by
  obtain ⟨_, _, w3, w4, _, _⟩ := w.parts_wt h1
  obtain ⟨_, s2, _, _⟩ := s.parts_wt h2
  refine ⟨fun p hp c hc => ?_, fun q hq => ?_, fun f hf => ?_⟩
  · have h5 := lw_mem (ρ := Pt.wt) hp
    simp only [Pt.wt] at h5
    have h6 := lw_mem (ρ := V2.wt) hc
    have := c.sz_wt
    omega
  · have h5 := lw_mem (ρ := Sl.wt) hq
    simp only [Sl.wt] at h5
    exact q.frame.le_wt (by omega)
  · have h5 := lw_mem (ρ := Fr.wt) hf
    exact f.le_wt (by omega)
end Go.Proofs.YthadehkggddgoaaGreatDoor
end
