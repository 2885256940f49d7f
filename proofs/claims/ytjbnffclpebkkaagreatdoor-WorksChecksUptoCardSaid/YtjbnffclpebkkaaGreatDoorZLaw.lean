/- Contract: the law WorksChecks. Contract: the law WorksChecks. -/
import Derived.Test.YtjbnffclpebkkaaGreatDoorZPlain
import Derived.Test.YtjbnffclpebkkaaGreatDoorZFirst
import Derived.Test.YtjbnffclpebkkaaGreatDoorZIdx
import Derived.Test.YtjbnffclpebkkaaGreatDoorZRefB
import Derived.Test.YtjbnffclpebkkaaGreatDoorZRecB
import Derived.Test.YtjbnffclpebkkaaGreatDoorZCopy
section
set_option linter.unusedVariables false
set_option linter.unusedSimpArgs false
namespace Go.Proofs.YtjbnffclpebkkaaGreatDoor
open Go Go.Num
set_option maxRecDepth 100000 in
set_option maxHeartbeats 0 in
theorem plain_ok (w : Wk) (s : Ss) (hw : w = works0) (hs : s = firstS works0) : AE.ACallG GG Tryz.prog 49 [] [] [] (.t [.a w.c, .a s.c]) := by
  refine AE.ACallG.of_walk (fn := Tryz.f49) (c := bodyOf Tryz.f49) GG_stays tabOK Tryz.func49 rfl rfl mixed fun A hA X => ?_
  have k1 := makeWorks0_ok w hw
  have k2 := refFirst_ok w (by
    rw [hw]; intro a ha
    have h : a = arm0 := by simpa [works0] using ha
    subst h
    rw [arm0_eq]
    refine ⟨by decide, fun k hk => ?_⟩
    have h2 : k = link0 := by simpa using hk
    subst h2
    obtain ⟨_, h3, h4, _⟩ := link0_le
    exact ⟨by omega, by omega⟩) (by rw [hw]; exact ⟨by decide, by decide, by decide, by decide⟩) s (by rw [hs, hw])
  (repeat' (first | (refine X.go 500 _ _ ?_; cbv) | (first | refine X.splitT ?_ | refine X.splitF ?_ | refine X.split _ _ _ _ _ (fun hc => ?_) (fun hc => ?_)) | refine X.need _ _ _ trivial ?_ | refine X.callsA [] k1 ?_ | refine X.callsGA [] k2 ?_ | refine X.drawX _ _ _ (by kernel_rfl) (X.frzB 2 _ _ (Nat.zero_le _) ?_) | fail))
  all_goals (refine X.ret _ (X.done rfl ?_); cbv <;> ((repeat' apply And.intro) <;> first | rfl | trivial))
set_option maxRecDepth 100000 in
set_option maxHeartbeats 0 in
theorem worksBegun_ok : AE.ACallG GG Tryz.prog 9 [] [] [] (.b true) := by
  refine AE.ACallG.of_walk (fn := Tryz.f9) (c := bodyOf Tryz.f9) GG_stays tabOK Tryz.func9 rfl rfl mixed fun A hA X => ?_
  obtain ⟨w, hw⟩ : ∃ w, w = works0 := ⟨_, rfl⟩
  obtain ⟨s, hs⟩ : ∃ s, s = firstS works0 := ⟨_, rfl⟩
  have k1 := plain_ok w s hw hs
  have k2 := worksCheck_ok w (by rw [hw]; exact works0_le) 0 (by rw [hw]; exact works0_ok.symm)
  have k3 := worksCheck_ok emptyW emptyW_le 4 emptyW_ok.symm
  rw [show emptyW.c = [.l 12 [], .l 1 [], .l 12 [], .l 14 [], .l 13 [], .b false, .v (.string ⟨⟨[]⟩⟩), .v (.string ⟨⟨[]⟩⟩)] by simp only [Wk.c, emptyW, lsAv_nil]; rfl] at k3
  have k4 := worksName_ok ⟨⟨[98, 111, 108, 116]⟩⟩ (by decide) true (by decide +kernel)
  have k5 := worksName_ok ⟨⟨[66]⟩⟩ (by decide) false (by decide +kernel)
  have c1 : A.cmp .eql 0 0 = true := by rw [AE.c_eql hA]; rfl
  have c2 : A.cmp .eql 4 4 = true := by rw [AE.c_eql hA]; rfl
  have c3 : A.bnot false = true := by rw [AE.c_not hA]; rfl
  (repeat' (first | (refine X.go 500 _ _ ?_; cbv) | (first | refine X.splitT ?_ | refine X.splitF ?_ | refine X.split _ _ _ _ _ (fun hc => ?_) (fun hc => ?_)) | refine X.need _ _ _ trivial ?_ | refine X.callsA [] k1 ?_ | refine X.callsGA [] k1 ?_ | refine X.callsGA [] k2 ?_ | refine X.callsGA [] k3 ?_ | refine X.callsGA [] k4 ?_ | refine X.callsGA [] k5 ?_ | refine X.drawX _ _ _ (by kernel_rfl) (X.frzB 2 _ _ (Nat.zero_le _) ?_) | refine X.fork _ _ ?_ ?_ | fail))
  all_goals (refine X.ret _ (X.done rfl ?_); cbv <;> ((repeat' apply And.intro) <;> first | rfl | trivial))
end Go.Proofs.YtjbnffclpebkkaaGreatDoor
end
section
set_option linter.unusedVariables false
set_option linter.unusedSimpArgs false
namespace Go.Proofs.YtjbnffclpebkkaaGreatDoor
open Go Go.Num
theorem idxB_ge {α : Type} (p : α → Bool) (l : List α) : -1 ≤ idxB p l := by
  rw [idxB]; split <;> omega
set_option maxRecDepth 100000 in
set_option maxHeartbeats 0 in
theorem same_ok (i : Int) (hi : -1 ≤ i) (r e : Int) (hr : r = (idxE i).1) (he : e = (idxE i).2) : AE.ACallG GG Tryz.prog 39 [] [.v (.int .i64 r), .v (.int .i64 e), .v (.int .i64 i)] [] (.b true) := by
  refine AE.ACallG.of_walk (fn := Tryz.f39) (c := bodyOf Tryz.f39) GG_stays tabOK Tryz.func39 rfl rfl mixed fun A hA X => ?_
  by_cases h : i < 0
  · have c1 : A.cmp .lss i 0 = true := by rw [AE.c_lss hA]; exact decide_eq_true h
    rw [idxE, if_pos h] at hr he
    subst hr he
    have c2 : A.cmp .eql 0 0 = true := by rw [AE.c_eql hA]; rfl
    have c3 : A.cmp .eql 16 16 = true := by rw [AE.c_eql hA]; rfl
    (repeat' (first | (refine X.go 500 _ _ ?_; cbv) | (first | refine X.splitT ?_ | refine X.splitF ?_ | refine X.split _ _ _ _ _ (fun hc => ?_) (fun hc => ?_)) | refine X.need _ _ _ trivial ?_ | fail))
    all_goals (refine X.ret _ (X.done rfl ?_); cbv <;> ((repeat' apply And.intro) <;> first | rfl | trivial))
  · have c1 : A.cmp .lss i 0 = false := by rw [AE.c_lss hA]; exact decide_eq_false h
    have c4 : A.cmp .geq i 0 = true := by rw [AE.c_geq hA]; exact decide_eq_true (by omega)
    rw [idxE, if_neg h] at hr he
    have c2 : A.cmp .eql r i = true := by rw [AE.c_eql hA, hr]; exact decide_eq_true rfl
    have c3 : A.cmp .eql e 0 = true := by rw [AE.c_eql hA, he]; rfl
    (repeat' (first | (refine X.go 500 _ _ ?_; cbv) | (first | refine X.splitT ?_ | refine X.splitF ?_ | refine X.split _ _ _ _ _ (fun hc => ?_) (fun hc => ?_)) | refine X.need _ _ _ trivial ?_ | fail))
    all_goals (refine X.ret _ (X.done rfl ?_); cbv <;> ((repeat' apply And.intro) <;> first | rfl | trivial))
def dyOf (w : Wk) : Dy := ⟨w, ⟨0, [], [], [], []⟩, [], [], [], 0⟩
theorem dyOf_low {w : Wk} (h : w.Low) : (dyOf w).Low := ⟨h, by simp [dyOf], by simp [dyOf], by simp [dyOf], by simp [dyOf]⟩
theorem dyOf_c (w : Wk) : (dyOf w).c = w.c ++ [.v (.int .i64 0), .l 4 [], .l 10 [], .l 6 [], .l 1 [], .l 1 [], .l 3 [], .l 1 [], .v (.int .i64 0)] := by
  simp only [dyOf, Dy.c, Ss.c, lsAv_nil]; simp
set_option maxRecDepth 100000 in
set_option maxHeartbeats 0 in
theorem worksChecks_ok (w : Wk) (f : Fr) (s : ByteArray) (h1 : w.Le) (h2 : w.Few) (h3 : w.Low) (h4 : f.le (2 ^ 28)) (h5 : s.size < 2 ^ 60) (h6 : (dyOf w).S.size < 2 ^ 60) : AE.ACallG GG Tryz.prog 8 [] [.a w.c, .a f.c, .v (.string s)] [] (.b true) := by
  obtain ⟨ia, ha⟩ : ∃ i, i = idxB (fun y => decide (y.name = s)) w.arms := ⟨_, rfl⟩
  obtain ⟨ip, hp⟩ : ∃ i, i = idxB (fun y => decide (y.name = s)) w.parts := ⟨_, rfl⟩
  obtain ⟨is_, hs⟩ : ∃ i, i = idxB (fun y => decide (y.name = s)) w.slots := ⟨_, rfl⟩
  obtain ⟨a1, ha1⟩ : ∃ i, i = (idxE ia).1 := ⟨_, rfl⟩
  obtain ⟨a2, ha2⟩ : ∃ i, i = (idxE ia).2 := ⟨_, rfl⟩
  obtain ⟨p1, hp1⟩ : ∃ i, i = (idxE ip).1 := ⟨_, rfl⟩
  obtain ⟨p2, hp2⟩ : ∃ i, i = (idxE ip).2 := ⟨_, rfl⟩
  obtain ⟨s1, hs1⟩ : ∃ i, i = (idxE is_).1 := ⟨_, rfl⟩
  obtain ⟨s2, hs2⟩ : ∃ i, i = (idxE is_).2 := ⟨_, rfl⟩
  obtain ⟨nm, hnm⟩ : ∃ b, b = decide (nameOK s) := ⟨_, rfl⟩
  obtain ⟨fr, hfr⟩ : ∃ b, b = frameB f := ⟨_, rfl⟩
  obtain ⟨ck, hck⟩ : ∃ b, b = worksC w := ⟨_, rfl⟩
  obtain ⟨rec, hrec⟩ : ∃ r, r = (dyOf w).S := ⟨_, rfl⟩
  obtain ⟨ea, hea⟩ : ∃ es, es = lsAv Ar.c w.arms := ⟨_, rfl⟩
  obtain ⟨ep, hep⟩ : ∃ es, es = lsAv Pt.c w.parts := ⟨_, rfl⟩
  obtain ⟨es, hes⟩ : ∃ es, es = lsAv Sl.c w.slots := ⟨_, rfl⟩
  obtain ⟨ew, hew⟩ : ∃ es, es = lsAv wallC w.walls := ⟨_, rfl⟩
  obtain ⟨eg, heg⟩ : ∃ es, es = lsAv Gt.c w.gates := ⟨_, rfl⟩
  have k1 := worksBegun_ok
  have k2 := worksName_ok s h5 nm hnm
  have k3 := refName_ok s h5 nm hnm
  have k4 := worksFrame_ok f h4 fr hfr
  have k5 := refFrame_ok f h4 fr hfr
  have k6 := worksCheck_ok w h1 ck hck
  have k7 := refWorks_ok w h1 ck hck
  have k8 := worksCopy_ok w h2
  have k9 := refRecord_ok (dyOf w) (dyOf_low h3) rec hrec (by rw [hrec]; exact h6)
  have k10 := askArm_ok w h3.arms s a1 a2 (by rw [ha1, ha]) (by rw [ha2, ha])
  have k11 := askPart_ok w h3.parts.1 s p1 p2 (by rw [hp1, hp]) (by rw [hp2, hp])
  have k12 := askSlot_ok w h3.slots s s1 s2 (by rw [hs1, hs]) (by rw [hs2, hs])
  have k13 := idxArmL_ok s w.arms h3.arms ea hea (fun y => decide (y.name = s)) (fun y _ b hb => nameLArm_ok y s b hb) ia ha
  have k14 := idxPartL_ok s w.parts h3.parts.1 ep hep (fun y => decide (y.name = s)) (fun y _ b hb => nameLPart_ok y s b hb) ip hp
  have k15 := idxSlotL_ok s w.slots h3.slots es hes (fun y => decide (y.name = s)) (fun y _ b hb => nameLSlot_ok y s b hb) is_ hs
  have k16 := same_ok ia (by rw [ha]; exact idxB_ge _ _) a1 a2 ha1 ha2
  have k17 := same_ok ip (by rw [hp]; exact idxB_ge _ _) p1 p2 hp1 hp2
  have k18 := same_ok is_ (by rw [hs]; exact idxB_ge _ _) s1 s2 hs1 hs2
  clear ha hp hs ha1 ha2 hp1 hp2 hs1 hs2 hnm hfr hck h1 h2 h3 h4 h5 h6
  rw [dyOf_c] at k9
  simp only [Wk.c, ← hea, ← hep, ← hes, ← hew, ← heg, Q.c, List.cons_append, List.nil_append] at k6 k7 k8 k9 k10 k11 k12 ⊢
  clear hea hep hes hew heg
  refine AE.ACallG.of_walk (fn := Tryz.f8) (c := bodyOf Tryz.f8) GG_stays tabOK Tryz.func8 rfl rfl mixed fun A hA X => ?_
  have e1 : A.cmp .neq ck ck = false := by rw [AE.c_neq hA]; simp
  have e2 : A.scmp .neq rec rec = false := by subst hA; show AE.cmpS .neq rec rec = false; simp [AE.cmpS]
  have e4 : A.bcmp .neq nm nm = false := by rw [AE.c_bne hA]; simp
  have e5 : A.bcmp .neq fr fr = false := by rw [AE.c_bne hA]; simp
  have e3 : A.bnot true = false := by rw [AE.c_not hA]; rfl
  (repeat' (first | (refine X.go 500 _ _ ?_; cbv) | (first | refine X.splitT ?_ | refine X.splitF ?_ | refine X.split _ _ _ _ _ (fun hc => ?_) (fun hc => ?_)) | refine X.need _ _ _ trivial ?_ | refine X.drawX _ _ _ (by kernel_rfl) (X.frzB 0 _ _ (Nat.zero_le _) (X.frzB 1 _ _ (Nat.zero_le _) (X.frzB 2 _ _ (Nat.zero_le _) ?_))) | refine X.fork _ _ ?_ ?_ | refine X.callsGA [] k1 ?_ | refine X.callsGA [] k2 ?_ | refine X.callsGA [] k4 ?_ | refine X.callsGA [] k5 ?_ | refine X.callsGA [] k6 ?_ | refine X.callsGA [] k7 ?_ | refine X.callsGA [] k10 ?_ | refine X.callsGA [] k11 ?_ | refine X.callsGA [] k12 ?_ | refine X.callsGA [] k13 ?_ | refine X.callsGA [] k14 ?_ | refine X.callsGA [] k15 ?_ | refine X.callsGA [] k16 ?_ | refine X.callsGA [] k17 ?_ | refine X.callsGA [] k18 ?_ | refine X.callsA [] k3 ?_ | refine X.callsA [] k8 ?_ | refine X.callsA [] k9 ?_ | fail))
  all_goals (refine X.ret _ (X.done rfl ?_); cbv <;> ((repeat' apply And.intro) <;> first | rfl | trivial))
end Go.Proofs.YtjbnffclpebkkaaGreatDoor
end
