/- Contract: gantkeep2.begun. -/
import Derived.Test.YthadehkggddgoaaGreatDoorZBegun
import Derived.Test.YthadehkggddgoaaGreatDoorZValid
set_option maxRecDepth 100000
set_option maxHeartbeats 0
set_option linter.unusedVariables false
set_option linter.unusedSimpArgs false
namespace Go.Proofs.YthadehkggddgoaaGreatDoor
open Go Go.Num
theorem begunR_ok (l0 : List Int) (hl : l0.length < 2 ^ 40) (e0 : List (List AE.AV)) (he0 : e0 = lsAv numC l0) (w : Wk) (hw : w = worksM l0) (s : Ss) (hs : s = firstS w) : AE.ACallG GG Tryz.prog 13 [] [.l 1 e0] [] (.t [.a w.c, .a s.c, .b true]) := by
  have h0 : worksC w = 0 := by rw [hw]; exact worksM_ok l0
  have hle : w.Le := by rw [hw]; exact worksM_le l0
  have hok := worksC_zero h0
  obtain ⟨va, hva⟩ : ∃ e, e = lsAv As.c (firstS w).arms := ⟨_, rfl⟩
  obtain ⟨vp, hvp⟩ : ∃ e, e = lsAv Fr.c (firstS w).parts := ⟨_, rfl⟩
  obtain ⟨vo, hvo⟩ : ∃ e, e = lsAv boolC (firstS w).opens := ⟨_, rfl⟩
  have hsc : s.c = [.v (.int .i64 0), .l 4 va, .l 10 vp, .l 6 [], .l 1 vo] := by
    rw [hs, Ss.c, ← hva, ← hvp, ← hvo, show lsAv V2.c (firstS w).people = [] from lsAv_nil _]; rfl
  have k1 := makeWorks_ok l0 hl e0 he0 w hw
  have k2 := worldFirst_ok w hle h0 va vp vo hva hvp hvo
  have k3 := worldCheck_ok w hle s (by rw [hs]; exact firstS_le hle hok) 0 (by rw [hs]; exact (firstS_ok h0).symm)
  have k4 := worksCheck_ok emptyW emptyW_le 4 emptyW_ok.symm
  rw [show emptyW.c = [.l 12 [], .l 1 [], .l 12 [], .l 14 [], .l 13 [], .b false, .v (.string ⟨⟨[]⟩⟩), .v (.string ⟨⟨[]⟩⟩)] by simp only [Wk.c, emptyW, lsAv_nil]; rfl] at k4
  rw [hsc] at k3 ⊢
  refine AE.ACallG.of_walk (fn := Tryz.f13) (c := bodyOf Tryz.f13) GG_stays tabOK Tryz.func13 rfl rfl mixed fun A hA X => ?_
  have m1 : va.length = w.arms.length := by rw [hva, lsAv_len]; simp [firstS]
  have m2 : vp.length = w.parts.length := by rw [hvp, lsAv_len]; simp [firstS]
  clear hw hs hva hvp hvo hle hok h0 hsc
  obtain ⟨arms, walls, parts, slots, gates, walk⟩ := w
  simp only at m1 m2
  obtain ⟨ea, hea⟩ : ∃ es, es = lsAv Ar.c arms := ⟨_, rfl⟩
  obtain ⟨ew, hew⟩ : ∃ es, es = lsAv wallC walls := ⟨_, rfl⟩
  obtain ⟨ep, hep⟩ : ∃ es, es = lsAv Pt.c parts := ⟨_, rfl⟩
  obtain ⟨es, hes⟩ : ∃ es, es = lsAv Sl.c slots := ⟨_, rfl⟩
  obtain ⟨eg, heg⟩ : ∃ es, es = lsAv Gt.c gates := ⟨_, rfl⟩
  simp only [Wk.c, ← hea, ← hew, ← hep, ← hes, ← heg] at k1 k2 k3 ⊢
  have c0 : A.cmp .eql 0 0 = true := by rw [AE.c_eql hA]; rfl
  have c4 : A.cmp .eql 4 4 = true := by rw [AE.c_eql hA]; rfl
  have c1 : A.cmp .eql (A.llen va) (A.llen ea) = true := by rw [AE.c_eql hA, llen hA, llen hA, hea, lsAv_len, m1]; exact decide_eq_true rfl
  have c2 : A.cmp .eql (A.llen vp) (A.llen ep) = true := by rw [AE.c_eql hA, llen hA, llen hA, hep, lsAv_len, m2]; exact decide_eq_true rfl
  (repeat' (first | (refine X.g ?_; cbv) | refine X.splitT ?_ | refine X.splitF ?_ | refine X.sp (fun hc => ?_) (fun hc => ?_) | refine X.needT ?_ | refine X.callsA [] k1 ?_ | refine X.callsGA [] k2 ?_ | fail))
  refine X.drawX _ _ _ (by kernel_rfl) (X.frz 6 _ _ (X.frz 7 _ _ (X.frzB 2 _ _ (Nat.zero_le _) (X.frzB 8 _ _ (Nat.zero_le _) ?_))))
  (repeat' (first | (refine X.g ?_; cbv) | refine X.splitT ?_ | refine X.splitF ?_ | refine X.sp (fun hc => ?_) (fun hc => ?_) | refine X.needT ?_ | refine X.callsGA [] k3 ?_ | refine X.callsGA [] k4 ?_ | refine X.fork _ _ ?_ ?_ | fail))
  all_goals (refine X.ret _ (X.done rfl ?_); cbv <;> (and_intros <;> first | rfl | trivial))
end Go.Proofs.YthadehkggddgoaaGreatDoor
