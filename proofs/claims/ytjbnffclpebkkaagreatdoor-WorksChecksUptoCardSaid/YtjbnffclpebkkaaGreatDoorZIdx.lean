/- Contracts: works.Arm, Part, Slot and what the law asks them with. -/
import Derived.Test.YtjbnffclpebkkaaGreatDoorZFuncs
set_option linter.unusedVariables false
set_option linter.unusedSimpArgs false
namespace Go.Proofs.YtjbnffclpebkkaaGreatDoor
open Go Go.Num
set_option maxRecDepth 100000 in
set_option maxHeartbeats 0 in
theorem namePArm_ok (y : Ar) (s : ByteArray) (r : Bool) (hr : r = decide (y.name = s)) : AE.ACallG GG Tryz.prog 139 [] [.a y.c, .ip [.v (.string s)]] [] (.b r) := by
  refine AE.ACallG.of_walk (fn := Tryz.f139) (c := bodyOf Tryz.f139) GG_stays tabOK Tryz.func139 rfl rfl mixed fun A hA X => ?_
  have e1 : A.scmp .eql y.name s = r := by rw [c_seql hA, hr]
  (repeat' (first | (refine X.go 500 _ _ ?_; cbv) | (first | refine X.splitT ?_ | refine X.splitF ?_ | refine X.split _ _ _ _ _ (fun hc => ?_) (fun hc => ?_)) | refine X.need _ _ _ trivial ?_ | fail))
  all_goals (refine X.ret _ (X.done rfl ?_); cbv <;> ((repeat' apply And.intro) <;> first | exact e1 | rfl | trivial))
set_option maxRecDepth 100000 in
set_option maxHeartbeats 0 in
theorem nameLArm_ok (y : Ar) (s : ByteArray) (r : Bool) (hr : r = decide (y.name = s)) : AE.ACallG GG Tryz.prog 44 [] [.a y.c, .ip [.v (.string s)]] [] (.b r) := by
  refine AE.ACallG.of_walk (fn := Tryz.f44) (c := bodyOf Tryz.f44) GG_stays tabOK Tryz.func44 rfl rfl mixed fun A hA X => ?_
  have e1 : A.scmp .eql y.name s = r := by rw [c_seql hA, hr]
  (repeat' (first | (refine X.go 500 _ _ ?_; cbv) | (first | refine X.splitT ?_ | refine X.splitF ?_ | refine X.split _ _ _ _ _ (fun hc => ?_) (fun hc => ?_)) | refine X.need _ _ _ trivial ?_ | fail))
  all_goals (refine X.ret _ (X.done rfl ?_); cbv <;> ((repeat' apply And.intro) <;> first | exact e1 | rfl | trivial))
set_option maxRecDepth 100000 in
set_option maxHeartbeats 0 in
theorem namePPart_ok (y : Pt) (s : ByteArray) (r : Bool) (hr : r = decide (y.name = s)) : AE.ACallG GG Tryz.prog 140 [] [.a y.c, .ip [.v (.string s)]] [] (.b r) := by
  refine AE.ACallG.of_walk (fn := Tryz.f140) (c := bodyOf Tryz.f140) GG_stays tabOK Tryz.func140 rfl rfl mixed fun A hA X => ?_
  have e1 : A.scmp .eql y.name s = r := by rw [c_seql hA, hr]
  (repeat' (first | (refine X.go 500 _ _ ?_; cbv) | (first | refine X.splitT ?_ | refine X.splitF ?_ | refine X.split _ _ _ _ _ (fun hc => ?_) (fun hc => ?_)) | refine X.need _ _ _ trivial ?_ | fail))
  all_goals (refine X.ret _ (X.done rfl ?_); cbv <;> ((repeat' apply And.intro) <;> first | exact e1 | rfl | trivial))
set_option maxRecDepth 100000 in
set_option maxHeartbeats 0 in
theorem nameLPart_ok (y : Pt) (s : ByteArray) (r : Bool) (hr : r = decide (y.name = s)) : AE.ACallG GG Tryz.prog 46 [] [.a y.c, .ip [.v (.string s)]] [] (.b r) := by
  refine AE.ACallG.of_walk (fn := Tryz.f46) (c := bodyOf Tryz.f46) GG_stays tabOK Tryz.func46 rfl rfl mixed fun A hA X => ?_
  have e1 : A.scmp .eql y.name s = r := by rw [c_seql hA, hr]
  (repeat' (first | (refine X.go 500 _ _ ?_; cbv) | (first | refine X.splitT ?_ | refine X.splitF ?_ | refine X.split _ _ _ _ _ (fun hc => ?_) (fun hc => ?_)) | refine X.need _ _ _ trivial ?_ | fail))
  all_goals (refine X.ret _ (X.done rfl ?_); cbv <;> ((repeat' apply And.intro) <;> first | exact e1 | rfl | trivial))
set_option maxRecDepth 100000 in
set_option maxHeartbeats 0 in
theorem namePSlot_ok (y : Sl) (s : ByteArray) (r : Bool) (hr : r = decide (y.name = s)) : AE.ACallG GG Tryz.prog 141 [] [.a y.c, .ip [.v (.string s)]] [] (.b r) := by
  refine AE.ACallG.of_walk (fn := Tryz.f141) (c := bodyOf Tryz.f141) GG_stays tabOK Tryz.func141 rfl rfl mixed fun A hA X => ?_
  have e1 : A.scmp .eql y.name s = r := by rw [c_seql hA, hr]
  (repeat' (first | (refine X.go 500 _ _ ?_; cbv) | (first | refine X.splitT ?_ | refine X.splitF ?_ | refine X.split _ _ _ _ _ (fun hc => ?_) (fun hc => ?_)) | refine X.need _ _ _ trivial ?_ | fail))
  all_goals (refine X.ret _ (X.done rfl ?_); cbv <;> ((repeat' apply And.intro) <;> first | exact e1 | rfl | trivial))
set_option maxRecDepth 100000 in
set_option maxHeartbeats 0 in
theorem nameLSlot_ok (y : Sl) (s : ByteArray) (r : Bool) (hr : r = decide (y.name = s)) : AE.ACallG GG Tryz.prog 48 [] [.a y.c, .ip [.v (.string s)]] [] (.b r) := by
  refine AE.ACallG.of_walk (fn := Tryz.f48) (c := bodyOf Tryz.f48) GG_stays tabOK Tryz.func48 rfl rfl mixed fun A hA X => ?_
  have e1 : A.scmp .eql y.name s = r := by rw [c_seql hA, hr]
  (repeat' (first | (refine X.go 500 _ _ ?_; cbv) | (first | refine X.splitT ?_ | refine X.splitF ?_ | refine X.split _ _ _ _ _ (fun hc => ?_) (fun hc => ?_)) | refine X.need _ _ _ trivial ?_ | fail))
  all_goals (refine X.ret _ (X.done rfl ?_); cbv <;> ((repeat' apply And.intro) <;> first | exact e1 | rfl | trivial))
def idxE (i : Int) : Int × Int := if i < 0 then (0, 16) else (i, 0)
theorem worksIndex_ok (i : Int) (r e : Int) (hr : r = (idxE i).1) (he : e = (idxE i).2) : AE.ACallG GG Tryz.prog 138 [] [.v (.int .i64 i)] [] (.t [.v (.int .i64 r), .v (.int .i64 e)]) := by
  refine AE.ACallG.of_walk (fn := Tryz.f138) (c := bodyOf Tryz.f138) GG_stays tabOK Tryz.func138 rfl rfl mixed fun A hA X => ?_
  by_cases h : i < 0
  · have c1 : A.cmp .lss i 0 = true := by rw [AE.c_lss hA]; exact decide_eq_true h
    rw [idxE, if_pos h] at hr he
    (repeat' (first | (refine X.go 500 _ _ ?_; cbv) | (first | refine X.splitT ?_ | refine X.splitF ?_ | refine X.split _ _ _ _ _ (fun hc => ?_) (fun hc => ?_)) | refine X.need _ _ _ trivial ?_ | fail))
    all_goals (refine X.ret _ (X.done rfl ?_); cbv <;> ((repeat' apply And.intro) <;> first | exact hr.symm | exact he.symm | rfl | trivial))
  · have c1 : A.cmp .lss i 0 = false := by rw [AE.c_lss hA]; exact decide_eq_false h
    rw [idxE, if_neg h] at hr he
    (repeat' (first | (refine X.go 500 _ _ ?_; cbv) | (first | refine X.splitT ?_ | refine X.splitF ?_ | refine X.split _ _ _ _ _ (fun hc => ?_) (fun hc => ?_)) | refine X.need _ _ _ trivial ?_ | fail))
    all_goals (refine X.ret _ (X.done rfl ?_); cbv <;> ((repeat' apply And.intro) <;> first | exact hr.symm | exact he.symm | rfl | trivial))
set_option maxRecDepth 100000 in
set_option maxHeartbeats 0 in
theorem askArm_ok (w : Wk) (hl : w.arms.length < 2 ^ 40) (s : ByteArray) (r e : Int) (hr : r = (idxE (idxB (fun y => decide (y.name = s)) w.arms)).1) (he : e = (idxE (idxB (fun y => decide (y.name = s)) w.arms)).2) : AE.ACallG GG Tryz.prog 40 [] [.a w.c, .v (.string s)] [] (.t [.v (.int .i64 r), .v (.int .i64 e)]) := by
  refine AE.ACallG.of_walk (fn := Tryz.f40) (c := bodyOf Tryz.f40) GG_stays tabOK Tryz.func40 rfl rfl mixed fun A hA X => ?_
  obtain ⟨i, hi⟩ : ∃ i, i = idxB (fun y => decide (y.name = s)) w.arms := ⟨_, rfl⟩
  rw [← hi] at hr he
  have k1 := idxArmP_ok s w.arms hl _ rfl (fun y => decide (y.name = s)) (fun y _ b hb => namePArm_ok y s b hb) i hi
  have k2 := worksIndex_ok i r e hr he
  refine X.go 8 _ _ ?_
  cbv
  refine X.need _ _ _ trivial (X.frzB 1 _ _ (Nat.zero_le _) ?_)
  (repeat' (first | (refine X.go 500 _ _ ?_; cbv) | (first | refine X.splitT ?_ | refine X.splitF ?_ | refine X.split _ _ _ _ _ (fun hc => ?_) (fun hc => ?_)) | refine X.need _ _ _ trivial ?_ | refine X.callsGA [] k1 ?_ | refine X.callsGA [] k2 ?_ | fail))
  all_goals (refine X.ret _ (X.done rfl ?_); cbv <;> ((repeat' apply And.intro) <;> first | rfl | trivial))
set_option maxRecDepth 100000 in
set_option maxHeartbeats 0 in
theorem askPart_ok (w : Wk) (hl : w.parts.length < 2 ^ 40) (s : ByteArray) (r e : Int) (hr : r = (idxE (idxB (fun y => decide (y.name = s)) w.parts)).1) (he : e = (idxE (idxB (fun y => decide (y.name = s)) w.parts)).2) : AE.ACallG GG Tryz.prog 41 [] [.a w.c, .v (.string s)] [] (.t [.v (.int .i64 r), .v (.int .i64 e)]) := by
  refine AE.ACallG.of_walk (fn := Tryz.f41) (c := bodyOf Tryz.f41) GG_stays tabOK Tryz.func41 rfl rfl mixed fun A hA X => ?_
  obtain ⟨i, hi⟩ : ∃ i, i = idxB (fun y => decide (y.name = s)) w.parts := ⟨_, rfl⟩
  rw [← hi] at hr he
  have k1 := idxPartP_ok s w.parts hl _ rfl (fun y => decide (y.name = s)) (fun y _ b hb => namePPart_ok y s b hb) i hi
  have k2 := worksIndex_ok i r e hr he
  refine X.go 8 _ _ ?_
  cbv
  refine X.need _ _ _ trivial (X.frzB 1 _ _ (Nat.zero_le _) ?_)
  (repeat' (first | (refine X.go 500 _ _ ?_; cbv) | (first | refine X.splitT ?_ | refine X.splitF ?_ | refine X.split _ _ _ _ _ (fun hc => ?_) (fun hc => ?_)) | refine X.need _ _ _ trivial ?_ | refine X.callsGA [] k1 ?_ | refine X.callsGA [] k2 ?_ | fail))
  all_goals (refine X.ret _ (X.done rfl ?_); cbv <;> ((repeat' apply And.intro) <;> first | rfl | trivial))
set_option maxRecDepth 100000 in
set_option maxHeartbeats 0 in
theorem askSlot_ok (w : Wk) (hl : w.slots.length < 2 ^ 40) (s : ByteArray) (r e : Int) (hr : r = (idxE (idxB (fun y => decide (y.name = s)) w.slots)).1) (he : e = (idxE (idxB (fun y => decide (y.name = s)) w.slots)).2) : AE.ACallG GG Tryz.prog 42 [] [.a w.c, .v (.string s)] [] (.t [.v (.int .i64 r), .v (.int .i64 e)]) := by
  refine AE.ACallG.of_walk (fn := Tryz.f42) (c := bodyOf Tryz.f42) GG_stays tabOK Tryz.func42 rfl rfl mixed fun A hA X => ?_
  obtain ⟨i, hi⟩ : ∃ i, i = idxB (fun y => decide (y.name = s)) w.slots := ⟨_, rfl⟩
  rw [← hi] at hr he
  have k1 := idxSlotP_ok s w.slots hl _ rfl (fun y => decide (y.name = s)) (fun y _ b hb => namePSlot_ok y s b hb) i hi
  have k2 := worksIndex_ok i r e hr he
  refine X.go 8 _ _ ?_
  cbv
  refine X.need _ _ _ trivial (X.frzB 1 _ _ (Nat.zero_le _) ?_)
  (repeat' (first | (refine X.go 500 _ _ ?_; cbv) | (first | refine X.splitT ?_ | refine X.splitF ?_ | refine X.split _ _ _ _ _ (fun hc => ?_) (fun hc => ?_)) | refine X.need _ _ _ trivial ?_ | refine X.callsGA [] k1 ?_ | refine X.callsGA [] k2 ?_ | fail))
  all_goals (refine X.ret _ (X.done rfl ?_); cbv <;> ((repeat' apply And.intro) <;> first | rfl | trivial))
end Go.Proofs.YtjbnffclpebkkaaGreatDoor
