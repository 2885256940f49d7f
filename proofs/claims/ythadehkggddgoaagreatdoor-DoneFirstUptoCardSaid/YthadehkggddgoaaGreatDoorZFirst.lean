/- Contracts: turn.Of, frame.Zero; the reference's First. -/
import Derived.Test.YthadehkggddgoaaGreatDoorZLoop
import Derived.Test.YthadehkggddgoaaGreatDoorZRatC
import Derived.Test.YthadehkggddgoaaGreatDoorZMake
set_option linter.unusedVariables false
set_option linter.unusedSimpArgs false
namespace Go.Proofs.YthadehkggddgoaaGreatDoor
open Go Go.Num
set_option maxRecDepth 100000 in
set_option maxHeartbeats 0 in
theorem turnOf_ok (q : Q) (hq : q.sz ≤ 2 ^ 32) (r : Tn) (hr : r = ⟨false, Q.of q.v⟩) : AE.ACallG GG Tryz.prog 172 [] [.a q.c] [] (.a r.c) := by
  obtain ⟨p, hp⟩ : ∃ p, p = Q.of q.v := ⟨_, rfl⟩
  rw [← hp] at hr
  subst hr
  refine AE.ACallG.of_walk (fn := Tryz.f172) (c := bodyOf Tryz.f172) GG_stays tabOK Tryz.func172 rfl rfl mixed fun A hA X => ?_
  have k1 := ratMin_ok q q hq hq p (by rw [hp, minR]; split <;> rfl)
  (repeat' (first | (refine X.go 500 _ _ ?_; cbv) | (first | refine X.splitT ?_ | refine X.splitF ?_ | refine X.split _ _ _ _ _ (fun hc => ?_) (fun hc => ?_)) | refine X.callsGA [] k1 ?_ | refine X.need _ _ _ trivial ?_ | fail))
  all_goals (refine X.ret _ (X.done rfl ?_); cbv <;> ((repeat' apply And.intro) <;> first | rfl | trivial))
def frame0 : Fr := ⟨⟨Q.of 0, Q.of 0⟩, ⟨false, Q.of 0⟩⟩
theorem rs0 : rs 0 ≤ 1 := rs_le.2 ⟨by decide, by decide⟩
set_option maxRecDepth 100000 in
set_option maxHeartbeats 0 in
theorem frameZero_ok (r : Fr) (hr : r = frame0) : AE.ACallG GG Tryz.prog 111 [] [] [] (.a r.c) := by
  obtain ⟨p, hp⟩ : ∃ p, p = Q.of 0 := ⟨_, rfl⟩
  rw [frame0, ← hp] at hr
  subst hr
  refine AE.ACallG.of_walk (fn := Tryz.f111) (c := bodyOf Tryz.f111) GG_stays tabOK Tryz.func111 rfl rfl mixed fun A hA X => ?_
  have k1 := ratOf_ok 0 (by decide) (by decide) p hp
  obtain ⟨t, ht⟩ : ∃ t : Tn, t = ⟨false, p⟩ := ⟨_, rfl⟩
  have k2 := turnOf_ok p (by rw [hp, sz_of]; have := rs0; omega) ⟨false, p⟩ (by rw [hp, Q.v_of])
  (repeat' (first | (refine X.go 500 _ _ ?_; cbv) | (first | refine X.splitT ?_ | refine X.splitF ?_ | refine X.split _ _ _ _ _ (fun hc => ?_) (fun hc => ?_)) | refine X.need _ _ _ trivial ?_ | refine X.callsGA [] k1 ?_ | refine X.callsGA [] k2 ?_ | refine X.drawX _ _ _ (by kernel_rfl) (X.frzB 1 _ _ (Nat.zero_le _) ?_) | fail))
  all_goals (refine X.ret _ (X.done rfl ?_); cbv <;> ((repeat' apply And.intro) <;> first | rfl | trivial))
def firstQ (l : Lk) : Q := if 0 < sgnR l.low.v then l.low else if sgnR l.high.v < 0 then l.high else Q.of 0
def firstA (a : Ar) : As := ⟨a.links.map firstQ, a.links.map fun _ => Q.of 0, false, -1⟩
def frameAt (l : List Sl) (i : Nat) : Fr := match l[i]? with | some s => s.frame | none => frame0
def firstS (w : Wk) : Ss := ⟨0, w.arms.map firstA, (List.range w.parts.length).map (frameAt w.slots), [], List.replicate w.gates.length false⟩
theorem map_snoc {α β : Type} (f : α → β) {l : List α} {i : Nat} {y : α} (h : l[i]? = some y) : (l.take (i + 1)).map f = (l.take i).map f ++ [f y] := by rw [take_snoc h, List.map_append]; rfl
theorem lapp_map {A : AE.Ari} (hA : A = AE.std) {α β : Type} (g : α → β) {f : β → List AE.AV} {l : List α} {i : Nat} {y : α} (h : l[i]? = some y) {es es' : List (List AE.AV)} (h1 : es = lsAv f ((l.take i).map g)) (h2 : es' = lsAv f ((l.take (i + 1)).map g)) : A.lapp es [f (g y)] = es' := by
  subst hA
  rw [h1, h2, map_snoc g h, ← lsAv_app, show lsAv f [g y] = [f (g y)] by rw [lsAv_eq]; rfl]; rfl
end Go.Proofs.YthadehkggddgoaaGreatDoor
