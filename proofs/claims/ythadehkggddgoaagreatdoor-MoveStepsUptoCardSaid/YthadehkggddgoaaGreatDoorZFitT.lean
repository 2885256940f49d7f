/- Contract: world.First of a valid works. Plain law: its state is valid. Reading states; states of a small bulk: what the contracts ask; the bulk of a first state. Equality of numbers, points, frames, states, as the program asks it. Contracts: done.check, Off, In, Best. States of a small bulk: what the contracts ask; the bulk of a first state. -/
import Derived.Test.YthadehkggddgoaaGreatDoorZWorld
import Derived.Test.YthadehkggddgoaaGreatDoorZRefA
import Derived.Test.YthadehkggddgoaaGreatDoorZPlain
import Derived.Test.YthadehkggddgoaaGreatDoorZRState
import Derived.Test.YthadehkggddgoaaGreatDoorZFuncsB
import Derived.Test.YthadehkggddgoaaGreatDoorZInj
section
set_option linter.unusedVariables false
set_option linter.unusedSimpArgs false
namespace Go.Proofs.YthadehkggddgoaaGreatDoor
open Go Go.Num
theorem rlt_trans {a b c:Rat} (h:a < b) (h2:b < c):a < c:=by
 rw [← Rat.not_le]; intro h3
 exact Rat.not_le.2 h (Rat.le_trans (Rat.le_of_lt h2) h3)
theorem eachN_zero {α : Type} {f:List ByteArray → α → Int × List ByteArray}:∀ {l:List α} {ns:List ByteArray},(eachN f ns l).1 = 0 → ∀ x ∈ l,∃ ms,(f ms x).1 = 0
 | [],_,_,x,hx=>by cases hx
 | y :: l,ns,h,x,hx=>by
  rw [eachN] at h
  by_cases h0:(f ns y).1 ≠ 0
  ·rw [if_pos h0] at h; exact absurd h h0
  ·rw [if_neg h0] at h
   rcases List.mem_cons.1 hx with rfl|hx
   ·exact ⟨ns,Classical.not_not.1 h0⟩
   ·exact eachN_zero h x hx
theorem firstE_all {α : Type} {f:α → Int}:∀ {l:List α},firstE f l = 0 → ∀ x ∈ l,f x = 0
 | [],_,x,hx=>by cases hx
 | y :: l,h,x,hx=>by
  rw [firstE] at h
  by_cases h0:f y ≠ 0
  ·rw [if_pos h0] at h; exact absurd h h0
  ·rw [if_neg h0] at h
   rcases List.mem_cons.1 hx with rfl|hx
   ·exact Classical.not_not.1 h0
   ·exact firstE_all h x hx
structure Wk.OK (w:Wk):Prop where
 arms:∀ a ∈ w.arms,armC a = 0
 narms:1 ≤ w.arms.length ∧ w.arms.length ≤ 4
 walls:∀ l ∈ w.walls,shapeC l = 0
 parts:∀ p ∈ w.parts,frameB p.grasp = true ∧ shapeC p.shape = 0
 nparts:w.parts.length ≤ 6
 slots:∀ s ∈ w.slots,frameB s.frame = true ∧ s.within.Small ∧ 0 < sgnR s.within.v
 nslots:w.slots.length ≤ 8
 gates:∀ g ∈ w.gates,g.zone.low.Small ∧ g.zone.high.Small ∧ g.zone.low.x.v ≤ g.zone.high.x.v ∧ g.zone.low.y.v ≤ g.zone.high.y.v
 ngates:w.gates.length ≤ 4
 walk:w.walk.Small ∧ 0 ≤ sgnR w.walk.v
theorem addN_zero {ns:List ByteArray} {e sh:Int} {fr:Bool} (h:partI e sh fr = 0):sh = 0 ∧ fr = true:=by
 unfold partI at h
 split at h
 ·omega
 ·split at h
  ·omega
  ·split at h
   ·rename_i h1 h2 h3; exact ⟨by omega,h3⟩
   ·omega
theorem worksC_zero {w:Wk} (h:worksC w = 0):w.OK:=by
 rw [worksC,worksI] at h
 split at h
 ·omega
 ·rename_i n1
  split at h
  ·omega
  ·rename_i n2
   rw [walkI] at h
   split at h
   ·omega
   ·rename_i h0
    have h0:firstE (fun e=>e) [(wksA w).1,firstE shapeC w.walls,(wksP w).1,(wksS w).1,(wksG w).1] = 0:=Classical.not_not.1 h0
    have ha:=firstE_all h0
    have i1:(wksA w).1 = 0:=ha _ (by simp)
    have i2:firstE shapeC w.walls = 0:=ha _ (by simp)
    have i3:(wksP w).1 = 0:=ha _ (by simp)
    have i4:(wksS w).1 = 0:=ha _ (by simp)
    have i5:(wksG w).1 = 0:=ha _ (by simp)
    split at h
    ·rename_i hw
     refine ⟨fun a h1=>?_,by omega,firstE_all i2,fun p h1=>?_,by omega,fun s h1=>?_,by omega,fun g h1=>?_,by omega,⟨of_decide_eq_true hw.1,hw.2⟩⟩
     ·obtain ⟨ms,hm⟩:=eachN_zero i1 a h1
      rw [armN] at hm
      split at hm
      ·rename_i h2; exact hm
      ·rename_i h2; exact Classical.not_not.1 h2
     ·obtain ⟨ms,hm⟩:=eachN_zero i3 p h1
      have:=addN_zero (ns:=ms) hm
      exact ⟨this.2,this.1⟩
     ·obtain ⟨ms,hm⟩:=eachN_zero i4 s h1
      rw [slotN] at hm
      simp only [slotI] at hm
      split at hm
      ·omega
      ·split at hm
       ·rename_i h2; exact ⟨h2.1,of_decide_eq_true h2.2.1,h2.2.2⟩
       ·omega
     ·obtain ⟨ms,hm⟩:=eachN_zero i5 g h1
      rw [gateN] at hm
      simp only [gateI] at hm
      split at hm
      ·omega
      ·split at hm
       ·rename_i h2
        have h3:=of_decide_eq_true h2.1
        exact ⟨h3 _ (by simp),h3 _ (by simp),cmpR_le.1 h2.2.1,cmpR_le.1 h2.2.2⟩
       ·omega
    ·omega
theorem linkC_zero {k:Lk} (h:linkC k = 0):k.length.Small ∧ k.low.Small ∧ k.high.Small ∧ k.speed.Small ∧ k.brake.Small ∧ k.low.v < k.high.v ∧ 0 < sgnR k.length.v ∧ 0 < sgnR k.speed.v ∧ 0 < sgnR k.brake.v:=by
 rw [linkC,linkI] at h
 split at h
 ·omega
 ·rename_i h1
  split at h
  ·omega
  ·rename_i h2
   have e1:∀ q ∈ [k.length,k.low,k.high,k.speed,k.brake],q.Small:=by
    apply Classical.byContradiction
    intro hn
    exact h1 (.inl (decide_eq_false hn))
   have e2:cmpR k.low.v k.high.v < 0:=by omega
   have e3:k.low.v < k.high.v:=by
    rw [← Rat.not_le]; intro hn
    have:=cmpR_ge.2 hn
    omega
   exact ⟨e1 _ (by simp),e1 _ (by simp),e1 _ (by simp),e1 _ (by simp),e1 _ (by simp),e3,by omega,by omega,by omega⟩
theorem armC_zero {a:Ar} (h:armC a = 0):(∀ k ∈ a.links,linkC k = 0) ∧ 1 ≤ a.links.length ∧ a.links.length ≤ 3 ∧ nameOK a.name ∧ (∀ q ∈ [a.base.at_.x,a.base.at_.y,a.base.turn.t],q.Small) ∧ (a.base.turn.half = true → sgnR a.base.turn.t.v = 0):=by
 rw [armC,armI] at h
 split at h
 ·omega
 ·rename_i h1
  split at h
  ·omega
  ·rename_i h2
   split at h
   ·omega
   ·rename_i h3
    refine ⟨firstE_all h,by omega,by omega,?_,?_,fun hh=>?_⟩
    ·exact Classical.byContradiction fun hn=>h1 (decide_eq_false hn)
    ·exact Classical.byContradiction fun hn=>h3 (.inr (.inl (decide_eq_false hn)))
    ·exact Classical.byContradiction fun hn=>h3 (.inr (.inr ⟨hh,hn⟩))
theorem sgn_pos_iff {r:Rat}:0 < sgnR r ↔ 0 < r:=by
 rw [sgnR]
 split
 ·rename_i h; rw [h]; exact ⟨fun h=>absurd h (by decide),fun h=>absurd h (by decide +kernel)⟩
 ·rename_i h
  split
  ·rename_i h2; exact ⟨fun h=>absurd h (by decide),fun h3=>absurd (rlt_trans h3 h2) Rat.lt_irrefl⟩
  ·rename_i h2
   refine ⟨fun _=>?_,fun _=>by decide⟩
   rw [← Rat.not_le]; intro h3
   exact h (Rat.le_antisymm h3 (Rat.not_lt.1 h2))
theorem sgn_neg_iff {r:Rat}:sgnR r < 0 ↔ r < 0:=by
 rw [sgnR]
 split
 ·rename_i h; rw [h]; exact ⟨fun h=>absurd h (by decide),fun h=>absurd h (by decide +kernel)⟩
 ·rename_i h
  split
  ·rename_i h2; exact ⟨fun _=>h2,fun _=>by decide⟩
  ·rename_i h2; exact ⟨fun h=>absurd h (by decide),fun h3=>absurd h3 h2⟩
theorem firstQ_eq {k:Lk} (h1:k.low.Good) (h2:k.high.Good) (h3:k.low.v < k.high.v):firstQ k = Q.of (maxR k.low.v (minR k.high.v 0)):=by
 rw [firstQ]
 split
 ·rename_i h
  have h:=sgn_pos_iff.1 h
  have e:minR k.high.v 0 = 0:=by rw [minR,if_neg]; rw [Rat.not_le]; exact rlt_trans h h3
  rw [e,maxR,if_pos (Rat.le_of_lt h),Q.of_v h1]
 ·rename_i h
  have h:=fun hh=>h (sgn_pos_iff.2 hh)
  split
  ·rename_i h4
   have h4:=sgn_neg_iff.1 h4
   rw [minR,if_pos (Rat.le_of_lt h4),maxR,if_neg (by rw [Rat.not_le]; exact h3),Q.of_v h2]
  ·rename_i h4
   have h4:=fun hh=>h4 (sgn_neg_iff.2 hh)
   have h5:0 ≤ k.high.v:=Rat.not_lt.1 h4
   have h6:k.low.v ≤ 0:=Rat.not_lt.1 h
   have e:minR k.high.v 0 = 0:=by
    rw [minR]
    split
    ·rename_i h7; exact Rat.le_antisymm h7 h5
    ·rfl
   rw [e,maxR]
   split
   ·rename_i h7
    rw [Rat.le_antisymm h6 h7]
   ·rfl
theorem firstQ_good {k:Lk} (h1:k.low.Good) (h2:k.high.Good) (h3:k.low.v < k.high.v):(firstQ k).Good ∧ k.low.v ≤ (firstQ k).v ∧ (firstQ k).v ≤ k.high.v:=by
 rw [firstQ_eq h1 h2 h3,Q.v_of]
 refine ⟨Q.of_good _,?_,?_⟩
 ·rw [maxR]; split
  ·exact Rat.le_refl
  ·rename_i h; exact Rat.le_of_lt (Rat.not_le.1 h)
 ·rw [maxR]; split
  ·exact Rat.le_of_lt h3
  ·rw [minR]; split
   ·exact Rat.le_refl
   ·rename_i h; exact Rat.le_of_lt (Rat.not_le.1 h)
theorem betw_all:∀ {ks:List Lk},(∀ k ∈ ks,linkC k = 0) → allBetween (ks.map firstQ) ks
 | [],_=>trivial
 | k :: ks,h=>by
  obtain ⟨_,h1,h2,_,_,h3,_⟩:=linkC_zero (h k (by simp))
  have:=firstQ_good h1.1 h2.1 h3
  exact ⟨⟨this.2.1,this.2.2⟩,betw_all fun x hx=>h x (by simp [hx])⟩
theorem slow_all:∀ {ks:List Lk},(∀ k ∈ ks,linkC k = 0) → slowE (ks.map fun _=>Q.of 0) ks
 | [],_=>trivial
 | k :: ks,h=>by
  obtain ⟨_,_,_,_,_,_,_,h1,_⟩:=linkC_zero (h k (by simp))
  refine ⟨?_,slow_all fun x hx=>h x (by simp [hx])⟩
  rw [Q.v_of]
  exact Rat.le_of_lt (sgn_pos_iff.1 h1)
theorem firstA_ok {a:Ar} (h:armC a = 0) (n:Nat):oneC a (firstA a) n = 0:=by
 obtain ⟨h1,_⟩:=armC_zero h
 have g1:∀ q ∈ (firstA a).q,q.Good:=by
  intro q hq
  obtain ⟨k,hk,rfl⟩:=List.mem_map.1 hq
  obtain ⟨_,z1,z2,_,_,z3,_⟩:=linkC_zero (h1 k hk)
  exact (firstQ_good z1.1 z2.1 z3).1
 have g2:∀ q ∈ (firstA a).v,q.Good:=by
  intro q hq
  obtain ⟨k,hk,rfl⟩:=List.mem_map.1 hq
  exact Q.of_good _
 have g3:fitsC a (firstA a).q = 0:=by
  have e:hasI (armC a) (firstA a).q.length a.links.length = 0:=by
   rw [hasI,h,if_neg (by decide),if_neg]
   show ¬ (((a.links.map firstQ).length:Nat):Int) ≠ _
   rw [List.length_map]; simp
  rw [fitsC,e,if_neg (by decide),if_pos (show allBetween (firstA a).q a.links from betw_all h1)]
 have g4:((firstA a).v.length:Int) = a.links.length:=by
  show (((a.links.map fun _=>Q.of 0).length:Nat):Int) = _
  rw [List.length_map]
 have g5:(firstA a).holds = -1:=rfl
 rw [oneC,decide_eq_true g1,decide_eq_true g2,g3,g4,g5,oneI,if_neg (by decide),if_neg (by decide),if_neg (by omega),if_pos (show slowE (firstA a).v a.links from slow_all h1)]
theorem firstAs_ok (n:Nat):∀ {bs:List Ar} {hs:List Int},(∀ a ∈ bs,armC a = 0) → armsC n hs bs (bs.map firstA) = 0
 | [],_,_=>by rw [List.map_nil]; rfl
 | a :: bs,hs,h=>by
  rw [List.map_cons,armsC,firstA_ok (h a (by simp)),if_neg (by decide),if_neg]
  ·exact firstAs_ok n fun x hx=>h x (by simp [hx])
  ·intro hh
   exact absurd hh.1 (by show ¬ (0:Int) ≤ -1; decide)
theorem frameB_fine {f:Fr} (h:frameB f = true):f.Fine:=by
 rw [frameB,frameI,Bool.and_eq_true,Bool.and_eq_true,Bool.or_eq_true] at h
 obtain ⟨⟨h1,h2⟩,h3⟩:=h
 have h1:=of_decide_eq_true h1
 have h2:=of_decide_eq_true h2
 refine ⟨?_,fun hh=>?_⟩
 ·simp only [List.mem_cons,List.not_mem_nil,or_false,forall_eq_or_imp,forall_eq]
  exact ⟨h1.1.1,h1.2.1,h2.1⟩
 ·rcases h3 with h3|h3
  ·rw [hh] at h3; cases h3
  ·exact of_decide_eq_true h3
theorem frame0_fine:frame0.Fine:=by
 refine ⟨?_,fun hh=>by cases hh⟩
 simp only [frame0,List.mem_cons,List.not_mem_nil,or_false,forall_eq_or_imp,forall_eq]
 exact ⟨Q.of_good _,Q.of_good _,Q.of_good _⟩
theorem firstS_ok {w:Wk} (h:worksC w = 0):stateC w (firstS w) = 0:=by
 have hw:=worksC_zero h
 have e1:armsC w.parts.length [] w.arms (firstS w).arms = 0:=firstAs_ok w.parts.length hw.arms
 have e2:(∀ f ∈ (firstS w).parts,f.Fine) ∧ ∀ p ∈ (firstS w).people,p.Fine:=by
  refine ⟨fun f hf=>?_,fun p hp=>by cases hp⟩
  obtain ⟨i,hi,rfl⟩:=List.mem_map.1 hf
  rw [frameAt]
  split
  ·rename_i s hs
   exact frameB_fine (hw.slots s (List.mem_of_getElem? hs)).1
  ·exact frame0_fine
 have e3:stateE w (firstS w) = 0:=by rw [stateE,e1,if_neg (by decide),if_pos e2]
 have l1:(firstS w).arms.length = w.arms.length:=by simp [firstS]
 have l2:(firstS w).parts.length = w.parts.length:=by simp [firstS]
 have l3:(firstS w).opens.length = w.gates.length:=by simp [firstS]
 have l4:(firstS w).people.length = 0:=rfl
 have l5:(firstS w).tick = 0:=rfl
 rw [stateC,h,e3,l1,l2,l3,l4,l5,stateI,if_neg (by decide),if_neg (by decide),if_neg (by omega)]
theorem firstQ_sz {k:Lk} {n:Nat} (h1:k.low.sz ≤ n) (h2:k.high.sz ≤ n) (hn:1 ≤ n):(firstQ k).sz ≤ n:=by
 rw [firstQ]
 split
 ·exact h1
 ·split
  ·exact h2
  ·rw [sz_of]; have:=rs0; omega
theorem firstS_le {w:Wk} (h:w.Le) (h0:w.OK):(firstS w).Le:=by
 refine ⟨fun x hx=>?_,?_,fun f hf=>?_,?_,(fun p hp=>by cases hp),(by show 0 < 2 ^ 40; decide),?_⟩
 ·obtain ⟨a,ha,rfl⟩:=List.mem_map.1 hx
  have z:=(h.arms a ha).2.2
  refine ⟨fun q hq=>?_,fun q hq=>?_,?_,?_⟩
  ·obtain ⟨k,hk,rfl⟩:=List.mem_map.1 hq
   obtain ⟨_,z1,z2,_⟩:=z.1 k hk
   exact firstQ_sz (by omega) (by omega) (by decide)
  ·obtain ⟨k,hk,rfl⟩:=List.mem_map.1 hq
   rw [sz_of]; have:=rs0; omega
  ·show (a.links.map _).length < _; rw [List.length_map]; exact z.2
  ·show (a.links.map _).length < _; rw [List.length_map]; exact z.2
 ·show (w.arms.map _).length < _; rw [List.length_map]; exact h.narms
 ·obtain ⟨i,hi,rfl⟩:=List.mem_map.1 hf
  rw [frameAt]
  split
  ·rename_i s hs
   obtain ⟨_,⟨z1,z2⟩,_⟩:=h.slots s (List.mem_of_getElem? hs)
   exact ⟨by omega,by omega⟩
  ·have:=rs0
   refine ⟨?_,?_⟩
   ·show max (Q.of 0).sz (Q.of 0).sz ≤ _; rw [sz_of]; omega
   ·show (Q.of 0).sz ≤ _; rw [sz_of]; omega
 ·show ((List.range _).map _).length < _; rw [List.length_map,List.length_range]; exact h.nparts
 ·show (List.replicate _ _).length < _; rw [List.length_replicate]; exact h.ngates
end Go.Proofs.YthadehkggddgoaaGreatDoor
end
section
section
set_option linter.unusedVariables false
set_option linter.unusedSectionVars false
set_option linter.unusedSimpArgs false
namespace Go.Proofs.YthadehkggddgoaaGreatDoor
open Go Go.Num
def As.wt (p:As):Nat:=lw Q.wt p.q + lw Q.wt p.v
def Ss.wt (p:Ss):Nat:=lw As.wt p.arms + lw Fr.wt p.parts + lw V2.wt p.people + lw (fun _:Bool=>1) p.opens
def Ss.ints (s:Ss):Prop:=I64 s.tick ∧ ∀ x ∈ s.arms,I64 x.holds
theorem wf_i64 {n:Int} (h:(Lit.int .i64 n).wf = true):I64 n:=by
 simp only [Lit.wf,Bool.and_eq_true,decide_eq_true_eq] at h
 exact h
section
variable {H:Type} {enc:TypeId × Value → H} {W:World} {E:AE.Env} {bulk:DataW H → Nat}
variable (hE:∀ b o,W.heap[b]? = some o → E.h b = some o)
include hE
theorem openAs (hb:AE.BulkOK bulk):AE.Opens enc Tryz.prog W E bulk 76 (fun x:{ x:As // I64 x.holds }=>x.1.c) (fun x=>x.1.wt) :=
 (AE.Opens.struct hb Tryz.underlying76 (by kernel_rfl)
  (.cons (openL hE hb (sz:=3) (by decide) Tryz.underlying74 (by kernel_rfl) (openQ hb)) (sz:=1) (by kernel_rfl) rfl (.cons (openL hE hb (sz:=3) (by decide) Tryz.underlying74 (by kernel_rfl) (openQ hb)) (sz:=1) (by kernel_rfl) rfl (.cons (.bool hb Tryz.underlying4) (sz:=1) (by kernel_rfl) rfl (.cons (.intWf hb Tryz.underlying3) (sz:=1) (by kernel_rfl) rfl .nil))))).to
  (fun p=>(⟨⟨p.1,p.2.1,p.2.2.1,p.2.2.2.1.1⟩,wf_i64 p.2.2.2.1.2⟩:{ x:As // I64 x.holds })) (fun _=>by simp [As.c]) (fun _=>by simp only [As.wt]; omega)
theorem openSt (hb:AE.BulkOK bulk):AE.Opens enc Tryz.prog W E bulk 37 (fun x:{ s:Ss // s.ints }=>x.1.c) (fun x=>x.1.wt) :=
 (AE.Opens.struct hb Tryz.underlying37 (by kernel_rfl)
  (.cons (.intWf hb Tryz.underlying3) (sz:=1) (by kernel_rfl) rfl (.cons (openL hE hb (sz:=4) (by decide) Tryz.underlying32 (by kernel_rfl) (openAs hE hb)) (sz:=1) (by kernel_rfl) rfl (.cons (openL hE hb (sz:=10) (by decide) Tryz.underlying33 (by kernel_rfl) (openF hb)) (sz:=1) (by kernel_rfl) rfl (.cons (openL hE hb (sz:=6) (by decide) Tryz.underlying34 (by kernel_rfl) (openV hb)) (sz:=1) (by kernel_rfl) rfl (.cons (openL hE hb (sz:=1) (by decide) Tryz.underlying35 (by kernel_rfl) (.bool hb Tryz.underlying4)) (sz:=1) (by kernel_rfl) rfl .nil)))))).to
  (fun p=>(⟨⟨p.1.1,p.2.1.map (·.1),p.2.2.1,p.2.2.2.1,p.2.2.2.2.1⟩,wf_i64 p.1.2,fun x hx=>by obtain ⟨y,_,rfl⟩:=List.mem_map.1 hx; exact y.2⟩:{ s:Ss // s.ints })) (fun _=>by simp only [Ss.c,lsAv_eq,List.map_map]; rfl) (fun _=>by simp only [Ss.wt,lw,List.map_map,Function.comp_def]; omega)
end
theorem Ss.bl {n:Nat} (s:Ss):∀ c ∈ s.c,AE.Bl n c:=by
 intro c hc
 simp only [Ss.c,List.mem_cons,List.not_mem_nil,or_false] at hc
 rcases hc with rfl|rfl|rfl|rfl|rfl
 ·exact .v _
 ·exact .l _ _
 ·exact .l _ _
 ·exact .l _ _
 ·exact .l _ _
theorem As.wt1 (p:As):1 ≤ p.wt:=by have:=lw1 Q.wt p.q; simp only [As.wt]; omega
theorem As.le_wt (p:As) {n:Nat} (h:p.wt ≤ n) (hn:n ≤ 2 ^ 28):p.le n ∧ p.q.length ≤ 2 ^ 28 ∧ p.v.length ≤ 2 ^ 28:=by
 simp only [As.wt] at h
 have h1:=lw_len Q.wt1 p.q; have h2:=lw_len Q.wt1 p.v
 refine ⟨⟨fun q hq=>?_,fun q hq=>?_,by omega,by omega⟩,by omega,by omega⟩
 ·have:=lw_mem (ρ:=Q.wt) hq; have:=q.sz_wt; omega
 ·have:=lw_mem (ρ:=Q.wt) hq; have:=q.sz_wt; omega
theorem Ss.parts_wt (s:Ss) {n:Nat} (h:s.wt ≤ n):lw As.wt s.arms ≤ n ∧ lw Fr.wt s.parts ≤ n ∧ lw V2.wt s.people ≤ n ∧ lw (fun _:Bool=>1) s.opens ≤ n:=by
 simp only [Ss.wt] at h; omega
theorem Ss.le_wt (s:Ss) {n:Nat} (h:s.wt ≤ n) (hn:n ≤ 2 ^ 28):s.Le:=by
 obtain ⟨h1,h2,h3,h4⟩:=s.parts_wt h
 have:=lw_len As.wt1 s.arms; have:=lw_len Fr.wt1 s.parts; have:=lw_len V2.wt1 s.people; have:=lw_len (ρ:=fun _:Bool=>1) (fun _=>Nat.le_refl _) s.opens
 refine ⟨fun x hx=>?_,by omega,fun f hf=>?_,by omega,fun p hp=>?_,by omega,by omega⟩
 ·have h5:=lw_mem (ρ:=As.wt) hx
  obtain ⟨⟨g1,g2,g3,g4⟩,_⟩:=x.le_wt (n:=n) (by omega) hn
  exact ⟨fun q hq=>by have:=g1 q hq; omega,fun q hq=>by have:=g2 q hq; omega,g3,g4⟩
 ·have h5:=lw_mem (ρ:=Fr.wt) hf
  exact f.le_wt (by omega)
 ·have h5:=lw_mem (ρ:=V2.wt) hp
  have:=p.sz_wt; omega
end Go.Proofs.YthadehkggddgoaaGreatDoor
end
section
section
section
set_option linter.unusedVariables false
set_option linter.unusedSimpArgs false
namespace Go.Proofs.YthadehkggddgoaaGreatDoor
open Go Go.Num
instance:DecidableEq Q:=fun a b=>decidable_of_iff (a.neg = b.neg ∧ a.num = b.num ∧ a.den = b.den) (by cases a; cases b; simp)
instance:DecidableEq V2:=fun a b=>decidable_of_iff (a.x = b.x ∧ a.y = b.y) (by cases a; cases b; simp)
instance:DecidableEq Tn:=fun a b=>decidable_of_iff (a.half = b.half ∧ a.t = b.t) (by cases a; cases b; simp)
instance:DecidableEq Fr:=fun a b=>decidable_of_iff (a.at_ = b.at_ ∧ a.turn = b.turn) (by cases a; cases b; simp)
instance:DecidableEq As:=fun a b=>decidable_of_iff (a.q = b.q ∧ a.v = b.v ∧ a.power = b.power ∧ a.holds = b.holds) (by cases a; cases b; simp)
instance:DecidableEq Ss:=fun a b=>decidable_of_iff (a.tick = b.tick ∧ a.arms = b.arms ∧ a.parts = b.parts ∧ a.people = b.people ∧ a.opens = b.opens) (by cases a; cases b; simp)
def eqQ (A:AE.Ari) (q p:Q):Bool:=A.band (A.bcmp .eql q.1 p.1) (A.band (A.scmp .eql q.2 p.2) (A.scmp .eql q.3 p.3))
theorem eqQ_eq {A:AE.Ari} (hA:A = AE.std) (q p:Q):eqQ A q p = decide (q = p):=by
 obtain ⟨a,b,c⟩:=q
 obtain ⟨a', b', c'⟩:=p
 simp only [eqQ,c_seql hA,AE.c_and hA,AE.c_beq hA]
 rw [Bool.eq_iff_iff]; simp
end Go.Proofs.YthadehkggddgoaaGreatDoor
end
section
set_option linter.unusedVariables false
set_option linter.unusedSimpArgs false
namespace Go.Proofs.YthadehkggddgoaaGreatDoor
open Go Go.Num
def doneI (st p np s ns:Int):Int:=if st ≠ 0 then st else if p < 0 ∨ np ≤ p ∨ s < 0 ∨ ns ≤ s then 1 else 0
def partAt (w:Wk) (i:Int):Pt:=w.parts.getD i.toNat ⟨⟨⟨[]⟩⟩,[],⟨⟨Q.nil,Q.nil⟩,⟨false,Q.nil⟩⟩⟩
def slotAt (w:Wk) (i:Int):Sl:=w.slots.getD i.toNat ⟨⟨⟨[]⟩⟩,⟨⟨Q.nil,Q.nil⟩,⟨false,Q.nil⟩⟩,Q.nil⟩
def frAt (s:Ss) (i:Int):Fr:=s.parts.getD i.toNat ⟨⟨Q.nil,Q.nil⟩,⟨false,Q.nil⟩⟩
theorem getD_some {α : Type} {l:List α} {i:Nat} (h:i < l.length) (d:α):l[i]? = some (l.getD i d):=by
 rw [List.getD_eq_getElem?_getD,List.getElem?_eq_getElem h]; rfl
theorem done_in {w:Wk} {s:Ss} {p q:Int} (h:doneI (stateC w s) p w.parts.length q w.slots.length = 0):stateC w s = 0 ∧ 0 ≤ p ∧ p < w.parts.length ∧ 0 ≤ q ∧ q < w.slots.length:=by
 unfold doneI at h
 split at h
 ·omega
 ·split at h
  ·omega
  ·omega
end Go.Proofs.YthadehkggddgoaaGreatDoor
end
end
section
set_option linter.unusedVariables false
set_option linter.unusedSimpArgs false
namespace Go.Proofs.YthadehkggddgoaaGreatDoor
open Go Go.Num
theorem Ss.few_wt (s:Ss) {n:Nat} (h:s.wt ≤ n) (hn:n ≤ 2 ^ 28):s.Few:=by
 obtain ⟨h1,h2,h3,h4⟩:=s.parts_wt h
 have:=lw_len As.wt1 s.arms; have:=lw_len Fr.wt1 s.parts; have:=lw_len V2.wt1 s.people; have:=lw_len (ρ:=fun _:Bool=>1) (fun _=>Nat.le_refl _) s.opens
 refine ⟨⟨by omega,fun x hx=>?_⟩,by omega,by omega,by omega⟩
 have h5:=lw_mem (ρ:=As.wt) hx
 obtain ⟨_,g1,g2⟩:=x.le_wt (n:=n) (by omega) hn
 omega
theorem Q.few_wt (q:Q) {n:Nat} (h:q.wt ≤ n) (hn:n ≤ 2 ^ 55):q.few:=by
 simp only [Q.wt] at h; exact ⟨by omega,by omega⟩
theorem Ss.fewI_wt (s:Ss) {n:Nat} (h:s.wt ≤ n) (hn:n ≤ 2 ^ 55) (hi:s.ints):s.few:=by
 obtain ⟨ht,hh⟩:=hi
 obtain ⟨h1,h2,h3,h4⟩:=s.parts_wt h
 have:=lw_len As.wt1 s.arms; have:=lw_len Fr.wt1 s.parts; have:=lw_len V2.wt1 s.people; have:=lw_len (ρ:=fun _:Bool=>1) (fun _=>Nat.le_refl _) s.opens
 refine ⟨ht,⟨by omega,fun x hx=>?_⟩,⟨by omega,fun f hf=>?_⟩,⟨by omega,fun p hp=>?_⟩,⟨by omega,fun _ _=>trivial⟩⟩
 ·have h5:=lw_mem (ρ:=As.wt) hx
  simp only [As.wt] at h5
  have:=lw_len Q.wt1 x.q; have:=lw_len Q.wt1 x.v
  refine ⟨⟨by omega,fun q hq=>?_⟩,⟨by omega,fun q hq=>?_⟩,hh x hx⟩
  ·have:=lw_mem (ρ:=Q.wt) hq; exact q.few_wt (n:=n) (by omega) hn
  ·have:=lw_mem (ρ:=Q.wt) hq; exact q.few_wt (n:=n) (by omega) hn
 ·have h5:=lw_mem (ρ:=Fr.wt) hf
  simp only [Fr.wt,V2.wt,Tn.wt] at h5
  exact ⟨⟨f.at_.x.few_wt (n:=n) (by omega) hn,f.at_.y.few_wt (n:=n) (by omega) hn⟩,f.turn.t.few_wt (n:=n) (by omega) hn⟩
 ·have h5:=lw_mem (ρ:=V2.wt) hp
  simp only [V2.wt] at h5
  exact ⟨p.x.few_wt (n:=n) (by omega) hn,p.y.few_wt (n:=n) (by omega) hn⟩
theorem As.S_size (p:As):p.S.size ≤ 64 * (p.wt + 1):=by
 have h1:=lsS_size (ρ:=Q.wt) (f:=Q.S) (fun q=>by have:=q.S_size; omega) p.q
 have h2:=lsS_size (ρ:=Q.wt) (f:=Q.S) (fun q=>by have:=q.S_size; omega) p.v
 have h3:=boolS_size p.power
 have h4:=natS_size (p.holds + 1)
 simp only [As.S,app_sz,As.wt]; omega
theorem Ss.S_size (s:Ss):s.S.size ≤ 128 * (s.wt + 1):=by
 have h1:=lsS_size (ρ:=fun x:As=>2 * x.wt) (f:=As.S) (fun x=>by have:=x.S_size; have:=x.wt1; omega) s.arms
 have h2:=lsS_size (ρ:=Fr.wt) (f:=Fr.S) (fun x=>by have:=x.S_size; omega) s.parts
 have h3:=lsS_size (ρ:=V2.wt) (f:=V2.S) (fun x=>x.S_size') s.people
 have h4:=lsS_size (ρ:=fun _:Bool=>1) (f:=boolS) (fun x=>by have:=boolS_size x; omega) s.opens
 have h5:=natS_size s.tick
 have h6:lw (fun x:As=>2 * x.wt) s.arms ≤ 2 * lw As.wt s.arms:=by
  simp only [lw]
  have:∀ l:List As,(l.map fun x=>2 * x.wt).sum = 2 * (l.map As.wt).sum:=by
   intro l
   induction l with
   | nil=>rfl
   | cons a l ih=>simp only [List.map_cons,List.sum_cons,ih]; omega
  rw [this]; omega
 simp only [Ss.S,app_sz,Ss.wt]; omega
end Go.Proofs.YthadehkggddgoaaGreatDoor
end
end
end
