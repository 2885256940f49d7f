/- Contracts: vec.Add, Sub, Cross; poly.left. Contracts: poly.check, poly.Check. -/
import Derived.Test.YthadehkggddgoaaGreatDoorZRatC
import Derived.Test.YthadehkggddgoaaGreatDoorZLoop
set_option maxRecDepth 100000
set_option maxHeartbeats 0
section
set_option linter.unusedVariables false
set_option linter.unusedSimpArgs false
namespace Go.Proofs.YthadehkggddgoaaGreatDoor
open Go Go.Num
structure RV where
 x:Rat
 y:Rat
def V2.v (p:V2):RV:=⟨p.x.v,p.y.v⟩
def V2.of (p:RV):V2:=⟨Q.of p.x,Q.of p.y⟩
def V2.sz (p:V2):Nat:=max p.x.sz p.y.sz
def RV.rs (p:RV):Nat:=max (Proofs.YthadehkggddgoaaGreatDoor.rs p.x) (Proofs.YthadehkggddgoaaGreatDoor.rs p.y)
theorem V2.v_of (p:RV):(V2.of p).v = p:=by simp [V2.v,V2.of,Q.v_of]
theorem V2.rs (p:V2):p.v.rs ≤ p.sz + 1:=by
 have:=p.x.rs
 have:=p.y.rs
 simp only [RV.rs,V2.v,V2.sz]; omega
theorem V2.sz_of (p:RV):(V2.of p).sz = p.rs:=rfl
def RV.add (a b:RV):RV:=⟨a.x + b.x,a.y + b.y⟩
def RV.sub (a b:RV):RV:=⟨a.x - b.x,a.y - b.y⟩
def RV.cross (a b:RV):Rat:=a.x * b.y - a.y * b.x
theorem RV.rs_add (a b:RV):(a.add b).rs ≤ a.rs + b.rs + 1:=by
 have:=Proofs.YthadehkggddgoaaGreatDoor.rs_add a.x b.x
 have:=Proofs.YthadehkggddgoaaGreatDoor.rs_add a.y b.y
 simp only [RV.rs,RV.add]; omega
theorem RV.rs_sub (a b:RV):(a.sub b).rs ≤ a.rs + b.rs + 1:=by
 have:=Proofs.YthadehkggddgoaaGreatDoor.rs_sub a.x b.x
 have:=Proofs.YthadehkggddgoaaGreatDoor.rs_sub a.y b.y
 simp only [RV.rs,RV.sub]; omega
theorem RV.rs_cross (a b:RV):Proofs.YthadehkggddgoaaGreatDoor.rs (a.cross b) ≤ 2 * (a.rs + b.rs) + 1:=by
 have:=Proofs.YthadehkggddgoaaGreatDoor.rs_sub (a.x * b.y) (a.y * b.x)
 have:=rs_mul a.x b.y
 have:=rs_mul a.y b.x
 simp only [RV.rs,RV.cross]; omega
theorem vecAdd_ok (a b:V2) (h1:a.sz ≤ 2 ^ 32) (h2:b.sz ≤ 2 ^ 32) (r:V2) (hr:r = V2.of (a.v.add b.v)):AE.ACallG GG Tryz.prog 18 [] [.a a.c,.a b.c] [] (.a r.c):=by
 simp only [V2.sz] at h1 h2
 obtain ⟨x,hx⟩:∃ x,x = Q.of (a.x.v + b.x.v):=⟨_,rfl⟩
 obtain ⟨y,hy⟩:∃ x,x = Q.of (a.y.v + b.y.v):=⟨_,rfl⟩
 have hr' : r = ⟨x,y⟩:=by rw [hr,hx,hy]; rfl
 subst hr'
 have k1:=ratAdd_ok a.x b.x (by omega) (by omega) x hx
 have k2:=ratAdd_ok a.y b.y (by omega) (by omega) y hy
 refine AE.ACallG.of_walk (fn:=Tryz.f18) (c:=bodyOf Tryz.f18) GG_stays tabOK Tryz.func18 rfl rfl mixed fun A hA X=>?_
 (refine X.g ?_; cbv)
 refine X.drawX _ _ _ (by kernel_rfl) (X.frzB 0 _ _ (Nat.zero_le _) (X.frzB 1 _ _ (Nat.zero_le _) ?_))
 (repeat' (first|(refine X.g ?_; cbv)|refine X.splitT ?_|refine X.splitF ?_|refine X.sp (fun hc=>?_) (fun hc=>?_)|refine X.needT ?_|refine X.callsGA [] k1 ?_|refine X.callsGA [] k2 ?_))
 all_goals (refine X.ret _ (X.done rfl ?_); cbv <;> (and_intros <;> first|rfl|trivial))
theorem vecSub_ok (a b:V2) (h1:a.sz ≤ 2 ^ 32) (h2:b.sz < 2 ^ 32) (r:V2) (hr:r = V2.of (a.v.sub b.v)):AE.ACallG GG Tryz.prog 77 [] [.a a.c,.a b.c] [] (.a r.c):=by
 simp only [V2.sz] at h1 h2
 obtain ⟨x,hx⟩:∃ x,x = Q.of (a.x.v - b.x.v):=⟨_,rfl⟩
 obtain ⟨y,hy⟩:∃ x,x = Q.of (a.y.v - b.y.v):=⟨_,rfl⟩
 have hr' : r = ⟨x,y⟩:=by rw [hr,hx,hy]; rfl
 subst hr'
 have k1:=ratSub_ok a.x b.x (by omega) (by omega) x hx
 have k2:=ratSub_ok a.y b.y (by omega) (by omega) y hy
 refine AE.ACallG.of_walk (fn:=Tryz.f77) (c:=bodyOf Tryz.f77) GG_stays tabOK Tryz.func77 rfl rfl mixed fun A hA X=>?_
 (refine X.g ?_; cbv)
 refine X.drawX _ _ _ (by kernel_rfl) (X.frzB 0 _ _ (Nat.zero_le _) (X.frzB 1 _ _ (Nat.zero_le _) ?_))
 (repeat' (first|(refine X.g ?_; cbv)|refine X.splitT ?_|refine X.splitF ?_|refine X.sp (fun hc=>?_) (fun hc=>?_)|refine X.needT ?_|refine X.callsGA [] k1 ?_|refine X.callsGA [] k2 ?_))
 all_goals (refine X.ret _ (X.done rfl ?_); cbv <;> (and_intros <;> first|rfl|trivial))
theorem vecCross_ok (a b:V2) (h1:a.sz ≤ 2 ^ 30) (h2:b.sz ≤ 2 ^ 30) (r:Q) (hr:r = Q.of (a.v.cross b.v)):AE.ACallG GG Tryz.prog 243 [] [.a a.c,.a b.c] [] (.a r.c):=by
 refine AE.ACallG.of_walk (fn:=Tryz.f243) (c:=bodyOf Tryz.f243) GG_stays tabOK Tryz.func243 rfl rfl mixed fun A hA X=>?_
 simp only [V2.sz] at h1 h2
 obtain ⟨x,hx⟩:∃ x,x = Q.of (a.x.v * b.y.v):=⟨_,rfl⟩
 obtain ⟨y,hy⟩:∃ x,x = Q.of (a.y.v * b.x.v):=⟨_,rfl⟩
 have k1:=ratMul_ok a.x b.y (by omega) (by omega) x hx
 have k2:=ratMul_ok a.y b.x (by omega) (by omega) y hy
 have z1:x.sz ≤ 2 ^ 32:=by
  rw [hx,sz_of]
  have:=rs_mul a.x.v b.y.v
  have:=a.x.rs
  have:=b.y.rs
  omega
 have z2:y.sz < 2 ^ 32:=by
  rw [hy,sz_of]
  have:=rs_mul a.y.v b.x.v
  have:=a.y.rs
  have:=b.x.rs
  omega
 have k3:=ratSub_ok x y z1 z2 r (by rw [hr,hx,hy,Q.v_of,Q.v_of]; rfl)
 (refine X.g ?_; cbv)
 refine X.drawX _ _ _ (by kernel_rfl) (X.frzB 0 _ _ (Nat.zero_le _) (X.frzB 1 _ _ (Nat.zero_le _) ?_))
 (repeat' (first|(refine X.g ?_; cbv)|refine X.splitT ?_|refine X.splitF ?_|refine X.sp (fun hc=>?_) (fun hc=>?_)|refine X.needT ?_|refine X.callsGA [] k1 ?_|refine X.callsGA [] k2 ?_|refine X.callsGA [] k3 ?_))
 all_goals (refine X.ret _ (X.done rfl ?_); cbv <;> (and_intros <;> first|rfl|trivial))
def leftR (a b c:RV):Int:=sgnR ((b.sub a).cross (c.sub a))
theorem polyLeft_ok (a b c:V2) (h1:a.sz ≤ 2 ^ 28) (h2:b.sz ≤ 2 ^ 28) (h3:c.sz ≤ 2 ^ 28) (r:Int) (hr:r = leftR a.v b.v c.v):AE.ACallG GG Tryz.prog 235 [] [.a a.c,.a b.c,.a c.c] [] (.v (.int .i64 r)):=by
 refine AE.ACallG.of_walk (fn:=Tryz.f235) (c:=bodyOf Tryz.f235) GG_stays tabOK Tryz.func235 rfl rfl mixed fun A hA X=>?_
 have ra:=a.rs
 have rb:=b.rs
 have rc:=c.rs
 have s1:=RV.rs_sub b.v a.v
 have s2:=RV.rs_sub c.v a.v
 have s3:=RV.rs_cross (b.v.sub a.v) (c.v.sub a.v)
 obtain ⟨x,hx⟩:∃ x,x = V2.of (b.v.sub a.v):=⟨_,rfl⟩
 obtain ⟨y,hy⟩:∃ x,x = V2.of (c.v.sub a.v):=⟨_,rfl⟩
 obtain ⟨z,hz⟩:∃ x,x = Q.of ((b.v.sub a.v).cross (c.v.sub a.v)):=⟨_,rfl⟩
 have k1:=vecSub_ok b a (by omega) (by omega) x hx
 have k2:=vecSub_ok c a (by omega) (by omega) y hy
 have k3:=vecCross_ok x y (by rw [hx,V2.sz_of]; omega) (by rw [hy,V2.sz_of]; omega) z (by rw [hz,hx,hy,V2.v_of,V2.v_of])
 have k4:=sign_ok z (by rw [hz,sz_of]; omega) r (by rw [hr,hz,Q.v_of]; rfl)
 (refine X.g ?_; cbv)
 refine X.drawX _ _ _ (by kernel_rfl) (X.frzB 0 _ _ (Nat.zero_le _) (X.frzB 1 _ _ (Nat.zero_le _) (X.frzB 2 _ _ (Nat.zero_le _) ?_)))
 (repeat' (first|(refine X.g ?_; cbv)|refine X.splitT ?_|refine X.splitF ?_|refine X.sp (fun hc=>?_) (fun hc=>?_)|refine X.needT ?_|refine X.callsGA [] k1 ?_|refine X.callsGA [] k2 ?_|refine X.callsGA [] k3 ?_|refine X.callsGA [] k4 ?_))
 all_goals (refine X.ret _ (X.done rfl ?_); cbv <;> (and_intros <;> first|rfl|trivial))
end Go.Proofs.YthadehkggddgoaaGreatDoor
end
section
set_option linter.unusedVariables false
set_option linter.unusedSimpArgs false
namespace Go.Proofs.YthadehkggddgoaaGreatDoor
open Go Go.Num
def RV.zero:RV:=⟨0,0⟩
def polyAt (l:List RV) (i k:Nat):Int:=leftR (l.getD i .zero) (l.getD ((i + 1) % l.length) .zero) (l.getD ((i + (k + 2)) % l.length) .zero)
def polyOK (l:List RV):Prop:=∀ i,i < l.length → ∀ k,k < l.length - 2 → 0 < polyAt l i k
instance (l:List RV):Decidable (polyOK l):=by unfold polyOK; infer_instance
def polyC (most:Int) (l:List V2):Int:=if most < l.length then 2 else if l.length < 3 then 3 else if polyOK (l.map V2.v) then 0 else 3
theorem getD_of {l:List V2} {i:Nat} {y:V2} (h:l[i]? = some y):(l.map V2.v).getD i .zero = y.v:=by
 rw [List.getD_eq_getElem?_getD,List.getElem?_map,h]; rfl
theorem polyCheck_ok (l:List V2) (hsz:∀ p ∈ l,p.sz ≤ 2 ^ 28) (hl:l.length < 2 ^ 40) (most:Int) (es:List (List AE.AV)) (hes:es = lsAv V2.c l) (r:Int) (hr:r = polyC most l):AE.ACallG GG Tryz.prog 217 [] [.l 6 es,.v (.int .i64 most)] [] (.v (.int .i64 r)):=by
 refine AE.ACallG.of_walk (fn:=Tryz.f217) (c:=bodyOf Tryz.f217) GG_stays tabOK Tryz.func217 rfl rfl mixed fun A hA X=>?_
 have hlen:A.llen es = (l.length:Int):=by rw [llen hA,hes,lsAv_len]
 by_cases h1:most < l.length
 ·have c1:A.cmp .gtr (A.llen es) most = true:=by rw [AE.c_gtr hA,hlen]; exact decide_eq_true h1
  have e1:2 = r:=by rw [hr,polyC,if_pos h1]
  (repeat' (first|(refine X.g ?_; cbv)|refine X.splitT ?_|refine X.splitF ?_|refine X.sp (fun hc=>?_) (fun hc=>?_)|refine X.needT ?_))
  all_goals (refine X.ret _ (X.done rfl ?_); cbv <;> (and_intros <;> first|exact e1|rfl|trivial))
 have c1:A.cmp .gtr (A.llen es) most = false:=by rw [AE.c_gtr hA,hlen]; exact decide_eq_false h1
 by_cases h2:l.length < 3
 ·have c2:A.cmp .lss (A.llen es) 3 = true:=ltT hA hlen (b:=3) rfl h2
  have e1:3 = r:=by rw [hr,polyC,if_neg h1,if_pos h2]
  (repeat' (first|(refine X.g ?_; cbv)|refine X.splitT ?_|refine X.splitF ?_|refine X.sp (fun hc=>?_) (fun hc=>?_)|refine X.needT ?_))
  all_goals (refine X.ret _ (X.done rfl ?_); cbv <;> (and_intros <;> first|exact e1|rfl|trivial))
 have c2:A.cmp .lss (A.llen es) 3 = false:=ltF hA hlen (b:=3) rfl h2
 have hne:A.llen es ≠ 0:=by rw [hlen]; omega
 rw [polyC,if_neg h1,if_neg h2] at hr
 have hbad:∀ i k,i < l.length → k < l.length - 2 → ¬ 0 < polyAt (l.map V2.v) i k → 3 = r:=fun i k hi hk h=>by
  rw [hr,if_neg (fun hh=>h (hh i (by simpa using hi) k (by simpa using hk)))]
 (repeat' (first|(refine X.g ?_; cbv)|refine X.splitT ?_|refine X.splitF ?_|refine X.sp (fun hc=>?_) (fun hc=>?_)|refine X.needT ?_))
 refine rangeL0 X hA hes (by omega) (fun i=>∀ i', i' < i → ∀ k,k < l.length - 2 → 0 < polyAt (l.map V2.v) i' k) (fun z _=>[(20,.v (.int .i64 z))]) (fun i h=>absurd h (Nat.not_lt_zero _)) ?_ (fun i z y hz hy he c3 hI B hB=>?_) (fun z c3 hI B=>?_)
 ·(cbv <;> (and_intros <;> first|rfl|trivial))
 ·have hi:i < l.length:=(List.getElem?_eq_some_iff.1 hy).1
  have ysz:=hsz y (List.mem_of_getElem? hy)
  (repeat' (first|(refine X.g ?_; cbv)|refine X.splitT ?_|refine X.splitF ?_|refine X.sp (fun hc=>?_) (fun hc=>?_)|refine X.needT ?_|refine X.idx _ _ _ _ _ _ _ _ he hz ?_))
  refine ranges0 X 2 (l.length - 2) (fun k=>∀ k', k' < k → 0 < polyAt (l.map V2.v) i k') (fun z _=>[(8,.v (.int .i64 z))]) (fun k h=>absurd h (Nat.not_lt_zero _)) ?_ (fun k zk hzk hk hJ B2 hB2=>?_) (fun zk hzk hJ B2=>?_)
  ·(cbv <;> (and_intros <;> first|rfl|trivial))
  ·have c4:A.cmp .lss zk (A.llen es) = true:=ltT hA hzk hlen (by omega)
   obtain ⟨j1,hj1⟩:∃ j,j = (i + 1) % l.length:=⟨_,rfl⟩
   obtain ⟨j2,hj2⟩:∃ j,j = (i + (k + 2)) % l.length:=⟨_,rfl⟩
   have lt1:j1 < l.length:=by rw [hj1]; exact Nat.mod_lt _ (by omega)
   have lt2:j2 < l.length:=by rw [hj2]; exact Nat.mod_lt _ (by omega)
   obtain ⟨y1,hy1⟩:∃ y,l[j1]? = some y:=⟨_,List.getElem?_eq_getElem lt1⟩
   obtain ⟨y2,hy2⟩:∃ y,l[j2]? = some y:=⟨_,List.getElem?_eq_getElem lt2⟩
   have he1:es[j1]? = some y1.c:=by rw [hes]; exact lsAv_get hy1
   have he2:es[j2]? = some y2.c:=by rw [hes]; exact lsAv_get hy2
   have i1:A.bin .rem .i64 (A.bin .add .i64 z 1) (A.llen es) = (j1:Int):=by
    rw [hj1]; exact remI hA (addI hA hz (y:=1) (b:=1) rfl (by omega)) hlen
   have i2:A.bin .rem .i64 (A.bin .add .i64 z zk) (A.llen es) = (j2:Int):=by
    rw [hj2,show i + (k + 2) = i + (2 + k) by omega]; exact remI hA (addI hA hz hzk (by omega)) hlen
   obtain ⟨s,hs⟩:∃ s,s = polyAt (l.map V2.v) i k:=⟨_,rfl⟩
   have k1:=polyLeft_ok y y1 y2 ysz (hsz y1 (List.mem_of_getElem? hy1)) (hsz y2 (List.mem_of_getElem? hy2)) s (by
    rw [hs,polyAt,List.length_map,getD_of hy,← hj1,← hj2,getD_of hy1,getD_of hy2])
   by_cases hp:0 < s
   ·have c5:A.cmp .leq s 0 = false:=by rw [AE.c_leq hA]; exact decide_eq_false (by omega)
    clear hB
    (repeat' (first|(refine X.g ?_; cbv)|refine X.splitT ?_|refine X.splitF ?_|refine X.sp (fun hc=>?_) (fun hc=>?_)|refine X.needT ?_|refine X.drawX _ _ _ (by kernel_rfl) ?_|refine X.need _ _ _ hne ?_|refine X.idx _ _ _ _ _ _ _ _ he1 i1 ?_|refine X.idx _ _ _ _ _ _ _ _ he2 i2 ?_|refine X.callsGA [] k1 ?_))
    all_goals (refine hB2 _ (addI hA hzk (y:=1) (b:=1) rfl (by omega)) (fun k' hk' => ?_) _ ?_)
    all_goals first|(by_cases e:k' = k; (rw [e,← hs]; exact hp); exact hJ k' (by omega))|(clear hB2; (cbv <;> (and_intros <;> first|rfl|trivial)))
   ·have c5:A.cmp .leq s 0 = true:=by rw [AE.c_leq hA]; exact decide_eq_true (by omega)
    have e1:=hbad i k hi hk (by rw [← hs]; exact hp)
    clear hB hB2
    (repeat' (first|(refine X.g ?_; cbv)|refine X.splitT ?_|refine X.splitF ?_|refine X.sp (fun hc=>?_) (fun hc=>?_)|refine X.needT ?_|refine X.drawX _ _ _ (by kernel_rfl) ?_|refine X.need _ _ _ hne ?_|refine X.idx _ _ _ _ _ _ _ _ he1 i1 ?_|refine X.idx _ _ _ _ _ _ _ _ he2 i2 ?_|refine X.callsGA [] k1 ?_))
    all_goals (refine X.ret _ (X.done rfl ?_); cbv <;> (and_intros <;> first|exact e1|rfl|trivial))
  ·have c4:A.cmp .lss zk (A.llen es) = false:=ltF hA hzk hlen (by omega)
   (repeat' (first|(refine X.g ?_; cbv)|refine X.splitT ?_|refine X.splitF ?_|refine X.sp (fun hc=>?_) (fun hc=>?_)|refine X.needT ?_))
   all_goals (refine hB (fun i' hi' => ?_) _ ?_)
   all_goals first|(by_cases e:i' = i; (rw [e]; exact hJ); exact hI i' (by omega))|(clear hB; (cbv <;> (and_intros <;> first|rfl|trivial)))
 ·have hok:polyOK (l.map V2.v):=fun i hi k hk=>hI i (by simpa using hi) k (by simpa using hk)
  have e1:0 = r:=by rw [hr,if_pos hok]
  (repeat' (first|(refine X.g ?_; cbv)|refine X.splitT ?_|refine X.splitF ?_|refine X.sp (fun hc=>?_) (fun hc=>?_)|refine X.needT ?_))
  all_goals (refine X.ret _ (X.done rfl ?_); cbv <;> (and_intros <;> first|exact e1|rfl|trivial))
theorem polyCheck8_ok (l:List V2) (hsz:∀ p ∈ l,p.sz ≤ 2 ^ 28) (hl:l.length < 2 ^ 40) (es:List (List AE.AV)) (hes:es = lsAv V2.c l) (r:Int) (hr:r = polyC 8 l):AE.ACallG GG Tryz.prog 195 [] [.l 6 es] [] (.v (.int .i64 r)):=by
 refine AE.ACallG.of_walk (fn:=Tryz.f195) (c:=bodyOf Tryz.f195) GG_stays tabOK Tryz.func195 rfl rfl mixed fun A hA X=>?_
 have k1:=polyCheck_ok l hsz hl 8 es hes r hr
 (repeat' (first|(refine X.g ?_; cbv)|refine X.splitT ?_|refine X.splitF ?_|refine X.sp (fun hc=>?_) (fun hc=>?_)|refine X.callsGA [] k1 ?_|refine X.needT ?_))
 all_goals (refine X.ret _ (X.done rfl ?_); cbv <;> (and_intros <;> first|rfl|trivial))
end Go.Proofs.YthadehkggddgoaaGreatDoor
end
