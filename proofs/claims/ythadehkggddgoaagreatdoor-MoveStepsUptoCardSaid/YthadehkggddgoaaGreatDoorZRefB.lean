/- Contract: the reference's Works. -/
import Derived.Test.YthadehkggddgoaaGreatDoorZRefA
import Derived.Test.YthadehkggddgoaaGreatDoorZWorks
set_option maxRecDepth 100000
set_option maxHeartbeats 0
set_option linter.unusedVariables false
set_option linter.unusedSimpArgs false
namespace Go.Proofs.YthadehkggddgoaaGreatDoor
open Go Go.Num
theorem addN_len (ns:List ByteArray) (s:ByteArray):(addN ns s).2.length ≤ ns.length + 1:=by
 unfold addN; split
 ·exact Nat.le_succ _
 ·split
  ·exact Nat.le_succ _
  ·simp
theorem armN_len (ns:List ByteArray) (a:Ar):(armN ns a).2.length ≤ ns.length + 1:=by
 unfold armN; split
 ·exact Nat.le_succ _
 ·exact addN_len _ _
theorem nmAt_len {α : Type} {f:List ByteArray → α → Int × List ByteArray} (hf:∀ ns x,(f ns x).2.length ≤ ns.length + 1) (ns:List ByteArray) (l:List α) (i:Nat):(nmAt f ns l i).length ≤ ns.length + i:=by
 induction i with
 | zero=>simp [nmAt]
 | succ i ih =>
  by_cases hi:i < l.length
  ·rw [nmAt_succ (List.getElem?_eq_getElem hi)]
   have:=hf (nmAt f ns l i) l[i]
   omega
  ·have:nmAt f ns l (i + 1) = nmAt f ns l i:=by rw [nmAt,nmAt,List.take_of_length_le (by omega),List.take_of_length_le (by omega)]
   rw [this]; omega
theorem nmAt_all {α : Type} {f:List ByteArray → α → Int × List ByteArray} {ns:List ByteArray} {l:List α} (h:eachN f ns l = eachN f (nmAt f ns l l.length) (l.drop l.length)):eachN f ns l = (0,nmAt f ns l l.length):=by rw [h,List.drop_length]; rfl
theorem cmpR_bd (a b:Rat):-1 ≤ cmpR a b ∧ cmpR a b ≤ 1:=by rw [cmpR_eq]; exact cmp2_bd _ _
theorem sgnR_bd (a:Rat):-1 ≤ sgnR a ∧ sgnR a ≤ 1:=by unfold sgnR; split <;> (try split) <;> omega
theorem refWorks_ok (w:Wk) (hw:w.Le) (r:Int) (hr:r = worksC w):AE.ACallG GG Tryz.prog 50 [] [.a w.c] [] (.v (.int .i64 r)):=by
 refine AE.ACallG.of_walk (fn:=Tryz.f50) (c:=bodyOf Tryz.f50) GG_stays tabOK Tryz.func50 rfl rfl mixed fun A hA X=>?_
 obtain ⟨a,ha⟩:∃ e,e = (wksA w).1:=⟨_,rfl⟩
 obtain ⟨b,hb⟩:∃ e,e = firstE shapeC w.walls:=⟨_,rfl⟩
 obtain ⟨c,hcp⟩:∃ e,e = (wksP w).1:=⟨_,rfl⟩
 obtain ⟨d,hd⟩:∃ e,e = (wksS w).1:=⟨_,rfl⟩
 obtain ⟨e,he⟩:∃ e,e = (wksG w).1:=⟨_,rfl⟩
 obtain ⟨ws,hws⟩:∃ g,g = decide (∀ q ∈ [w.walk],q.Small):=⟨_,rfl⟩
 have hws2:decide w.walk.Small = ws:=by rw [hws]; congr 1; simp
 obtain ⟨wz,hwz⟩:∃ g,g = sgnR w.walk.v:=⟨_,rfl⟩
 have zw:=hw.walk
 have q2:=refSmall_ok [w.walk] (by simpa using by omega) (by simp) [w.walk.c] (by rw [lsAv_eq]; rfl) ws hws
 have q3:=sign_ok w.walk (by omega) wz hwz
 have wzb:=sgnR_bd w.walk.v
 rw [← hwz] at wzb
 obtain ⟨ea,hea⟩:∃ es,es = lsAv Ar.c w.arms:=⟨_,rfl⟩
 obtain ⟨ew,hew⟩:∃ es,es = lsAv wallC w.walls:=⟨_,rfl⟩
 obtain ⟨ep,hep⟩:∃ es,es = lsAv Pt.c w.parts:=⟨_,rfl⟩
 obtain ⟨es,hes⟩:∃ es,es = lsAv Sl.c w.slots:=⟨_,rfl⟩
 obtain ⟨eg,heg⟩:∃ es,es = lsAv Gt.c w.gates:=⟨_,rfl⟩
 have l1:A.llen ea = (w.arms.length:Int):=by rw [llen hA,hea,lsAv_len]
 have l2:A.llen ew = (w.walls.length:Int):=by rw [llen hA,hew,lsAv_len]
 have l3:A.llen ep = (w.parts.length:Int):=by rw [llen hA,hep,lsAv_len]
 have l4:A.llen es = (w.slots.length:Int):=by rw [llen hA,hes,lsAv_len]
 have l5:A.llen eg = (w.gates.length:Int):=by rw [llen hA,heg,lsAv_len]
 obtain ⟨zz,hzz⟩:∃ z,z = walkI (firstE (fun e=>e) [a,b,c,d,e]) ws wz:=⟨_,rfl⟩
 have hr:r = worksI (A.llen ea) (A.llen ew) (A.llen ep) (A.llen es) (A.llen eg) zz:=by rw [hr,worksC,l1,l2,l3,l4,l5,hzz,ha,hb,hcp,hd,he,hws2,hwz]
 have f1:a ≠ 0 → zz = a:=fun h=>by rw [hzz]; simp [walkI,firstE,h]
 have f2:a = 0 → b ≠ 0 → zz = b:=fun h0 h=>by rw [hzz]; simp [walkI,firstE,h0,h]
 have f3:a = 0 → b = 0 → c ≠ 0 → zz = c:=fun h0 h1 h=>by rw [hzz]; simp [walkI,firstE,h0,h1,h]
 have f4:a = 0 → b = 0 → c = 0 → d ≠ 0 → zz = d:=fun h0 h1 h2 h=>by rw [hzz]; simp [walkI,firstE,h0,h1,h2,h]
 have f5:a = 0 → b = 0 → c = 0 → d = 0 → e ≠ 0 → zz = e:=fun h0 h1 h2 h3 h=>by rw [hzz]; simp [walkI,firstE,h0,h1,h2,h3,h]
 have f6:a = 0 → b = 0 → c = 0 → d = 0 → e = 0 → zz = if ws = true ∧ 0 ≤ wz then 0 else 1:=fun h0 h1 h2 h3 h4=>by rw [hzz]; simp [walkI,firstE,h0,h1,h2,h3,h4]
 obtain ⟨arms,harms⟩:∃ x,x = w.arms:=⟨_,rfl⟩
 obtain ⟨walls,hwalls⟩:∃ x,x = w.walls:=⟨_,rfl⟩
 obtain ⟨parts,hparts⟩:∃ x,x = w.parts:=⟨_,rfl⟩
 obtain ⟨slots,hslots⟩:∃ x,x = w.slots:=⟨_,rfl⟩
 obtain ⟨gates,hgates⟩:∃ x,x = w.gates:=⟨_,rfl⟩
 have wl1:=hw.arms
 have wl2:=hw.walls
 have wl3:=hw.parts
 have wl4:=hw.slots
 have wl5:=hw.gates
 have lim:A.llen ea ≤ 4 → A.llen ew ≤ 10 → A.llen ep ≤ 6 → A.llen es ≤ 8 → A.llen eg ≤ 4 → arms.length ≤ 4 ∧ walls.length ≤ 10 ∧ parts.length ≤ 6 ∧ slots.length ≤ 8 ∧ gates.length ≤ 4:=by
  rw [l1,l2,l3,l4,l5,harms,hwalls,hparts,hslots,hgates]
  intro h1 h2 h3 h4 h5
  refine ⟨?_,?_,?_,?_,?_⟩ <;> omega
 have pA:wksA w = eachN armN [] arms:=by rw [wksA,harms]
 obtain ⟨nA,hnA⟩:∃ x,x = (wksA w).2:=⟨_,rfl⟩
 obtain ⟨nP,hnP⟩:∃ x,x = (wksP w).2:=⟨_,rfl⟩
 obtain ⟨nS,hnS⟩:∃ x,x = (wksS w).2:=⟨_,rfl⟩
 have pP:wksP w = eachN partN nA parts:=by rw [wksP,hparts,hnA]
 have pS:wksS w = eachN slotN nP slots:=by rw [wksS,hslots,hnP]
 have pG:wksG w = eachN gateN nS gates:=by rw [wksG,hgates,hnS]
 rw [pA] at ha hnA
 rw [pP] at hcp hnP
 rw [pS] at hd hnS
 rw [pG] at he
 rw [← harms] at hea wl1
 rw [← hwalls] at hew wl2 hb
 rw [← hparts] at hep wl3
 rw [← hslots] at hes wl4
 rw [← hgates] at heg wl5
 obtain ⟨walk,hwalk⟩:∃ q,q = w.walk:=⟨_,rfl⟩
 simp only [Wk.c,← harms,← hwalls,← hparts,← hslots,← hgates,← hea,← hew,← hep,← hes,← heg,← hwalk] at q2 q3 ⊢
 clear hw l1 l2 l3 l4 l5 pA pP pS pG hws hws2 hwz zw hwalk harms hwalls hparts hslots hgates hzz
 (repeat' (first|(refine X.g ?_; cbv)|refine X.splitT ?_|refine X.splitF ?_|refine X.sp (fun hc=>?_) (fun hc=>?_)|refine X.needT ?_|fail))
 all_goals first|(refine X.ret _ (X.done rfl ?_); cbv <;> (and_intros <;> first|rfl|trivial|(clear X q2 q3 f1 f2 f3 f4 f5 f6; rw [hr]; (try simp only [AE.c_lss hA,AE.c_leq hA,AE.c_gtr hA,AE.c_geq hA,AE.c_eql hA,AE.c_neq hA,AE.c_not hA,AE.c_and hA,AE.c_beq hA,AE.c_bne hA,decide_eq_true_eq,decide_eq_false_iff_not,Bool.not_eq_true,Bool.not_eq_false,Bool.not_eq_eq_eq_not,Bool.not_true,Bool.not_false,Int.not_lt,Int.not_le,Int.ofNat_eq_natCast] at *); unfold worksI; first|(simp_all; done)|((repeat' split) <;> first|omega|(simp_all; done)|(simp_all; omega)))))|skip
 have hb0:A.llen ea ≤ 4 ∧ A.llen ew ≤ 10 ∧ A.llen ep ≤ 6 ∧ A.llen es ≤ 8 ∧ A.llen eg ≤ 4 ∧ r = zz:=by
  clear X q2 q3 f1 f2 f3 f4 f5 f6 lim
  simp only [AE.c_lss hA,AE.c_leq hA,AE.c_gtr hA,AE.c_geq hA,AE.c_eql hA,AE.c_neq hA,AE.c_not hA,AE.c_and hA,AE.c_beq hA,AE.c_bne hA,decide_eq_true_eq,decide_eq_false_iff_not,Bool.not_eq_true,Bool.not_eq_false,Bool.not_eq_eq_eq_not,Bool.not_true,Bool.not_false,Int.not_lt,Int.not_le,Int.ofNat_eq_natCast] at *
  refine ⟨by omega,by omega,by omega,by omega,by omega,?_⟩
  rw [hr,worksI,if_neg (by omega),if_neg (by omega)]
 obtain ⟨b1,b2,b3,b4,b5,hrz⟩:=hb0
 obtain ⟨n1,n2,n3,n4,n5⟩:=lim b1 b2 b3 b4 b5
 clear lim hr
 subst hrz
 obtain ⟨sA,hsA⟩:∃ g:Nat → List (List AE.AV),∀ i,g i = lsAv strC (nmAt armN [] arms i):=⟨_,fun _=>rfl⟩
 obtain ⟨sP,hsP⟩:∃ g:Nat → List (List AE.AV),∀ i,g i = lsAv strC (nmAt partN nA parts i):=⟨_,fun _=>rfl⟩
 obtain ⟨sS,hsS⟩:∃ g:Nat → List (List AE.AV),∀ i,g i = lsAv strC (nmAt slotN nP slots i):=⟨_,fun _=>rfl⟩
 obtain ⟨sG,hsG⟩:∃ g:Nat → List (List AE.AV),∀ i,g i = lsAv strC (nmAt gateN nS gates i):=⟨_,fun _=>rfl⟩
 refine X.loopG _ _ _ (X.frzB 0 _ _ (Nat.zero_le _) (X.nilB 1 0 9 1 _ _ ?_))
 (refine X.g ?_; cbv)
 refine rangeL X hA hea (by omega) (fun i=>eachN armN [] arms = eachN armN (nmAt armN [] arms i) (arms.drop i)) (fun z _=>[(60,.v (.int .i64 z))]) (fun i=>[.dead,.box [.r 2] 176,.row 9 1 (sA i)]) rfl ?_ (fun i z y hz hy hye c3 hI B hB=>?_) (fun z c3 hI B=>?_)
 ·have h0:[] = sA 0:=by rw [hsA]; exact (lsAv_nil _).symm
  (cbv <;> (and_intros <;> first|exact h0|rfl|trivial))
 ·have yle:=wl1 y (List.mem_of_getElem? hy)
  obtain ⟨u,hu⟩:∃ u,u = armC y:=⟨_,rfl⟩
  obtain ⟨v,hv⟩:∃ u,u = (addN (nmAt armN [] arms i) y.name).1:=⟨_,rfl⟩
  have k1:=armCheck_ok y yle u hu
  have hil:i < arms.length:=(List.getElem?_eq_some_iff.1 hy).1
  have hnl:=nmAt_len armN_len [] arms i
  simp only [List.length_nil] at hnl
  rw [eachN_drop hy] at hI
  have hna:armN (nmAt armN [] arms i) y = if u ≠ 0 then (u,nmAt armN [] arms i) else addN (nmAt armN [] arms i) y.name:=by rw [armN,hu]
  rw [hna] at hI
  have yn:=yle.1
  by_cases h0:u = 0
  ·have c4:A.cmp .neq u 0 = false:=by rw [AE.c_neq hA,h0]; rfl
   rw [if_neg (by omega:¬ u ≠ 0)] at hI hna
   rw [← hv] at hI
   have hs1:sA (i + 1) = lsAv strC (addN (nmAt armN [] arms i) y.name).2:=by rw [hsA,nmAt_succ hy,hna]
   have k2:=refNames_ok (nmAt armN [] arms i) (by omega) y.name yn (sA i) (sA (i + 1)) v (hsA i) hs1 hv
   by_cases h1:v = 0
   ·have c5:A.cmp .neq v 0 = false:=by rw [AE.c_neq hA,h1]; rfl
    rw [if_neg (by omega:¬ v ≠ 0)] at hI
    have hI' : eachN armN [] arms = eachN armN (nmAt armN [] arms (i + 1)) (arms.drop (i + 1)):=by rw [hI,nmAt_succ hy,hna]
    (repeat' (first|(refine X.g ?_; cbv)|refine X.splitT ?_|refine X.splitF ?_|refine X.sp (fun hc=>?_) (fun hc=>?_)|refine X.needT ?_|refine X.idx _ _ _ _ _ _ _ _ hye hz ?_|refine X.callsGA [] k1 ?_|refine X.callsGA [1,2] k2 ?_|fail))
    all_goals (refine hB hI' _ ?_; clear hB; (cbv <;> (and_intros <;> first|rfl|trivial)))
   ·have c5:A.cmp .neq v 0 = true:=by rw [AE.c_neq hA]; simpa using h1
    rw [if_pos h1] at hI
    have e1:v = r:=by rw [f1 (by rw [ha,hI,← hv]; exact h1),ha,hI]; exact hv
    clear hB
    (repeat' (first|(refine X.g ?_; cbv)|refine X.splitT ?_|refine X.splitF ?_|refine X.sp (fun hc=>?_) (fun hc=>?_)|refine X.needT ?_|refine X.idx _ _ _ _ _ _ _ _ hye hz ?_|refine X.callsGA [] k1 ?_|refine X.callsGA [1,2] k2 ?_|fail))
    all_goals (refine X.ret _ (X.done rfl ?_); cbv <;> (and_intros <;> first|exact e1|rfl|trivial))
  ·have c4:A.cmp .neq u 0 = true:=by rw [AE.c_neq hA]; simpa using h0
   rw [if_pos h0] at hI
   simp only [ne_eq,h0,not_false_eq_true,if_true] at hI
   have e1:u = r:=by rw [f1 (by rw [ha,hI]; exact h0),ha,hI]
   clear hB
   (repeat' (first|(refine X.g ?_; cbv)|refine X.splitT ?_|refine X.splitF ?_|refine X.sp (fun hc=>?_) (fun hc=>?_)|refine X.needT ?_|refine X.idx _ _ _ _ _ _ _ _ hye hz ?_|refine X.callsGA [] k1 ?_|fail))
   all_goals (refine X.ret _ (X.done rfl ?_); cbv <;> (and_intros <;> first|exact e1|rfl|trivial))
 have hA1:=nmAt_all hI
 have a0:a = 0:=by rw [ha,hA1]
 have hnA1:nA = nmAt armN [] arms arms.length:=by rw [hnA,hA1]
 have hnAl:nA.length ≤ 4:=by rw [hnA1]; exact Nat.le_trans (nmAt_len armN_len _ _ _) (by simpa using n1)
 have hsA1:sA arms.length = lsAv strC nA:=by rw [hsA,hnA1]
 clear hI hA1 hnA1 f1 wl1 hsA
 (repeat' (first|(refine X.g ?_; cbv)|refine X.splitT ?_|refine X.splitF ?_|refine X.sp (fun hc=>?_) (fun hc=>?_)|refine X.needT ?_|fail))
 refine rangeL X hA hew (by omega) (fun i=>firstE shapeC walls = firstE shapeC (walls.drop i)) (fun z _=>[(80,.v (.int .i64 z))]) (fun i=>[.dead,.box [.r 2] 176,.row 9 1 (sA arms.length)]) rfl ?_ (fun i z y hz hy hye c3 hI B hB=>?_) (fun z c3 hI B=>?_)
 ·(cbv <;> (and_intros <;> first|rfl|trivial))
 ·obtain ⟨h1,h2⟩:=wl2 y (List.mem_of_getElem? hy)
  obtain ⟨u,hu⟩:∃ e,e = shapeC y:=⟨_,rfl⟩
  obtain ⟨ys,hys⟩:∃ e,e = lsAv V2.c y:=⟨_,rfl⟩
  have k1:=refShape_ok y h1 h2 ys hys u hu
  rw [wallC,← hys] at hye
  rw [firstE_drop hy,← hu] at hI
  by_cases h0:u = 0
  ·have c4:A.cmp .neq u 0 = false:=by rw [AE.c_neq hA,h0]; rfl
   rw [if_neg (by omega:¬ u ≠ 0)] at hI
   (repeat' (first|(refine X.g ?_; cbv)|refine X.splitT ?_|refine X.splitF ?_|refine X.sp (fun hc=>?_) (fun hc=>?_)|refine X.needT ?_|refine X.idx _ _ _ _ _ _ _ _ hye hz ?_|refine X.callsGA [] k1 ?_|fail))
   all_goals (refine hB hI _ ?_; clear hB; (cbv <;> (and_intros <;> first|rfl|trivial)))
  ·have c4:A.cmp .neq u 0 = true:=by rw [AE.c_neq hA]; simpa using h0
   rw [if_pos h0] at hI
   have e1:u = r:=by rw [f2 a0 (by rw [hb,hI]; exact h0),hb,hI]
   clear hB
   (repeat' (first|(refine X.g ?_; cbv)|refine X.splitT ?_|refine X.splitF ?_|refine X.sp (fun hc=>?_) (fun hc=>?_)|refine X.needT ?_|refine X.idx _ _ _ _ _ _ _ _ hye hz ?_|refine X.callsGA [] k1 ?_|fail))
   all_goals (refine X.ret _ (X.done rfl ?_); cbv <;> (and_intros <;> first|exact e1|rfl|trivial))
 have bz:b = 0:=by rw [hb,hI,List.drop_length]; rfl
 clear hI f2 wl2
 have hsA2:sA arms.length = sP 0:=by rw [hsA1,hsP]; rfl
 (repeat' (first|(refine X.g ?_; cbv)|refine X.splitT ?_|refine X.splitF ?_|refine X.sp (fun hc=>?_) (fun hc=>?_)|refine X.needT ?_|fail))
 refine rangeL X hA hep (by omega) (fun i=>eachN partN nA parts = eachN partN (nmAt partN nA parts i) (parts.drop i)) (fun z _=>[(93,.v (.int .i64 z))]) (fun i=>[.dead,.box [.r 2] 176,.row 9 1 (sP i)]) rfl ?_ (fun i z y hz hy hye c3 hI B hB=>?_) (fun z c3 hI B=>?_)
 ·(cbv <;> (and_intros <;> first|exact hsA2|rfl|trivial))
 ·obtain ⟨yn,y2,y3,y4⟩:=wl3 y (List.mem_of_getElem? hy)
  obtain ⟨v,hv⟩:∃ u,u = (addN (nmAt partN nA parts i) y.name).1:=⟨_,rfl⟩
  obtain ⟨u,hu⟩:∃ u,u = shapeC y.shape:=⟨_,rfl⟩
  obtain ⟨fo,hfo⟩:∃ u,u = frameB y.grasp:=⟨_,rfl⟩
  have hil:i < parts.length:=(List.getElem?_eq_some_iff.1 hy).1
  have hnl:=nmAt_len (f:=partN) (fun ns x=>addN_len ns x.name) nA parts i
  rw [eachN_drop hy] at hI
  have hna:partN (nmAt partN nA parts i) y = (partI v u fo,(addN (nmAt partN nA parts i) y.name).2):=by rw [partN,hv,hu,hfo]
  rw [hna] at hI
  have hs1:sP (i + 1) = lsAv strC (addN (nmAt partN nA parts i) y.name).2:=by rw [hsP,nmAt_succ hy,hna]
  have k2:=refNames_ok (nmAt partN nA parts i) (by omega) y.name yn (sP i) (sP (i + 1)) v (hsP i) hs1 hv
  have k4:=refFrame_ok y.grasp y4 fo hfo
  have hback:partI v u fo = 0 → eachN partN nA parts = eachN partN (nmAt partN nA parts (i + 1)) (parts.drop (i + 1)):=fun h=>by rw [hI,nmAt_succ hy,hna]; simp [h]
  have hout:∀ x,x ≠ 0 → partI v u fo = x → x = r:=fun x hx h=>by
   have h2:eachN partN nA parts = (x,(addN (nmAt partN nA parts i) y.name).2):=by rw [hI,h]; simp [hx]
   rw [f3 a0 bz (by rw [hcp,h2]; exact hx),hcp,h2]
  clear hI hna hv
  obtain ⟨name,shape,grasp⟩:=y
  obtain ⟨ys,hys⟩:∃ e,e = lsAv V2.c shape:=⟨_,rfl⟩
  simp only [Pt.c,← hys] at hye k2 k4
  have k3:=refShape_ok shape y2 y3 ys hys u hu
  by_cases h1:v = 0
  ·have c5:A.cmp .neq v 0 = false:=by rw [AE.c_neq hA,h1]; rfl
   by_cases h2:u = 0
   ·have c6:A.cmp .neq u 0 = false:=by rw [AE.c_neq hA,h2]; rfl
    cases hf:fo
    ·have e1:=hout 1 (by decide) (by rw [partI,if_neg (by omega),if_neg (by omega),hf]; rfl)
     have c7:A.bnot fo = true:=by rw [AE.c_not hA,hf]; rfl
     clear hB hback hout
     (repeat' (first|(refine X.g ?_; cbv)|refine X.splitT ?_|refine X.splitF ?_|refine X.sp (fun hc=>?_) (fun hc=>?_)|refine X.needT ?_|refine X.idx _ _ _ _ _ _ _ _ hye hz ?_|refine X.callsGA [1,2] k2 ?_|refine X.callsGA [] k3 ?_|refine X.callsGA [] k4 ?_|fail))
     all_goals (refine X.ret _ (X.done rfl ?_); cbv <;> (and_intros <;> first|exact e1|rfl|trivial))
    ·have hI' := hback (by rw [partI,if_neg (by omega),if_neg (by omega),hf]; rfl)
     have c7:A.bnot fo = false:=by rw [AE.c_not hA,hf]; rfl
     clear hback hout
     (repeat' (first|(refine X.g ?_; cbv)|refine X.splitT ?_|refine X.splitF ?_|refine X.sp (fun hc=>?_) (fun hc=>?_)|refine X.needT ?_|refine X.idx _ _ _ _ _ _ _ _ hye hz ?_|refine X.callsGA [1,2] k2 ?_|refine X.callsGA [] k3 ?_|refine X.callsGA [] k4 ?_|fail))
     all_goals (refine hB hI' _ ?_; clear hB; (cbv <;> (and_intros <;> first|rfl|trivial)))
   ·have c6:A.cmp .neq u 0 = true:=by rw [AE.c_neq hA]; simpa using h2
    have e1:=hout u h2 (by rw [partI,if_neg (by omega),if_pos h2])
    clear hB hback hout
    (repeat' (first|(refine X.g ?_; cbv)|refine X.splitT ?_|refine X.splitF ?_|refine X.sp (fun hc=>?_) (fun hc=>?_)|refine X.needT ?_|refine X.idx _ _ _ _ _ _ _ _ hye hz ?_|refine X.callsGA [1,2] k2 ?_|refine X.callsGA [] k3 ?_|fail))
    all_goals (refine X.ret _ (X.done rfl ?_); cbv <;> (and_intros <;> first|exact e1|rfl|trivial))
  ·have c5:A.cmp .neq v 0 = true:=by rw [AE.c_neq hA]; simpa using h1
   have e1:=hout v h1 (by rw [partI,if_pos h1])
   clear hB hback hout
   (repeat' (first|(refine X.g ?_; cbv)|refine X.splitT ?_|refine X.splitF ?_|refine X.sp (fun hc=>?_) (fun hc=>?_)|refine X.needT ?_|refine X.idx _ _ _ _ _ _ _ _ hye hz ?_|refine X.callsGA [1,2] k2 ?_|fail))
   all_goals (refine X.ret _ (X.done rfl ?_); cbv <;> (and_intros <;> first|exact e1|rfl|trivial))
 have hA1:=nmAt_all hI
 have c0:c = 0:=by rw [hcp,hA1]
 have hnA1:nP = nmAt partN nA parts parts.length:=by rw [hnP,hA1]
 have hnPl:nP.length ≤ 10:=by
  rw [hnA1]
  have:=nmAt_len (f:=partN) (fun ns x=>addN_len ns x.name) nA parts parts.length
  omega
 have hsP2:sP parts.length = sS 0:=by rw [hsP,hsS,← hnA1]; rfl
 clear hI hA1 hnA1 f3 wl3 hsP hsA2 hsA1
 (repeat' (first|(refine X.g ?_; cbv)|refine X.splitT ?_|refine X.splitF ?_|refine X.sp (fun hc=>?_) (fun hc=>?_)|refine X.needT ?_|fail))
 refine rangeL X hA hes (by omega) (fun i=>eachN slotN nP slots = eachN slotN (nmAt slotN nP slots i) (slots.drop i)) (fun z _=>[(118,.v (.int .i64 z))]) (fun i=>[.dead,.box [.r 2] 176,.row 9 1 (sS i)]) rfl ?_ (fun i z y hz hy hye c3 hI B hB=>?_) (fun z c3 hI B=>?_)
 ·(cbv <;> (and_intros <;> first|exact hsP2|rfl|trivial))
 ·obtain ⟨yn,y2,y3⟩:=wl4 y (List.mem_of_getElem? hy)
  obtain ⟨v,hv⟩:∃ u,u = (addN (nmAt slotN nP slots i) y.name).1:=⟨_,rfl⟩
  obtain ⟨fo,hfo⟩:∃ u,u = frameB y.frame:=⟨_,rfl⟩
  obtain ⟨sm,hsm⟩:∃ u,u = decide (∀ q ∈ [y.within],q.Small):=⟨_,rfl⟩
  have hsm2:decide y.within.Small = sm:=by rw [hsm]; congr 1; simp
  obtain ⟨u,hu⟩:∃ u,u = sgnR y.within.v:=⟨_,rfl⟩
  have hil:i < slots.length:=(List.getElem?_eq_some_iff.1 hy).1
  have hnl:=nmAt_len (f:=slotN) (fun ns x=>addN_len ns x.name) nP slots i
  rw [eachN_drop hy] at hI
  have hna:slotN (nmAt slotN nP slots i) y = (slotI v fo sm u,(addN (nmAt slotN nP slots i) y.name).2):=by rw [slotN,hv,hu,hfo,hsm2]
  rw [hna] at hI
  have hs1:sS (i + 1) = lsAv strC (addN (nmAt slotN nP slots i) y.name).2:=by rw [hsS,nmAt_succ hy,hna]
  have k2:=refNames_ok (nmAt slotN nP slots i) (by omega) y.name yn (sS i) (sS (i + 1)) v (hsS i) hs1 hv
  have k3:=refFrame_ok y.frame y2 fo hfo
  have k4:=refSmall_ok [y.within] (by simpa using by omega) (by simp) [y.within.c] (by rw [lsAv_eq]; rfl) sm hsm
  have k5:=sign_ok y.within (by omega) u hu
  have hback:slotI v fo sm u = 0 → eachN slotN nP slots = eachN slotN (nmAt slotN nP slots (i + 1)) (slots.drop (i + 1)):=fun h=>by rw [hI,nmAt_succ hy,hna]; simp [h]
  have hout:∀ x,x ≠ 0 → slotI v fo sm u = x → x = r:=fun x hx h=>by
   have h2:eachN slotN nP slots = (x,(addN (nmAt slotN nP slots i) y.name).2):=by rw [hI,h]; simp [hx]
   rw [f4 a0 bz c0 (by rw [hd,h2]; exact hx),hd,h2]
  clear hI hna hv
  obtain ⟨name,fr,q⟩:=y
  simp only [Sl.c] at hye k2 k3 k4 k5
  by_cases h1:v = 0
  ·have c5:A.cmp .neq v 0 = false:=by rw [AE.c_neq hA,h1]; rfl
   by_cases h2:fo = true ∧ sm = true ∧ 0 < u
   ·have hI' := hback (by rw [slotI,if_neg (by omega),if_pos h2])
    obtain ⟨h3,h4,h5⟩:=h2
    have c6:A.bnot fo = false:=by rw [AE.c_not hA,h3]; rfl
    have c7:A.bnot sm = false:=by rw [AE.c_not hA,h4]; rfl
    have c8:A.cmp .lss u 1 = false:=by rw [AE.c_lss hA]; exact decide_eq_false (by omega)
    clear hback hout
    (repeat' (first|(refine X.g ?_; cbv)|refine X.splitT ?_|refine X.splitF ?_|refine X.sp (fun hc=>?_) (fun hc=>?_)|refine X.needT ?_|refine X.idx _ _ _ _ _ _ _ _ hye hz ?_|refine X.callsGA [1,2] k2 ?_|(refine X.isCall ?_; refine X.lendsG [4] k4 rfl ?_ (by cbv) ?_; focus (cbv <;> (and_intros <;> first|rfl|trivial)))|refine X.callsGA [] k3 ?_|refine X.callsGA [] k5 ?_|fail))
    all_goals (refine hB hI' _ ?_; clear hB; (cbv <;> (and_intros <;> first|rfl|trivial)))
   ·have e1:=hout 1 (by decide) (by rw [slotI,if_neg (by omega),if_neg h2])
    clear hB hback hout
    cases h3:fo
    ·have c6:A.bnot fo = true:=by rw [AE.c_not hA,h3]; rfl
     (repeat' (first|(refine X.g ?_; cbv)|refine X.splitT ?_|refine X.splitF ?_|refine X.sp (fun hc=>?_) (fun hc=>?_)|refine X.needT ?_|refine X.idx _ _ _ _ _ _ _ _ hye hz ?_|refine X.callsGA [1,2] k2 ?_|refine X.callsGA [] k3 ?_|fail))
     all_goals (refine X.ret _ (X.done rfl ?_); cbv <;> (and_intros <;> first|exact e1|rfl|trivial))
    ·have c6:A.bnot fo = false:=by rw [AE.c_not hA,h3]; rfl
     cases h4:sm
     ·have c7:A.bnot sm = true:=by rw [AE.c_not hA,h4]; rfl
      (repeat' (first|(refine X.g ?_; cbv)|refine X.splitT ?_|refine X.splitF ?_|refine X.sp (fun hc=>?_) (fun hc=>?_)|refine X.needT ?_|refine X.idx _ _ _ _ _ _ _ _ hye hz ?_|refine X.callsGA [1,2] k2 ?_|(refine X.isCall ?_; refine X.lendsG [4] k4 rfl ?_ (by cbv) ?_; focus (cbv <;> (and_intros <;> first|rfl|trivial)))|refine X.callsGA [] k3 ?_|fail))
      all_goals (refine X.ret _ (X.done rfl ?_); cbv <;> (and_intros <;> first|exact e1|rfl|trivial))
     ·have c7:A.bnot sm = false:=by rw [AE.c_not hA,h4]; rfl
      have c8:A.cmp .lss u 1 = true:=by rw [AE.c_lss hA]; exact decide_eq_true (Classical.byContradiction fun hh=>h2 ⟨h3,h4,by omega⟩)
      (repeat' (first|(refine X.g ?_; cbv)|refine X.splitT ?_|refine X.splitF ?_|refine X.sp (fun hc=>?_) (fun hc=>?_)|refine X.needT ?_|refine X.idx _ _ _ _ _ _ _ _ hye hz ?_|refine X.callsGA [1,2] k2 ?_|(refine X.isCall ?_; refine X.lendsG [4] k4 rfl ?_ (by cbv) ?_; focus (cbv <;> (and_intros <;> first|rfl|trivial)))|refine X.callsGA [] k3 ?_|refine X.callsGA [] k5 ?_|fail))
      all_goals (refine X.ret _ (X.done rfl ?_); cbv <;> (and_intros <;> first|exact e1|rfl|trivial))
  ·have c5:A.cmp .neq v 0 = true:=by rw [AE.c_neq hA]; simpa using h1
   have e1:=hout v h1 (by rw [slotI,if_pos h1])
   clear hB hback hout
   (repeat' (first|(refine X.g ?_; cbv)|refine X.splitT ?_|refine X.splitF ?_|refine X.sp (fun hc=>?_) (fun hc=>?_)|refine X.needT ?_|refine X.idx _ _ _ _ _ _ _ _ hye hz ?_|refine X.callsGA [1,2] k2 ?_|fail))
   all_goals (refine X.ret _ (X.done rfl ?_); cbv <;> (and_intros <;> first|exact e1|rfl|trivial))
 have hA1:=nmAt_all hI
 have d0:d = 0:=by rw [hd,hA1]
 have hnA1:nS = nmAt slotN nP slots slots.length:=by rw [hnS,hA1]
 have hnSl:nS.length ≤ 20:=by
  rw [hnA1]
  have:=nmAt_len (f:=slotN) (fun ns x=>addN_len ns x.name) nP slots slots.length
  omega
 have hsS2:sS slots.length = sG 0:=by rw [hsS,hsG,← hnA1]; rfl
 clear hI hA1 hnA1 f4 wl4 hsS hsP2
 (repeat' (first|(refine X.g ?_; cbv)|refine X.splitT ?_|refine X.splitF ?_|refine X.sp (fun hc=>?_) (fun hc=>?_)|refine X.needT ?_|fail))
 refine rangeL X hA heg (by omega) (fun i=>eachN gateN nS gates = eachN gateN (nmAt gateN nS gates i) (gates.drop i)) (fun z _=>[(150,.v (.int .i64 z))]) (fun i=>[.dead,.box [.r 2] 176,.row 9 1 (sG i)]) rfl ?_ (fun i z y hz hy hye c3 hI B hB=>?_) (fun z c3 hI B=>?_)
 ·(cbv <;> (and_intros <;> first|exact hsS2|rfl|trivial))
 ·obtain ⟨yn,y2,y3⟩:=wl5 y (List.mem_of_getElem? hy)
  simp only [V2.sz] at y2 y3
  obtain ⟨v,hv⟩:∃ u,u = (addN (nmAt gateN nS gates i) y.name).1:=⟨_,rfl⟩
  obtain ⟨sm,hsm⟩:∃ u,u = decide (∀ q ∈ [y.zone.low.x,y.zone.low.y,y.zone.high.x,y.zone.high.y],q.Small):=⟨_,rfl⟩
  have hsm2:decide (∀ q ∈ [y.zone.low,y.zone.high],q.Small) = sm:=by rw [hsm]; congr 1; simp [V2.Small,and_assoc]
  obtain ⟨u,hu⟩:∃ u,u = cmpR y.zone.low.x.v y.zone.high.x.v:=⟨_,rfl⟩
  obtain ⟨u2,hu2⟩:∃ u,u = cmpR y.zone.low.y.v y.zone.high.y.v:=⟨_,rfl⟩
  have ub:=cmpR_bd y.zone.low.x.v y.zone.high.x.v
  have ub2:=cmpR_bd y.zone.low.y.v y.zone.high.y.v
  rw [← hu] at ub
  rw [← hu2] at ub2
  have hil:i < gates.length:=(List.getElem?_eq_some_iff.1 hy).1
  have hnl:=nmAt_len (f:=gateN) (fun ns x=>addN_len ns x.name) nS gates i
  rw [eachN_drop hy] at hI
  have hna:gateN (nmAt gateN nS gates i) y = (gateI v sm u u2,(addN (nmAt gateN nS gates i) y.name).2):=by rw [gateN,hv,hu,hu2,hsm2]
  rw [hna] at hI
  have hs1:sG (i + 1) = lsAv strC (addN (nmAt gateN nS gates i) y.name).2:=by rw [hsG,nmAt_succ hy,hna]
  have k2:=refNames_ok (nmAt gateN nS gates i) (by omega) y.name yn (sG i) (sG (i + 1)) v (hsG i) hs1 hv
  have k4:=refSmall_ok [y.zone.low.x,y.zone.low.y,y.zone.high.x,y.zone.high.y] (by simp only [List.mem_cons,List.not_mem_nil,or_false,forall_eq_or_imp,forall_eq]; omega) (by simp) [y.zone.low.x.c,y.zone.low.y.c,y.zone.high.x.c,y.zone.high.y.c] (by rw [lsAv_eq]; rfl) sm hsm
  have k5:=ratCmp_ok y.zone.low.x y.zone.high.x (by omega) (by omega) u hu
  have k6:=ratCmp_ok y.zone.low.y y.zone.high.y (by omega) (by omega) u2 hu2
  have hback:gateI v sm u u2 = 0 → eachN gateN nS gates = eachN gateN (nmAt gateN nS gates (i + 1)) (gates.drop (i + 1)):=fun h=>by rw [hI,nmAt_succ hy,hna]; simp [h]
  have hout:∀ x,x ≠ 0 → gateI v sm u u2 = x → x = r:=fun x hx h=>by
   have h2:eachN gateN nS gates = (x,(addN (nmAt gateN nS gates i) y.name).2):=by rw [hI,h]; simp [hx]
   rw [f5 a0 bz c0 d0 (by rw [he,h2]; exact hx),he,h2]
  clear hI hna hv hu hu2
  by_cases h1:v = 0
  ·have c5:A.cmp .neq v 0 = false:=by rw [AE.c_neq hA,h1]; rfl
   by_cases h2:sm = true ∧ u ≤ 0 ∧ u2 ≤ 0
   ·have hI' := hback (by rw [gateI,if_neg (by omega),if_pos h2])
    obtain ⟨h3,h4,h5⟩:=h2
    have c6:A.bnot sm = false:=by rw [AE.c_not hA,h3]; rfl
    have c7:A.cmp .eql u 1 = false:=by rw [AE.c_eql hA]; exact decide_eq_false (by omega)
    have c8:A.cmp .eql u2 1 = false:=by rw [AE.c_eql hA]; exact decide_eq_false (by omega)
    clear hback hout
    (repeat' (first|(refine X.g ?_; cbv)|refine X.splitT ?_|refine X.splitF ?_|refine X.sp (fun hc=>?_) (fun hc=>?_)|refine X.needT ?_|refine X.idx _ _ _ _ _ _ _ _ hye hz ?_|refine X.drawX _ _ _ (by kernel_rfl) (X.frzB 3 _ _ (Nat.zero_le _) ?_)|refine X.fork _ _ ?_ ?_|refine X.callsGA [1,2] k2 ?_|(refine X.isCall ?_; refine X.lendsG [6] k4 rfl ?_ (by cbv) ?_; focus (cbv <;> (and_intros <;> first|rfl|trivial)))|refine X.callsGA [] k5 ?_|refine X.callsGA [] k6 ?_|fail))
    all_goals (refine hB hI' _ ?_; clear hB; (cbv <;> (and_intros <;> first|rfl|trivial)))
   ·have e1:=hout 1 (by decide) (by rw [gateI,if_neg (by omega),if_neg h2])
    clear hB hback hout
    cases h3:sm
    ·have c6:A.bnot sm = true:=by rw [AE.c_not hA,h3]; rfl
     (repeat' (first|(refine X.g ?_; cbv)|refine X.splitT ?_|refine X.splitF ?_|refine X.sp (fun hc=>?_) (fun hc=>?_)|refine X.needT ?_|refine X.idx _ _ _ _ _ _ _ _ hye hz ?_|refine X.drawX _ _ _ (by kernel_rfl) (X.frzB 3 _ _ (Nat.zero_le _) ?_)|refine X.fork _ _ ?_ ?_|refine X.callsGA [1,2] k2 ?_|(refine X.isCall ?_; refine X.lendsG [6] k4 rfl ?_ (by cbv) ?_; focus (cbv <;> (and_intros <;> first|rfl|trivial)))|fail))
     all_goals (refine X.ret _ (X.done rfl ?_); cbv <;> (and_intros <;> first|exact e1|rfl|trivial))
    ·have c6:A.bnot sm = false:=by rw [AE.c_not hA,h3]; rfl
     by_cases h4:u = 1
     ·have c7:A.cmp .eql u 1 = true:=by rw [AE.c_eql hA]; exact decide_eq_true h4
      (repeat' (first|(refine X.g ?_; cbv)|refine X.splitT ?_|refine X.splitF ?_|refine X.sp (fun hc=>?_) (fun hc=>?_)|refine X.needT ?_|refine X.idx _ _ _ _ _ _ _ _ hye hz ?_|refine X.drawX _ _ _ (by kernel_rfl) (X.frzB 3 _ _ (Nat.zero_le _) ?_)|refine X.fork _ _ ?_ ?_|refine X.callsGA [1,2] k2 ?_|(refine X.isCall ?_; refine X.lendsG [6] k4 rfl ?_ (by cbv) ?_; focus (cbv <;> (and_intros <;> first|rfl|trivial)))|refine X.callsGA [] k5 ?_|fail))
      all_goals (refine X.ret _ (X.done rfl ?_); cbv <;> (and_intros <;> first|exact e1|rfl|trivial))
     ·have c7:A.cmp .eql u 1 = false:=by rw [AE.c_eql hA]; exact decide_eq_false h4
      have c8:A.cmp .eql u2 1 = true:=by rw [AE.c_eql hA]; exact decide_eq_true (Classical.byContradiction fun hh=>h2 ⟨h3,by omega,by omega⟩)
      (repeat' (first|(refine X.g ?_; cbv)|refine X.splitT ?_|refine X.splitF ?_|refine X.sp (fun hc=>?_) (fun hc=>?_)|refine X.needT ?_|refine X.idx _ _ _ _ _ _ _ _ hye hz ?_|refine X.drawX _ _ _ (by kernel_rfl) (X.frzB 3 _ _ (Nat.zero_le _) ?_)|refine X.fork _ _ ?_ ?_|refine X.callsGA [1,2] k2 ?_|(refine X.isCall ?_; refine X.lendsG [6] k4 rfl ?_ (by cbv) ?_; focus (cbv <;> (and_intros <;> first|rfl|trivial)))|refine X.callsGA [] k5 ?_|refine X.callsGA [] k6 ?_|fail))
      all_goals (refine X.ret _ (X.done rfl ?_); cbv <;> (and_intros <;> first|exact e1|rfl|trivial))
  ·have c5:A.cmp .neq v 0 = true:=by rw [AE.c_neq hA]; simpa using h1
   have e1:=hout v h1 (by rw [gateI,if_pos h1])
   clear hB hback hout
   (repeat' (first|(refine X.g ?_; cbv)|refine X.splitT ?_|refine X.splitF ?_|refine X.sp (fun hc=>?_) (fun hc=>?_)|refine X.needT ?_|refine X.idx _ _ _ _ _ _ _ _ hye hz ?_|refine X.callsGA [1,2] k2 ?_|fail))
   all_goals (refine X.ret _ (X.done rfl ?_); cbv <;> (and_intros <;> first|exact e1|rfl|trivial))
 have hA1:=nmAt_all hI
 have e0:e = 0:=by rw [he,hA1]
 have hr2:=f6 a0 bz c0 d0 e0
 clear hI hA1 f5 f6 wl5 hsG hsS2 ha hb hcp hd he
 (repeat' (first|(refine X.g ?_; cbv)|refine X.splitT ?_|refine X.splitF ?_|refine X.sp (fun hc=>?_) (fun hc=>?_)|refine X.needT ?_|(refine X.isCall ?_; refine X.lendsG [3] q2 rfl ?_ (by cbv) ?_; focus (cbv <;> (and_intros <;> first|rfl|trivial)))|refine X.callsGA [] q3 ?_|fail))
 all_goals (refine X.ret _ (X.done rfl ?_); cbv <;> (and_intros <;> first|rfl|trivial|(clear X q2 q3; rw [hr2]; (try simp only [AE.c_lss hA,AE.c_leq hA,AE.c_gtr hA,AE.c_geq hA,AE.c_eql hA,AE.c_neq hA,AE.c_not hA,AE.c_and hA,AE.c_beq hA,AE.c_bne hA,decide_eq_true_eq,decide_eq_false_iff_not,Bool.not_eq_true,Bool.not_eq_false,Bool.not_eq_eq_eq_not,Bool.not_true,Bool.not_false,Int.not_lt,Int.not_le,Int.ofNat_eq_natCast] at *); clear hA; first|(rw [if_pos ⟨by first|assumption|rfl,by omega⟩])|(rw [if_neg (fun h=>by first|omega|(rw [h.1] at *; contradiction)|(simp_all; done))]))))
end Go.Proofs.YthadehkggddgoaaGreatDoor
