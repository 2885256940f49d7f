/- Contracts: rat.zero, Good, fit, made, signed. Contracts: rat.Of, Sign, Neg, Abs, Mul, Add, Sub, Div, Cmp, Min, Max, Small. -/
import Derived.Test.YthadehkggddgoaaGreatDoorZGcd
import Derived.Test.YthadehkggddgoaaGreatDoorZAdd
import Derived.Test.YthadehkggddgoaaGreatDoorZLongL
import Derived.Test.YthadehkggddgoaaGreatDoorZData
section
set_option maxRecDepth 100000
set_option maxHeartbeats 0
set_option linter.unusedVariables false
set_option linter.unusedSimpArgs false
namespace Go.Proofs.YthadehkggddgoaaGreatDoor
open Go Go.Num
theorem zero_ok (r:Q) (hr:r = Q.of 0):AE.ACall Tryz.prog 152 [] [] [] (.a r.c):=by
 refine AE.ACall.of_walk (fn:=Tryz.f152) (c:=bodyOf Tryz.f152) tabOK Tryz.func152 rfl rfl mixed fun A hA X=>?_
 have e1:false = r.neg:=by rw [hr,Q.of_zero]
 have e2:(⟨⟨[]⟩⟩:ByteArray) = r.num:=by rw [hr,Q.of_zero]
 have e3:(⟨⟨[1]⟩⟩:ByteArray) = r.den:=by rw [hr,Q.of_zero]
 (repeat' (first|(refine X.g ?_; cbv)|refine X.splitT ?_|refine X.splitF ?_|refine X.sp (fun hc=>?_) (fun hc=>?_)|refine X.needT ?_))
 all_goals (refine X.ret _ (X.done rfl ?_); cbv <;> (and_intros <;> first|exact e1|exact e2|exact e3|rfl|trivial))
theorem ba_cons {s:ByteArray} (h:s ≠ ⟨⟨[]⟩⟩):∃ b l,s.data.toList = b :: l:=by
 cases hl:s.data.toList with
 | nil=>exact absurd (ba_ext (by rw [hl])) h
 | cons b l=>exact ⟨b,l,rfl⟩
theorem bv_cons {s:ByteArray} {b:UInt8} {l:List UInt8} (h:s.data.toList = b :: l) (hb:b ≠ 0):bv s ≠ 0:=by
 rw [bv,h]
 have:=val_ge (l:=l) hb
 have:=Nat.pow_pos (n:=l.length) (show 0 < 256 by decide)
 omega
theorem good_ok (q:Q) (h:q.sz ≤ 2 ^ 34) (r:Bool) (hr:r = decide q.Good):AE.ACallG GG Tryz.prog 62 [] [.a q.c] [] (.b r):=by
 have h1:=Q.le1 h
 have h2:=Q.le2 h
 obtain ⟨neg,num,den⟩:=q
 simp only [Q.c] at h1 h2 ⊢
 refine AE.ACallG.of_walk (fn:=Tryz.f62) (c:=bodyOf Tryz.f62) GG_stays tabOK Tryz.func62 rfl rfl mixed fun A hA X=>?_
 have hbad:¬ (Q.Good ⟨neg,num,den⟩) → false = r:=fun h=>by rw [hr,decide_eq_false h]
 obtain ⟨g,hg⟩:∃ g,g = enc (Nat.gcd (bv num) (bv den)):=⟨_,rfl⟩
 have k1:=gcd_ok num den h1 h2 g hg
 have hgood:Nat.gcd (bv num) (bv den) = 1 → (num.data.toList.head? ≠ some 0) → (den.data.toList.head? ≠ some 0) → bv den ≠ 0 → (bv num = 0 → neg = false) → true = r:=fun a b c d e=>by rw [hr,decide_eq_true (show Q.Good ⟨neg,num,den⟩ from ⟨b,c,d,e,a⟩)]
 by_cases hd0:den = ⟨⟨[]⟩⟩
 ·have d1:A.scmp .eql den ⟨⟨[]⟩⟩ = true:=by rw [c_seql hA,decide_eq_true hd0]
  have hb:=hbad fun h=>by obtain ⟨_,_,h,_⟩:=h; rw [hd0] at h; exact h rfl
  (repeat' (first|(refine X.g ?_; cbv)|refine X.splitT ?_|refine X.splitF ?_|refine X.sp (fun hc=>?_) (fun hc=>?_)|refine X.needT ?_))
  all_goals (refine X.ret _ (X.done rfl ?_); cbv <;> (and_intros <;> first|exact hb|rfl|trivial))
 have d1:A.scmp .eql den ⟨⟨[]⟩⟩ = false:=by rw [c_seql hA,decide_eq_false hd0]
 obtain ⟨b,l,hl⟩:=ba_cons hd0
 have ib:A.sidx den 0 = b.toNat:=by subst hA; exact bAt_get (i:=0) (by rw [hl]; rfl)
 have inb:AE.InR 0 (A.slen den):=⟨by omega,by rw [slen hA,← size_data,hl]; simp⟩
 by_cases hb0:b = 0
 ·have d2:A.cmp .eql (A.sidx den 0) 0 = true:=by rw [AE.c_eql hA,ib,hb0]; rfl
  have hb:=hbad fun h=>by obtain ⟨_,h,_⟩:=h; exact h (by rw [hl,hb0]; rfl)
  (repeat' (first|(refine X.g ?_; cbv)|refine X.splitT ?_|refine X.splitF ?_|refine X.sp (fun hc=>?_) (fun hc=>?_)|refine X.need _ _ _ inb ?_|refine X.needT ?_))
  all_goals (refine X.ret _ (X.done rfl ?_); cbv <;> (and_intros <;> first|exact hb|rfl|trivial))
 have d2:A.cmp .eql (A.sidx den 0) 0 = false:=by
  rw [AE.c_eql hA,ib]; simp; intro h2; exact hb0 (UInt8.toNat_inj.1 (by simpa using h2))
 have hden:den.data.toList.head? ≠ some 0:=by rw [hl]; simpa using hb0
 have hden0:bv den ≠ 0:=bv_cons hl hb0
 have hone:den = ⟨⟨[1]⟩⟩ ↔ bv den = 1:=by
  rw [← enc_one]; exact ⟨fun h=>by rw [h,bv_enc],fun h=>by rw [← enc_bv hden,h]⟩
 have hg1:A.scmp .eql g ⟨⟨[1]⟩⟩ = decide (Nat.gcd (bv num) (bv den) = 1):=by
  rw [c_seql hA,hg,← enc_one]; congr 1; exact propext ⟨fun h=>enc_inj h,fun h=>by rw [h]⟩
 by_cases hn0:num = ⟨⟨[]⟩⟩
 ·have n1:A.scmp .eql num ⟨⟨[]⟩⟩ = true:=by rw [c_seql hA,decide_eq_true hn0]
  have n2:A.scmp .neq num ⟨⟨[]⟩⟩ = false:=by rw [c_sneq hA,decide_eq_true hn0]; rfl
  have hv0:bv num = 0:=by rw [hn0]; rfl
  have hnum:num.data.toList.head? ≠ some 0:=by rw [hn0]; simp
  by_cases hneg:neg = true
  ·have hb:=hbad fun h=>by obtain ⟨_,_,_,h,_⟩:=h; have:=h hv0; simp only at this; rw [hneg] at this; cases this
   (repeat' (first|(refine X.g ?_; cbv)|refine X.splitT ?_|refine X.splitF ?_|refine X.sp (fun hc=>?_) (fun hc=>?_)|refine X.need _ _ _ inb ?_|refine X.needT ?_))
   all_goals (refine X.ret _ (X.done rfl ?_); cbv <;> (and_intros <;> first|exact hb|rfl|trivial))
  have hneg' : neg = false:=by simpa using hneg
  by_cases ho:den = ⟨⟨[1]⟩⟩
  ·have o1:A.scmp .neq den ⟨⟨[1]⟩⟩ = false:=by rw [c_sneq hA,decide_eq_true ho]; rfl
   have o2:A.scmp .eql den ⟨⟨[1]⟩⟩ = true:=by rw [c_seql hA,decide_eq_true ho]
   have hb:=hgood (by rw [hone.1 ho,Nat.gcd_one_right]) hnum hden hden0 (fun _=>hneg')
   (repeat' (first|(refine X.g ?_; cbv)|refine X.splitT ?_|refine X.splitF ?_|refine X.sp (fun hc=>?_) (fun hc=>?_)|refine X.need _ _ _ inb ?_|refine X.needT ?_))
   all_goals (refine X.ret _ (X.done rfl ?_); cbv <;> (and_intros <;> first|exact hb|rfl|trivial))
  ·have o1:A.scmp .neq den ⟨⟨[1]⟩⟩ = true:=by rw [c_sneq hA,decide_eq_false ho]; rfl
   have hb:=hbad fun h=>by obtain ⟨_,_,_,_,h⟩:=h; simp only at h; rw [hv0,Nat.gcd_zero_left] at h; exact ho (hone.2 h)
   (repeat' (first|(refine X.g ?_; cbv)|refine X.splitT ?_|refine X.splitF ?_|refine X.sp (fun hc=>?_) (fun hc=>?_)|refine X.need _ _ _ inb ?_|refine X.needT ?_))
   all_goals (refine X.ret _ (X.done rfl ?_); cbv <;> (and_intros <;> first|exact hb|rfl|trivial))
 have n1:A.scmp .eql num ⟨⟨[]⟩⟩ = false:=by rw [c_seql hA,decide_eq_false hn0]
 have n2:A.scmp .neq num ⟨⟨[]⟩⟩ = true:=by rw [c_sneq hA,decide_eq_false hn0]; rfl
 obtain ⟨c,l2,hl2⟩:=ba_cons hn0
 have ic:A.sidx num 0 = c.toNat:=by subst hA; exact bAt_get (i:=0) (by rw [hl2]; rfl)
 have inc:AE.InR 0 (A.slen num):=⟨by omega,by rw [slen hA,← size_data,hl2]; simp⟩
 by_cases hc0:c = 0
 ·have d3:A.cmp .eql (A.sidx num 0) 0 = true:=by rw [AE.c_eql hA,ic,hc0]; rfl
  have hb:=hbad fun h=>by obtain ⟨h,_⟩:=h; exact h (by rw [hl2,hc0]; rfl)
  (repeat' (first|(refine X.g ?_; cbv)|refine X.splitT ?_|refine X.splitF ?_|refine X.sp (fun hc=>?_) (fun hc=>?_)|refine X.need _ _ _ inb ?_|refine X.need _ _ _ inc ?_|refine X.needT ?_))
  all_goals (refine X.ret _ (X.done rfl ?_); cbv <;> (and_intros <;> first|exact hb|rfl|trivial))
 have d3:A.cmp .eql (A.sidx num 0) 0 = false:=by
  rw [AE.c_eql hA,ic]; simp; intro h2; exact hc0 (UInt8.toNat_inj.1 (by simpa using h2))
 have hnum:num.data.toList.head? ≠ some 0:=by rw [hl2]; simpa using hc0
 have hnum0:bv num ≠ 0:=bv_cons hl2 hc0
 by_cases ho:den = ⟨⟨[1]⟩⟩
 ·have o2:A.scmp .eql den ⟨⟨[1]⟩⟩ = true:=by rw [c_seql hA,decide_eq_true ho]
  have hb:=hgood (by rw [hone.1 ho,Nat.gcd_one_right]) hnum hden hden0 (fun h=>absurd h hnum0)
  (repeat' (first|(refine X.g ?_; cbv)|refine X.splitT ?_|refine X.splitF ?_|refine X.sp (fun hc=>?_) (fun hc=>?_)|refine X.need _ _ _ inb ?_|refine X.need _ _ _ inc ?_|refine X.needT ?_))
  all_goals (refine X.ret _ (X.done rfl ?_); cbv <;> (and_intros <;> first|exact hb|rfl|trivial))
 ·have o2:A.scmp .eql den ⟨⟨[1]⟩⟩ = false:=by rw [c_seql hA,decide_eq_false ho]
  have hb:A.scmp .eql g ⟨⟨[1]⟩⟩ = r:=by
   rw [hg1,hr]
   congr 1
   exact propext ⟨fun h=>⟨hnum,hden,hden0,fun h=>absurd h hnum0,h⟩,fun h=>h.2.2.2.2⟩
  (repeat' (first|(refine X.g ?_; cbv)|refine X.splitT ?_|refine X.splitF ?_|refine X.sp (fun hc=>?_) (fun hc=>?_)|refine X.need _ _ _ inb ?_|refine X.need _ _ _ inc ?_|refine X.callsGA [] k1 ?_|refine X.needT ?_))
  all_goals (refine X.ret _ (X.done rfl ?_); cbv <;> (and_intros <;> first|exact hb|rfl|trivial))
theorem fit_eq (q:Q):(if q.Good then q else Q.of 0) = Q.of q.v:=by
 split
 ·rename_i h; exact (Q.of_v h).symm
 ·rename_i h; rw [Q.v_bad h]
theorem fit_ok (q:Q) (h:q.sz ≤ 2 ^ 34) (r:Q) (hr:r = Q.of q.v):AE.ACallG GG Tryz.prog 70 [] [.a q.c] [] (.a r.c):=by
 refine AE.ACallG.of_walk (fn:=Tryz.f70) (c:=bodyOf Tryz.f70) GG_stays tabOK Tryz.func70 rfl rfl mixed fun A hA X=>?_
 obtain ⟨g,hg⟩:∃ g,g = decide q.Good:=⟨_,rfl⟩
 have k1:=good_ok q h g hg
 rw [← fit_eq] at hr
 by_cases hq:q.Good
 ·have c1:g = true:=by rw [hg,decide_eq_true hq]
  have c2:A.bnot g = false:=by rw [AE.c_not hA,c1]; rfl
  rw [if_pos hq] at hr
  subst hr
  (repeat' (first|(refine X.g ?_; cbv)|refine X.splitT ?_|refine X.splitF ?_|refine X.sp (fun hc=>?_) (fun hc=>?_)|refine X.callsGA [] k1 ?_|refine X.needT ?_))
  all_goals (refine X.ret _ (X.done rfl ?_); cbv <;> (and_intros <;> first|rfl|trivial))
 ·have c1:g = false:=by rw [hg,decide_eq_false hq]
  have c2:A.bnot g = true:=by rw [AE.c_not hA,c1]; rfl
  rw [if_neg hq] at hr
  have k2:=zero_ok r hr
  (repeat' (first|(refine X.g ?_; cbv)|refine X.splitT ?_|refine X.splitF ?_|refine X.sp (fun hc=>?_) (fun hc=>?_)|refine X.callsGA [] k1 ?_|refine X.callsA [] k2 ?_|refine X.needT ?_))
  all_goals (refine X.ret _ (X.done rfl ?_); cbv <;> (and_intros <;> first|rfl|trivial))
theorem made_ok (neg:Bool) (n d:Nat) (hd:d ≠ 0) (sn sd:ByteArray) (hn:sn = enc n) (hsd:sd = enc d) (h1:sn.size ≤ 2 ^ 34) (h2:sd.size ≤ 2 ^ 34) (r:Q) (hr:r = Q.of (mkRat (sg neg n) d)):AE.ACallG GG Tryz.prog 72 [] [.b neg,.v (.string sn),.v (.string sd)] [] (.a r.c):=by
 refine AE.ACallG.of_walk (fn:=Tryz.f72) (c:=bodyOf Tryz.f72) GG_stays tabOK Tryz.func72 rfl rfl mixed fun A hA X=>?_
 by_cases h0:n = 0
 ·have c1:A.scmp .eql sn ⟨⟨[]⟩⟩ = true:=by rw [c_seql hA,hn,decide_eq_true (enc_nil.2 h0)]
  have k:=zero_ok r (by rw [hr,h0,made_zero])
  (repeat' (first|(refine X.g ?_; cbv)|refine X.splitT ?_|refine X.splitF ?_|refine X.sp (fun hc=>?_) (fun hc=>?_)|refine X.callsA [] k ?_|refine X.needT ?_))
  all_goals (refine X.ret _ (X.done rfl ?_); cbv <;> (and_intros <;> first|rfl|trivial))
 have c1:A.scmp .eql sn ⟨⟨[]⟩⟩ = false:=by rw [c_seql hA,hn,decide_eq_false (fun h=>h0 (enc_nil.1 h))]
 rw [← made_red neg hd h0] at hr
 by_cases ho:d = 1
 ·have c2:A.scmp .neq sd ⟨⟨[1]⟩⟩ = false:=by rw [c_sneq hA,hsd,ho,enc_one,decide_eq_true rfl]; rfl
  have hgd:Nat.gcd n d = 1:=by rw [ho]; exact Nat.gcd_one_right n
  have e2:sn = r.num:=by rw [hr,hn]; show _ = enc (n / _); rw [hgd,Nat.div_one]
  have e3:sd = r.den:=by rw [hr,hsd]; show _ = enc (d / _); rw [hgd,Nat.div_one]
  have e1:neg = r.neg:=by rw [hr]
  (repeat' (first|(refine X.g ?_; cbv)|refine X.splitT ?_|refine X.splitF ?_|refine X.sp (fun hc=>?_) (fun hc=>?_)|refine X.needT ?_))
  all_goals (refine X.ret _ (X.done rfl ?_); cbv <;> (and_intros <;> first|exact e1|exact e2|exact e3|rfl|trivial))
 have c2:A.scmp .neq sd ⟨⟨[1]⟩⟩ = true:=by rw [c_sneq hA,hsd,← enc_one,decide_eq_false (fun h=>ho (enc_inj h))]; rfl
 obtain ⟨G,hG⟩:∃ G,G = Nat.gcd n d:=⟨_,rfl⟩
 obtain ⟨g,hg⟩:∃ g,g = enc G:=⟨_,rfl⟩
 have k1:=gcd_ok sn sd h1 h2 g (by rw [hg,hG,hn,hsd,bv_enc,bv_enc])
 have hG0:G ≠ 0:=by rw [hG]; exact Nat.ne_of_gt (Nat.gcd_pos_of_pos_right _ (Nat.pos_of_ne_zero hd))
 by_cases hg1:G = 1
 ·have c3:A.scmp .neq g ⟨⟨[1]⟩⟩ = false:=by rw [c_sneq hA,hg,hg1,enc_one,decide_eq_true rfl]; rfl
  have e2:sn = r.num:=by rw [hr,hn]; show _ = enc (n / _); rw [← hG,hg1,Nat.div_one]
  have e3:sd = r.den:=by rw [hr,hsd]; show _ = enc (d / _); rw [← hG,hg1,Nat.div_one]
  have e1:neg = r.neg:=by rw [hr]
  (repeat' (first|(refine X.g ?_; cbv)|refine X.splitT ?_|refine X.splitF ?_|refine X.sp (fun hc=>?_) (fun hc=>?_)|refine X.callsGA [] k1 ?_|refine X.needT ?_))
  all_goals (refine X.ret _ (X.done rfl ?_); cbv <;> (and_intros <;> first|exact e1|exact e2|exact e3|rfl|trivial))
 ·have c3:A.scmp .neq g ⟨⟨[1]⟩⟩ = true:=by rw [c_sneq hA,hg,← enc_one,decide_eq_false (fun h=>hg1 (enc_inj h))]; rfl
  have hgs:g.size ≤ 2 ^ 34:=by
   have h3:g.size ≤ sd.size:=by
    rw [hg,enc_size]
    exact Nat.lt_of_le_of_lt (by rw [hG]; exact Nat.gcd_le_right _ (Nat.pos_of_ne_zero hd)) (enc_size.1 (by rw [← hsd]; exact Nat.le_refl _))
   omega
  have e2:enc (n / G) = r.num:=by rw [hr,hG]
  have e3:enc (d / G) = r.den:=by rw [hr,hG]
  have e1:neg = r.neg:=by rw [hr]
  obtain ⟨u,hu⟩:∃ u,u = enc (n / G):=⟨_,rfl⟩
  obtain ⟨u', hu'⟩:∃ u,u = enc (n % G):=⟨_,rfl⟩
  obtain ⟨w,hw⟩:∃ u,u = enc (d / G):=⟨_,rfl⟩
  obtain ⟨w', hw'⟩:∃ u,u = enc (d % G):=⟨_,rfl⟩
  have k2:=div_ok sn g (by omega) (by omega) u u' 0 (by rw [hu,hn,hg,bv_enc,bv_enc]) (by rw [hg,hn,bv_enc,bv_enc,if_neg hG0,hu']) (by rw [hg,bv_enc,if_neg hG0])
  have k3:=div_ok sd g (by omega) (by omega) w w' 0 (by rw [hw,hsd,hg,bv_enc,bv_enc]) (by rw [hg,hsd,bv_enc,bv_enc,if_neg hG0,hw']) (by rw [hg,bv_enc,if_neg hG0])
  have e2' : u = r.num:=hu.trans e2
  have e3' : w = r.den:=hw.trans e3
  (repeat' (first|(refine X.g ?_; cbv)|refine X.splitT ?_|refine X.splitF ?_|refine X.sp (fun hc=>?_) (fun hc=>?_)|refine X.callsGA [] k1 ?_|refine X.callsA [] k2 ?_|refine X.callsA [] k3 ?_|refine X.needT ?_))
  all_goals (refine X.ret _ (X.done rfl ?_); cbv <;> (and_intros <;> first|exact e1|exact e2' | exact e3' | rfl|trivial))
theorem signed_ok (neg minus:Bool) (a b:Nat) (sa sb:ByteArray) (ha:sa = enc a) (hb:sb = enc b) (h1:sa.size ≤ 2 ^ 36) (h2:sb.size ≤ 2 ^ 36) (n:Bool) (m:Nat) (sm:ByteArray) (hsm:sm = enc m)
  (hn:n = if neg = minus ∨ b ≤ a then neg else minus) (hm:m = if neg = minus then a + b else if b ≤ a then a - b else b - a):AE.ACall Tryz.prog 71 [] [.b neg,.v (.string sa),.b minus,.v (.string sb)] [] (.t [.b n,.v (.string sm)]):=by
 refine AE.ACall.of_walk (fn:=Tryz.f71) (c:=bodyOf Tryz.f71) tabOK Tryz.func71 rfl rfl mixed fun A hA X=>?_
 by_cases h:neg = minus
 ·have c1:A.bcmp .eql neg minus = true:=by rw [AE.c_beq hA]; simpa using h
  rw [if_pos h] at hm
  have e1:neg = n:=by rw [hn,if_pos (.inl h)]
  have k:=add_ok sa sb (by omega) (by omega) sm (by rw [hsm,hm,ha,hb,bv_enc,bv_enc])
  (repeat' (first|(refine X.g ?_; cbv)|refine X.splitT ?_|refine X.splitF ?_|refine X.sp (fun hc=>?_) (fun hc=>?_)|refine X.callsA [] k ?_|refine X.needT ?_))
  all_goals (refine X.ret _ (X.done rfl ?_); cbv <;> (and_intros <;> first|exact e1|rfl|trivial))
 have c1:A.bcmp .eql neg minus = false:=by rw [AE.c_beq hA]; simpa using h
 rw [if_neg h] at hm
 obtain ⟨d,hd⟩:∃ d,d = enc (a - b):=⟨_,rfl⟩
 by_cases hab:b ≤ a
 ·rw [if_pos hab] at hm
  have e1:neg = n:=by rw [hn,if_pos (.inr hab)]
  have k:=natSub_ok sa sb (by omega) (by omega) sm 0 (by rw [hsm,hm,ha,hb,bv_enc,bv_enc]) (by rw [ha,hb,bv_enc,bv_enc,if_neg (by omega)])
  have c2:A.cmp .eql 0 0 = true:=by rw [AE.c_eql hA]; rfl
  (repeat' (first|(refine X.g ?_; cbv)|refine X.splitT ?_|refine X.splitF ?_|refine X.sp (fun hc=>?_) (fun hc=>?_)|refine X.callsA [] k ?_|refine X.needT ?_))
  all_goals (refine X.ret _ (X.done rfl ?_); cbv <;> (and_intros <;> first|exact e1|rfl|trivial))
 ·rw [if_neg hab] at hm
  have e1:minus = n:=by rw [hn,if_neg (fun hh=>hh.elim h hab)]
  have k:=natSub_ok sa sb (by omega) (by omega) d 1 (by rw [hd,ha,hb,bv_enc,bv_enc]) (by rw [ha,hb,bv_enc,bv_enc,if_pos (by omega)])
  have k2:=natSub_ok sb sa (by omega) (by omega) sm 0 (by rw [hsm,hm,ha,hb,bv_enc,bv_enc]) (by rw [ha,hb,bv_enc,bv_enc,if_neg (by omega)])
  have c2:A.cmp .eql 1 0 = false:=by rw [AE.c_eql hA]; rfl
  (repeat' (first|(refine X.g ?_; cbv)|refine X.splitT ?_|refine X.splitF ?_|refine X.sp (fun hc=>?_) (fun hc=>?_)|refine X.callsA [] k ?_|refine X.callsA [] k2 ?_|refine X.needT ?_))
  all_goals (refine X.ret _ (X.done rfl ?_); cbv <;> (and_intros <;> first|exact e1|rfl|trivial))
end Go.Proofs.YthadehkggddgoaaGreatDoor
end
section
set_option maxRecDepth 100000
set_option maxHeartbeats 0
set_option linter.unusedVariables false
set_option linter.unusedSimpArgs false
namespace Go.Proofs.YthadehkggddgoaaGreatDoor
open Go Go.Num
theorem shareG {A:AE.Ari} {P:Program} {T:AE.Tab} {fn:Func} {n0:Nat} {own' : List AE.OB} {res:AE.AV} {GG:(Nat → Option Obj) → Prop} (X:AE.Walk A P T fn n0 own' res GG) {s0 s:AE.Stop} (h:X.G s → X.G s0) (h2:X.G s):X.G s0:=h h2
theorem mkRat_one (z:Int):mkRat z 1 = (z:Rat):=by
 show mkRat z 1 = Rat.ofInt z
 have:=Rat.mkRat_self (Rat.ofInt z)
 exact this
theorem enc_mul_size (x y:Nat):(enc (x * y)).size ≤ (enc x).size + (enc y).size:=enc_size.2 (mul_lt_pow (enc_size.1 (Nat.le_refl _)) (enc_size.1 (Nat.le_refl _)))
theorem enc_add_size (x y:Nat):(enc (x + y)).size ≤ max (enc x).size (enc y).size + 1:=by
 have h1:=enc_size.1 (Nat.le_max_left (enc x).size (enc y).size)
 have h2:=enc_size.1 (Nat.le_max_right (enc x).size (enc y).size)
 rw [enc_size,Nat.pow_succ]; omega
theorem ratOf_ok (n:Int) (h1:-2 ^ 63 ≤ n) (h2:n < 2 ^ 63) (r:Q) (hr:r = Q.of (n:Rat)):AE.ACallG GG Tryz.prog 76 [] [.v (.int .i64 n)] [] (.a r.c):=by
 refine AE.ACallG.of_walk (fn:=Tryz.f76) (c:=bodyOf Tryz.f76) GG_stays tabOK Tryz.func76 rfl rfl mixed fun A hA X=>?_
 obtain ⟨s1,hs1⟩:∃ s1,s1 = enc 1:=⟨_,rfl⟩
 have hone:=enc_one
 by_cases h:0 ≤ n
 ·have c1:A.cmp .geq n 0 = true:=by rw [AE.c_geq hA]; simpa using h
  obtain ⟨s,hs⟩:∃ s,s = enc n.toNat:=⟨_,rfl⟩
  have k1:=natOf_ok n h2 s hs
  have hz:s.size ≤ 8:=by rw [hs,enc_size]; omega
  have k2:=made_ok false n.toNat 1 (by decide) s s1 hs hs1 (by omega) (by rw [hs1,enc_one]; decide) r (by rw [hr,mkRat_one]; congr 2; show _ = ((n.toNat:Nat):Int); omega)
  rw [hs1,enc_one] at k2
  (repeat' (first|(refine X.g ?_; cbv)|refine X.splitT ?_|refine X.splitF ?_|refine X.sp (fun hc=>?_) (fun hc=>?_)|refine X.callsA [] k1 ?_|refine X.callsGA [] k2 ?_|refine X.needT ?_))
  all_goals (refine X.ret _ (X.done rfl ?_); cbv <;> (and_intros <;> first|rfl|trivial))
 ·have c1:A.cmp .geq n 0 = false:=by rw [AE.c_geq hA]; simpa using h
  obtain ⟨m,hm⟩:∃ m:Int,m = -(n + 1):=⟨_,rfl⟩
  have e1:A.un .neg .i64 (A.bin .add .i64 n 1) = m:=by
   subst hA
   rw [AE.std_add (by omega) (by omega),hm]
   exact (AE.wrap_i64 (n:=0 - (n + 1)) (by omega) (by omega)).trans (by omega)
  obtain ⟨s,hs⟩:∃ s,s = enc m.toNat:=⟨_,rfl⟩
  obtain ⟨t,ht⟩:∃ s,s = enc (m.toNat + 1):=⟨_,rfl⟩
  have k1:=natOf_ok m (by omega) s hs
  have hz:s.size ≤ 8:=by rw [hs,enc_size]; omega
  have k3:=add_ok s s1 (by omega) (by rw [hs1,enc_one]; decide) t (by rw [ht,hs,hs1,bv_enc,bv_enc])
  have hz2:t.size ≤ 9:=by rw [ht,enc_size]; omega
  have k2:=made_ok true (m.toNat + 1) 1 (by decide) t s1 ht hs1 (by omega) (by rw [hs1,enc_one]; decide) r (by rw [hr,mkRat_one]; congr 2; show _ = -((m.toNat + 1:Nat):Int); omega)
  rw [hs1,enc_one] at k2 k3
  rw [← e1] at k1
  (repeat' (first|(refine X.g ?_; cbv)|refine X.splitT ?_|refine X.splitF ?_|refine X.sp (fun hc=>?_) (fun hc=>?_)|refine X.callsA [] k1 ?_|refine X.callsA [] k3 ?_|refine X.callsGA [] k2 ?_|refine X.needT ?_))
  all_goals (refine X.ret _ (X.done rfl ?_); cbv <;> (and_intros <;> first|rfl|trivial))
theorem sign_ok (q:Q) (h:q.sz ≤ 2 ^ 34) (r:Int) (hr:r = sgnR q.v):AE.ACallG GG Tryz.prog 24 [] [.a q.c] [] (.v (.int .i64 r)):=by
 refine AE.ACallG.of_walk (fn:=Tryz.f24) (c:=bodyOf Tryz.f24) GG_stays tabOK Tryz.func24 rfl rfl mixed fun A hA X=>?_
 obtain ⟨f,hf⟩:∃ f,f = Q.of q.v:=⟨_,rfl⟩
 have k1:=fit_ok q h f hf
 by_cases h0:q.v = 0
 ·have c1:A.scmp .eql f.num ⟨⟨[]⟩⟩ = true:=by rw [c_seql hA,hf,decide_eq_true (Q.num_nil.2 h0)]
  have e1:0 = r:=by rw [hr,sgnR,if_pos h0]
  (repeat' (first|(refine X.g ?_; cbv)|refine X.splitT ?_|refine X.splitF ?_|refine X.sp (fun hc=>?_) (fun hc=>?_)|refine X.callsGA [] k1 ?_|refine X.needT ?_))
  all_goals (refine X.ret _ (X.done rfl ?_); cbv <;> (and_intros <;> first|exact e1|rfl|trivial))
 have c1:A.scmp .eql f.num ⟨⟨[]⟩⟩ = false:=by rw [c_seql hA,hf,decide_eq_false (fun h=>h0 (Q.num_nil.1 h))]
 by_cases hn:q.v < 0
 ·have c2:f.neg = true:=by rw [hf]; exact neg_lt_zero.2 hn
  have e1:-1 = r:=by rw [hr,sgnR,if_neg h0,if_pos hn]
  (repeat' (first|(refine X.g ?_; cbv)|refine X.splitT ?_|refine X.splitF ?_|refine X.sp (fun hc=>?_) (fun hc=>?_)|refine X.callsGA [] k1 ?_|refine X.needT ?_))
  all_goals (refine X.ret _ (X.done rfl ?_); cbv <;> (and_intros <;> first|exact e1|rfl|trivial))
 ·have c2:f.neg = false:=by rw [hf]; rw [← Bool.not_eq_true]; exact fun h=>hn (neg_lt_zero.1 h)
  have e1:1 = r:=by rw [hr,sgnR,if_neg h0,if_neg hn]
  (repeat' (first|(refine X.g ?_; cbv)|refine X.splitT ?_|refine X.splitF ?_|refine X.sp (fun hc=>?_) (fun hc=>?_)|refine X.callsGA [] k1 ?_|refine X.needT ?_))
  all_goals (refine X.ret _ (X.done rfl ?_); cbv <;> (and_intros <;> first|exact e1|rfl|trivial))
theorem ratNeg_ok (q:Q) (h:q.sz ≤ 2 ^ 34) (r:Q) (hr:r = Q.of (-q.v)):AE.ACallG GG Tryz.prog 97 [] [.a q.c] [] (.a r.c):=by
 refine AE.ACallG.of_walk (fn:=Tryz.f97) (c:=bodyOf Tryz.f97) GG_stays tabOK Tryz.func97 rfl rfl mixed fun A hA X=>?_
 obtain ⟨f,hf⟩:∃ f,f = Q.of q.v:=⟨_,rfl⟩
 have k1:=fit_ok q h f hf
 rw [of_neg,← hf] at hr
 have e2:f.num = r.num:=by rw [hr]
 have e3:f.den = r.den:=by rw [hr]
 cases hn:f.neg
 ·have c1:A.bnot f.neg = true:=by rw [AE.c_not hA,hn]; rfl
  have e1:A.scmp .neq f.num ⟨⟨[]⟩⟩ = r.neg:=by rw [hr,c_sneq hA,hn]; simp
  (repeat' (first|(refine X.g ?_; cbv)|refine X.splitT ?_|refine X.splitF ?_|refine X.sp (fun hc=>?_) (fun hc=>?_)|refine X.callsGA [] k1 ?_|refine X.needT ?_))
  all_goals (refine X.ret _ (X.done rfl ?_); cbv <;> (and_intros <;> first|exact e1|exact e2|exact e3|rfl|trivial))
 ·have c1:A.bnot f.neg = false:=by rw [AE.c_not hA,hn]; rfl
  have e1:false = r.neg:=by rw [hr,hn]; rfl
  (repeat' (first|(refine X.g ?_; cbv)|refine X.splitT ?_|refine X.splitF ?_|refine X.sp (fun hc=>?_) (fun hc=>?_)|refine X.callsGA [] k1 ?_|refine X.needT ?_))
  all_goals (refine X.ret _ (X.done rfl ?_); cbv <;> (and_intros <;> first|exact e1|exact e2|exact e3|rfl|trivial))
theorem ratAbs_ok (q:Q) (h:q.sz ≤ 2 ^ 34) (r:Q) (hr:r = Q.of (absR q.v)):AE.ACallG GG Tryz.prog 34 [] [.a q.c] [] (.a r.c):=by
 refine AE.ACallG.of_walk (fn:=Tryz.f34) (c:=bodyOf Tryz.f34) GG_stays tabOK Tryz.func34 rfl rfl mixed fun A hA X=>?_
 obtain ⟨f,hf⟩:∃ f,f = Q.of q.v:=⟨_,rfl⟩
 have k1:=fit_ok q h f hf
 rw [of_abs,← hf] at hr
 have e1:false = r.neg:=by rw [hr]
 have e2:f.num = r.num:=by rw [hr]
 have e3:f.den = r.den:=by rw [hr]
 (repeat' (first|(refine X.g ?_; cbv)|refine X.splitT ?_|refine X.splitF ?_|refine X.sp (fun hc=>?_) (fun hc=>?_)|refine X.callsGA [] k1 ?_|refine X.needT ?_))
 all_goals (refine X.ret _ (X.done rfl ?_); cbv <;> (and_intros <;> first|exact e1|exact e2|exact e3|rfl|trivial))
theorem ratMul_ok (a b:Q) (h1:a.sz ≤ 2 ^ 32) (h2:b.sz ≤ 2 ^ 32) (r:Q) (hr:r = Q.of (a.v * b.v)):AE.ACallG GG Tryz.prog 69 [] [.a a.c,.a b.c] [] (.a r.c):=by
 refine AE.ACallG.of_walk (fn:=Tryz.f69) (c:=bodyOf Tryz.f69) GG_stays tabOK Tryz.func69 rfl rfl mixed fun A hA X=>?_
 obtain ⟨f,hf⟩:∃ f,f = Q.of a.v:=⟨_,rfl⟩
 obtain ⟨g,hg⟩:∃ f,f = Q.of b.v:=⟨_,rfl⟩
 have k1:=fit_ok a (by omega) f hf
 have k2:=fit_ok b (by omega) g hg
 have ra:=a.rs
 have rb:=b.rs
 have hz:∀ {x:Rat} {q:Q},q.sz ≤ 2 ^ 32 → rs x ≤ q.sz + 1 → (enc x.num.natAbs).size ≤ 2 ^ 32 + 1 ∧ (enc x.den).size ≤ 2 ^ 32 + 1:=fun h1 h2=>⟨Nat.le_trans (rs_num _) (by omega),Nat.le_trans (rs_den _) (by omega)⟩
 obtain ⟨za1,za2⟩:=hz h1 ra
 obtain ⟨zb1,zb2⟩:=hz h2 rb
 obtain ⟨n,hn⟩:∃ n,n = enc (a.v.num.natAbs * b.v.num.natAbs):=⟨_,rfl⟩
 obtain ⟨d,hd⟩:∃ n,n = enc (a.v.den * b.v.den):=⟨_,rfl⟩
 have fn:f.num = enc a.v.num.natAbs:=by rw [hf]; rfl
 have fd:f.den = enc a.v.den:=by rw [hf]; rfl
 have gn:g.num = enc b.v.num.natAbs:=by rw [hg]; rfl
 have gd:g.den = enc b.v.den:=by rw [hg]; rfl
 have k3:=natMul_ok f.num g.num (by rw [fn]; omega) (by rw [gn]; omega) n (by rw [hn,fn,gn,bv_enc,bv_enc])
 have k4:=natMul_ok f.den g.den (by rw [fd]; omega) (by rw [gd]; omega) d (by rw [hd,fd,gd,bv_enc,bv_enc])
 have hneg:A.bcmp .neq f.neg g.neg = (f.neg != g.neg):=AE.c_bne hA _ _
 have k5:=made_ok (A.bcmp .neq f.neg g.neg) (a.v.num.natAbs * b.v.num.natAbs) (a.v.den * b.v.den) (Nat.mul_ne_zero a.v.den_nz b.v.den_nz) n d hn hd
  (by rw [hn]; exact Nat.le_trans (enc_mul_size _ _) (by omega)) (by rw [hd]; exact Nat.le_trans (enc_mul_size _ _) (by omega)) r (by rw [hneg,sg_mul2,hf,hg,sg_num,sg_num,mul_mk rfl,hr])
 (refine X.g ?_; cbv)
 refine X.drawX _ _ _ (by kernel_rfl) ?_
 (repeat' (first|(refine X.g ?_; cbv)|refine X.splitT ?_|refine X.splitF ?_|refine X.sp (fun hc=>?_) (fun hc=>?_)|refine X.needT ?_|refine X.fork _ _ ?_ ?_|refine X.callsGA [] k1 ?_|refine X.callsGA [] k2 ?_))
 all_goals refine X.drawX _ _ _ (by kernel_rfl) (X.frzB 0 _ _ (Nat.zero_le _) (X.frzB 1 _ _ (Nat.zero_le _) ?_))
 all_goals (repeat' (first|(refine X.g ?_; cbv)|refine X.splitT ?_|refine X.splitF ?_|refine X.sp (fun hc=>?_) (fun hc=>?_)|refine X.needT ?_|refine X.callsA [] k3 ?_|refine X.callsA [] k4 ?_|refine X.callsGA [] k5 ?_))
 all_goals (refine X.ret _ (X.done rfl ?_); cbv <;> (and_intros <;> first|rfl|trivial))
end Go.Proofs.YthadehkggddgoaaGreatDoor
end
