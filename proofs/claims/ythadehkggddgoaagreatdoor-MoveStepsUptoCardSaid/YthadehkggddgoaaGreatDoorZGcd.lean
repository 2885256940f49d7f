/- Contract: nat.Gcd (begun; NOTES says whether it builds). -/
import Derived.Test.YthadehkggddgoaaGreatDoorZHalves
import Derived.Test.YthadehkggddgoaaGreatDoorZDiv
set_option maxRecDepth 100000
set_option maxHeartbeats 0
set_option linter.unusedVariables false
set_option linter.unusedSimpArgs false
namespace Go.Proofs.YthadehkggddgoaaGreatDoor
open Go Go.Num
theorem enc_nil {x:Nat}:enc x = ⟨⟨[]⟩⟩ ↔ x = 0:=by
 rw [← enc_zero]; exact ⟨fun h=>enc_inj h,fun h=>by rw [h]⟩
theorem catE {A:AE.Ari} (hA:A = AE.std) (s t:ByteArray):A.cat s t = s ++ t:=by subst hA; rfl
theorem gcd_ok (a b:ByteArray) (ha:a.size ≤ 2 ^ 34) (hb:b.size ≤ 2 ^ 34) (r:ByteArray) (hr:r = enc (Nat.gcd (bv a) (bv b))):AE.ACallG GG Tryz.prog 133 [] [.v (.string a),.v (.string b)] [] (.v (.string r)):=by
 refine AE.ACallG.of_walk (fn:=Tryz.f133) (c:=bodyOf Tryz.f133) GG_stays tabOK Tryz.func133 rfl rfl mixed fun A hA X=>?_
 obtain ⟨s,hs⟩:∃ s,s = enc (bv a):=⟨_,rfl⟩
 obtain ⟨t,ht⟩:∃ s,s = enc (bv b):=⟨_,rfl⟩
 have k1:=trim_ok a s hs
 have k2:=trim_ok b t ht
 obtain ⟨x,hx⟩:∃ x,x = bv a:=⟨_,rfl⟩
 obtain ⟨y,hy⟩:∃ x,x = bv b:=⟨_,rfl⟩
 have zs:s.size ≤ 2 ^ 34:=by rw [hs]; exact Nat.le_trans (enc_size_bv a) ha
 have zt:t.size ≤ 2 ^ 34:=by rw [ht]; exact Nat.le_trans (enc_size_bv b) hb
 rw [← hx] at hs
 rw [← hy] at ht
 rw [← hx,← hy] at hr
 (repeat' (first|(refine X.g ?_; cbv)|refine X.splitT ?_|refine X.splitF ?_|refine X.sp (fun hc=>?_) (fun hc=>?_)|refine X.callsA [] k1 ?_|refine X.callsA [] k2 ?_|refine X.needT ?_))
 refine X.carries (ι:={ p:Nat × Nat × ByteArray × ByteArray // p.2.2.1 = enc p.1 ∧ p.2.2.2 = enc p.2.1 ∧ p.2.2.1.size ≤ 2 ^ 34 ∧ p.2.2.2.size ≤ 2 ^ 34 ∧ Nat.gcd p.1 p.2.1 = Nat.gcd x y }) (fun p=>[(0,.v (.string p.1.2.2.1)),(1,.v (.string p.1.2.2.2))]) (fun _=>[]) (fun p=>p.1.1 + p.1.2.1) ⟨(x,y,s,t),hs,ht,zs,zt,rfl⟩ ?_ fun i B hB=>?_
 ·(cbv <;> (and_intros <;> first|rfl|trivial))
 obtain ⟨⟨X', Y,p,q⟩,hp,hq,zp,zq,hg⟩:=i
 simp only at hp hq zp zq hg
 clear k1 k2
 have n1:A.scmp .neq p ⟨⟨[]⟩⟩ = !decide (X' = 0):=by rw [c_sneq hA,hp]; congr 2; exact propext enc_nil
 have n2:A.scmp .neq q ⟨⟨[]⟩⟩ = !decide (Y = 0):=by rw [c_sneq hA,hq]; congr 2; exact propext enc_nil
 by_cases hX0:X' = 0
 ·have c1:A.scmp .neq p ⟨⟨[]⟩⟩ = false:=by rw [n1,decide_eq_true hX0]; rfl
  have hfin:A.cat p q = r:=by
   rw [catE hA,hr,← hg,hX0,Nat.gcd_zero_left,← hq,hp,hX0,enc_zero]
   apply ba_ext; simp
  have hfit:AE.SFit (A.slen p) (A.slen q):=by rw [slen hA,slen hA]; constructor; omega
  clear hB
  (repeat' (first|(refine X.g ?_; cbv)|refine X.splitT ?_|refine X.splitF ?_|refine X.sp (fun hc=>?_) (fun hc=>?_)|refine X.need _ _ _ hfit ?_|refine X.needT ?_))
  all_goals (refine X.ret _ (X.done rfl ?_); cbv <;> (and_intros <;> first|exact hfin|rfl|trivial))
 have c1:A.scmp .neq p ⟨⟨[]⟩⟩ = true:=by rw [n1,decide_eq_false hX0]; rfl
 by_cases hY0:Y = 0
 ·have c2:A.scmp .neq q ⟨⟨[]⟩⟩ = false:=by rw [n2,decide_eq_true hY0]; rfl
  have hfin:A.cat p q = r:=by
   rw [catE hA,hr,← hg,hY0,Nat.gcd_zero_right,← hp,hq,hY0,enc_zero]
   apply ba_ext; simp
  have hfit:AE.SFit (A.slen p) (A.slen q):=by rw [slen hA,slen hA]; constructor; omega
  clear hB
  (repeat' (first|(refine X.g ?_; cbv)|refine X.splitT ?_|refine X.splitF ?_|refine X.sp (fun hc=>?_) (fun hc=>?_)|refine X.need _ _ _ hfit ?_|refine X.needT ?_))
  all_goals (refine X.ret _ (X.done rfl ?_); cbv <;> (and_intros <;> first|exact hfin|rfl|trivial))
 have c2:A.scmp .neq q ⟨⟨[]⟩⟩ = true:=by rw [n2,decide_eq_false hY0]; rfl
 by_cases hsw:p.size < q.size
 ·have c3:A.cmp .lss (A.slen p) (A.slen q) = true:=ltT hA (slen hA p) (slen hA q) hsw
  by_cases h8:q.size ≤ 8
  ·have c4:A.cmp .leq (A.slen q) 8 = true:=leT hA (slen hA q) (b:=8) rfl h8
   have p8:Y < 256 ^ 8:=enc_size.1 (by rw [← hq]; exact h8)
   have q8:X' < 256 ^ 8:=enc_size.1 (by rw [← hp]; omega)
   obtain ⟨zp,hzp⟩:∃ z:Int,z = (Y:Int):=⟨_,rfl⟩
   obtain ⟨zq,hzq⟩:∃ z:Int,z = (X' : Int):=⟨_,rfl⟩
   obtain ⟨zg,hzg⟩:∃ z:Int,z = ((Nat.gcd Y X' : Nat):Int):=⟨_,rfl⟩
   have k1:=short_ok q h8 zp (by rw [hzp,hq,bv_enc])
   have k2:=short_ok p (by omega) zq (by rw [hzq,hp,bv_enc])
   have k3:=common_ok Y X' (by omega) (by omega) zp zq zg hzp hzq hzg
   have k4:=fromShort_ok (Nat.gcd Y X') (by have:=Nat.gcd_le_left X' (show 0 < Y by omega); omega) zg hzg r (by rw [hr,← hg]; rw [Nat.gcd_comm])
   clear hB
   (repeat' (first|(refine X.g ?_; cbv)|refine X.splitT ?_|refine X.splitF ?_|refine X.sp (fun hc=>?_) (fun hc=>?_)|refine X.needT ?_|refine X.callsA [] k1 ?_|refine X.callsA [] k2 ?_|refine X.callsA [] k3 ?_|refine X.callsA [] k4 ?_))
   all_goals (refine X.ret _ (X.done rfl ?_); cbv <;> (and_intros <;> first|rfl|trivial))
  ·have c4:A.cmp .leq (A.slen q) 8 = false:=leF hA (slen hA q) (b:=8) rfl h8
   have z8:A.bin .add .i64 (A.slen p) 8 = ((p.size + 8:Nat):Int):=addI hA (slen hA p) (y:=8) (b:=8) rfl (by omega)
   by_cases h9:q.size ≤ p.size + 8
   ·have c5:A.cmp .leq (A.slen q) (A.bin .add .i64 (A.slen p) 8) = true:=leT hA (slen hA q) z8 h9
    have k1:=halves_ok Y X' (by omega) (by omega) q p r hq hp (by omega) (by omega) (by rw [hr,← hg]; rw [Nat.gcd_comm])
    clear hB
    (repeat' (first|(refine X.g ?_; cbv)|refine X.splitT ?_|refine X.splitF ?_|refine X.sp (fun hc=>?_) (fun hc=>?_)|refine X.needT ?_|refine X.callsGA [] k1 ?_))
    all_goals (refine X.ret _ (X.done rfl ?_); cbv <;> (and_intros <;> first|rfl|trivial))
   ·have c5:A.cmp .leq (A.slen q) (A.bin .add .i64 (A.slen p) 8) = false:=leF hA (slen hA q) z8 h9
    obtain ⟨R,hR⟩:∃ R,R = Y % X' := ⟨_,rfl⟩
    obtain ⟨u,hu⟩:∃ u,u = enc R:=⟨_,rfl⟩
    obtain ⟨v,hv⟩:∃ u,u = enc (Y / X'):=⟨_,rfl⟩
    have hQ0:¬ X' = 0:=by omega
    have k1:=div_ok q p (by omega) (by omega) v u 0 (by rw [hv,hq,hp,bv_enc,bv_enc]) (by rw [hq,hp,bv_enc,bv_enc,if_neg hQ0,hu,hR]) (by rw [hp,bv_enc,if_neg hQ0])
    have hRQ:R < X' := by rw [hR]; exact Nat.mod_lt _ (by omega)
    have hlt:X' < Y:=enc_len_lt (by rw [← hq,← hp]; omega)
    have hus:u.size ≤ 2 ^ 34:=by
     have:u.size ≤ p.size:=by rw [hu,enc_size]; exact Nat.lt_trans hRQ (enc_size.1 (by rw [← hp]; exact Nat.le_refl _))
     omega
    have hg2:Nat.gcd X' R = Nat.gcd x y:=by rw [hR,Nat.gcd_comm,← Nat.gcd_rec,Nat.gcd_comm]; rw [Nat.gcd_comm]; exact hg
    (repeat' (first|(refine X.g ?_; cbv)|refine X.splitT ?_|refine X.splitF ?_|refine X.sp (fun hc=>?_) (fun hc=>?_)|refine X.needT ?_|refine X.callsA [] k1 ?_))
    all_goals (refine hB ⟨(X', R,p,u),hp,hu,zp,hus,hg2⟩ _ (by show X' + R < X' + Y; omega) ?_; clear hB; cbv <;> (and_intros <;> first|rfl|trivial))
 ·have c3:A.cmp .lss (A.slen p) (A.slen q) = false:=ltF hA (slen hA p) (slen hA q) hsw
  by_cases h8:p.size ≤ 8
  ·have c4:A.cmp .leq (A.slen p) 8 = true:=leT hA (slen hA p) (b:=8) rfl h8
   have p8:X' < 256 ^ 8:=enc_size.1 (by rw [← hp]; exact h8)
   have q8:Y < 256 ^ 8:=enc_size.1 (by rw [← hq]; omega)
   obtain ⟨zp,hzp⟩:∃ z:Int,z = (X' : Int):=⟨_,rfl⟩
   obtain ⟨zq,hzq⟩:∃ z:Int,z = (Y:Int):=⟨_,rfl⟩
   obtain ⟨zg,hzg⟩:∃ z:Int,z = ((Nat.gcd X' Y:Nat):Int):=⟨_,rfl⟩
   have k1:=short_ok p h8 zp (by rw [hzp,hp,bv_enc])
   have k2:=short_ok q (by omega) zq (by rw [hzq,hq,bv_enc])
   have k3:=common_ok X' Y (by omega) (by omega) zp zq zg hzp hzq hzg
   have k4:=fromShort_ok (Nat.gcd X' Y) (by have:=Nat.gcd_le_left Y (show 0 < X' by omega); omega) zg hzg r (by rw [hr,← hg])
   clear hB
   (repeat' (first|(refine X.g ?_; cbv)|refine X.splitT ?_|refine X.splitF ?_|refine X.sp (fun hc=>?_) (fun hc=>?_)|refine X.needT ?_|refine X.callsA [] k1 ?_|refine X.callsA [] k2 ?_|refine X.callsA [] k3 ?_|refine X.callsA [] k4 ?_))
   all_goals (refine X.ret _ (X.done rfl ?_); cbv <;> (and_intros <;> first|rfl|trivial))
  ·have c4:A.cmp .leq (A.slen p) 8 = false:=leF hA (slen hA p) (b:=8) rfl h8
   have z8:A.bin .add .i64 (A.slen q) 8 = ((q.size + 8:Nat):Int):=addI hA (slen hA q) (y:=8) (b:=8) rfl (by omega)
   by_cases h9:p.size ≤ q.size + 8
   ·have c5:A.cmp .leq (A.slen p) (A.bin .add .i64 (A.slen q) 8) = true:=leT hA (slen hA p) z8 h9
    have k1:=halves_ok X' Y (by omega) (by omega) p q r hp hq (by omega) (by omega) (by rw [hr,← hg])
    clear hB
    (repeat' (first|(refine X.g ?_; cbv)|refine X.splitT ?_|refine X.splitF ?_|refine X.sp (fun hc=>?_) (fun hc=>?_)|refine X.needT ?_|refine X.callsGA [] k1 ?_))
    all_goals (refine X.ret _ (X.done rfl ?_); cbv <;> (and_intros <;> first|rfl|trivial))
   ·have c5:A.cmp .leq (A.slen p) (A.bin .add .i64 (A.slen q) 8) = false:=leF hA (slen hA p) z8 h9
    obtain ⟨R,hR⟩:∃ R,R = X' % Y:=⟨_,rfl⟩
    obtain ⟨u,hu⟩:∃ u,u = enc R:=⟨_,rfl⟩
    obtain ⟨v,hv⟩:∃ u,u = enc (X' / Y):=⟨_,rfl⟩
    have hQ0:¬ Y = 0:=by omega
    have k1:=div_ok p q (by omega) (by omega) v u 0 (by rw [hv,hp,hq,bv_enc,bv_enc]) (by rw [hp,hq,bv_enc,bv_enc,if_neg hQ0,hu,hR]) (by rw [hq,bv_enc,if_neg hQ0])
    have hRQ:R < Y:=by rw [hR]; exact Nat.mod_lt _ (by omega)
    have hlt:Y < X' := enc_len_lt (by rw [← hp,← hq]; omega)
    have hus:u.size ≤ 2 ^ 34:=by
     have:u.size ≤ q.size:=by rw [hu,enc_size]; exact Nat.lt_trans hRQ (enc_size.1 (by rw [← hq]; exact Nat.le_refl _))
     omega
    have hg2:Nat.gcd Y R = Nat.gcd x y:=by rw [hR,Nat.gcd_comm,← Nat.gcd_rec,Nat.gcd_comm]; exact hg
    (repeat' (first|(refine X.g ?_; cbv)|refine X.splitT ?_|refine X.splitF ?_|refine X.sp (fun hc=>?_) (fun hc=>?_)|refine X.needT ?_|refine X.callsA [] k1 ?_))
    all_goals (refine hB ⟨(Y,R,q,u),hq,hu,zq,hus,hg2⟩ _ (by show Y + R < X' + Y; omega) ?_; clear hB; cbv <;> (and_intros <;> first|rfl|trivial))
end Go.Proofs.YthadehkggddgoaaGreatDoor
