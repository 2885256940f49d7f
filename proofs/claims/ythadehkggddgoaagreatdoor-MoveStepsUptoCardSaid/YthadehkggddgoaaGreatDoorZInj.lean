/- Contracts: slices.Clone and world.Copy, of which what they return is the caller's own; move.Open, move.Enter. Plain law: different states have different bytes. -/
import Derived.Test.YthadehkggddgoaaGreatDoorZWorld
import Derived.Test.YthadehkggddgoaaGreatDoorZMakeD
import Derived.Test.YthadehkggddgoaaGreatDoorZRState
section
set_option maxRecDepth 100000
set_option maxHeartbeats 0
set_option linter.unusedVariables false
set_option linter.unusedSimpArgs false
namespace Go.Proofs.YthadehkggddgoaaGreatDoor
open Go Go.Num
theorem cloneBoolO_ok (es:List (List AE.AV)) (hl:es.length ≤ 2 ^ 30):AE.ACall Tryz.prog 60 [] [.l 1 es] [.row 4 1 es] (.r 0):=by
 refine AE.ACall.of_walk (fn:=Tryz.f60) (c:=bodyOf Tryz.f60) tabOK Tryz.func60 rfl rfl mixed fun A hA X=>?_
 have hg:=grow0 hA hl (b:=1) (by decide) (by decide)
 have e1:A.lapp [] es = es:=by subst hA; rfl
 (refine X.g ?_; cbv)
 refine X.coin _ _ _ _ _ (fun b hb=>?_)
 cases b
 ·(repeat' (first|(refine X.g ?_; cbv)|refine X.splitT ?_|refine X.splitF ?_|refine X.sp (fun hc=>?_) (fun hc=>?_)|refine X.needT ?_|refine X.need _ _ _ hg ?_|fail))
  all_goals (refine X.ret _ (X.done rfl ?_); cbv <;> (and_intros <;> first|exact e1|rfl|trivial))
 ·have e2:=hb rfl
  (repeat' (first|(refine X.g ?_; cbv)|refine X.splitT ?_|refine X.splitF ?_|refine X.sp (fun hc=>?_) (fun hc=>?_)|refine X.needT ?_|fail))
  all_goals (refine X.ret _ (X.nilT 2 4 1 _ _ (X.done rfl ?_)); cbv <;> (and_intros <;> first|exact e2.symm|exact e2|rfl|trivial))
theorem cloneVecO_ok (es:List (List AE.AV)) (hl:es.length ≤ 2 ^ 30):AE.ACall Tryz.prog 63 [] [.l 6 es] [.row 44 6 es] (.r 0):=by
 refine AE.ACall.of_walk (fn:=Tryz.f63) (c:=bodyOf Tryz.f63) tabOK Tryz.func63 rfl rfl mixed fun A hA X=>?_
 have hg:=grow0 hA hl (b:=80) (by decide) (by decide)
 have e1:A.lapp [] es = es:=by subst hA; rfl
 (refine X.g ?_; cbv)
 refine X.coin _ _ _ _ _ (fun b hb=>?_)
 cases b
 ·(repeat' (first|(refine X.g ?_; cbv)|refine X.splitT ?_|refine X.splitF ?_|refine X.sp (fun hc=>?_) (fun hc=>?_)|refine X.needT ?_|refine X.need _ _ _ hg ?_|fail))
  all_goals (refine X.ret _ (X.done rfl ?_); cbv <;> (and_intros <;> first|exact e1|rfl|trivial))
 ·have e2:=hb rfl
  (repeat' (first|(refine X.g ?_; cbv)|refine X.splitT ?_|refine X.splitF ?_|refine X.sp (fun hc=>?_) (fun hc=>?_)|refine X.needT ?_|fail))
  all_goals (refine X.ret _ (X.nilT 2 44 6 _ _ (X.done rfl ?_)); cbv <;> (and_intros <;> first|exact e2.symm|exact e2|rfl|trivial))
theorem cloneFrameO_ok (es:List (List AE.AV)) (hl:es.length ≤ 2 ^ 30):AE.ACall Tryz.prog 79 [] [.l 10 es] [.row 66 10 es] (.r 0):=by
 refine AE.ACall.of_walk (fn:=Tryz.f79) (c:=bodyOf Tryz.f79) tabOK Tryz.func79 rfl rfl mixed fun A hA X=>?_
 have hg:=grow0 hA hl (b:=128) (by decide) (by decide)
 have e1:A.lapp [] es = es:=by subst hA; rfl
 (refine X.g ?_; cbv)
 refine X.coin _ _ _ _ _ (fun b hb=>?_)
 cases b
 ·(repeat' (first|(refine X.g ?_; cbv)|refine X.splitT ?_|refine X.splitF ?_|refine X.sp (fun hc=>?_) (fun hc=>?_)|refine X.needT ?_|refine X.need _ _ _ hg ?_|fail))
  all_goals (refine X.ret _ (X.done rfl ?_); cbv <;> (and_intros <;> first|exact e1|rfl|trivial))
 ·have e2:=hb rfl
  (repeat' (first|(refine X.g ?_; cbv)|refine X.splitT ?_|refine X.splitF ?_|refine X.sp (fun hc=>?_) (fun hc=>?_)|refine X.needT ?_|fail))
  all_goals (refine X.ret _ (X.nilT 2 66 10 _ _ (X.done rfl ?_)); cbv <;> (and_intros <;> first|exact e2.symm|exact e2|rfl|trivial))
structure Ss.Few (s:Ss):Prop where
 arms:s.arms.length ≤ 2 ^ 30 ∧ ∀ x ∈ s.arms,x.q.length ≤ 2 ^ 30 ∧ x.v.length ≤ 2 ^ 30
 parts:s.parts.length ≤ 2 ^ 30
 people:s.people.length ≤ 2 ^ 30
 opens:s.opens.length ≤ 2 ^ 30
theorem worldCopyO_ok (s:Ss) (hs:s.Few) (ex ef ev eo:List (List AE.AV)) (hex:ex = lsAv As.c s.arms) (hef:ef = lsAv Fr.c s.parts) (hev:ev = lsAv V2.c s.people) (heo:eo = lsAv boolC s.opens):AE.ACall Tryz.prog 25 [] [.a [.v (.int .i64 s.tick),.l 4 ex,.l 10 ef,.l 6 ev,.l 1 eo]] [.dead,.box [.any,.any,.any,.any,.any] 37,.row 66 10 ef,.row 44 6 ev,.row 4 1 eo,.box [.any,.any,.any,.any,.any] 37,.row 76 4 ex] (.a [.v (.int .i64 s.tick),.r 6,.r 2,.r 3,.r 4]):=by
 obtain ⟨⟨f1,f2⟩,f3,f4,f5⟩:=hs
 obtain ⟨tick,xs,fs,ps,os⟩:=s
 simp only at f1 f2 f3 f4 f5 hex hef hev heo
 have k1:=cloneFrameO_ok ef (by rw [hef,lsAv_len]; exact f3)
 have k2:=cloneVecO_ok ev (by rw [hev,lsAv_len]; exact f4)
 have k3:=cloneBoolO_ok eo (by rw [heo,lsAv_len]; exact f5)
 refine AE.ACall.of_walk (fn:=Tryz.f25) (c:=bodyOf Tryz.f25) tabOK Tryz.func25 rfl rfl mixed fun A hA X=>?_
 obtain ⟨gX,hgX⟩:∃ g:Nat → List (List AE.AV),∀ i,g i = lsAv As.c (xs.take i):=⟨_,fun _=>rfl⟩
 (refine X.g ?_; cbv)
 apply shareG X
 ·intro hs
  refine X.drawX _ _ _ (by kernel_rfl) (X.frzB 0 _ _ (Nat.zero_le _) ?_)
  (repeat' (first|(refine X.g ?_; cbv)|refine X.splitT ?_|refine X.splitF ?_|refine X.sp (fun hc=>?_) (fun hc=>?_)|refine X.needT ?_|refine X.fork _ _ ?_ ?_|refine X.callsA [] k1 ?_|refine X.callsA [] k2 ?_|refine X.callsA [] k3 ?_|fail))
  all_goals first|(refine X.loopG _ _ _ (X.perm [0,1,2,3,4,5] [5] _ _ rfl ?_); (refine X.g ?_; cbv); exact hs)|(refine X.loopG _ _ _ (X.perm [0,1,2,3,5,4] [5] _ _ rfl ?_); (refine X.g ?_; cbv); exact hs)|(refine X.loopG _ _ _ (X.perm [0,1,2,4,5,3] [5] _ _ rfl ?_); (refine X.g ?_; cbv); exact hs)|(refine X.loopG _ _ _ (X.perm [0,1,3,4,5,2] [5] _ _ rfl ?_); (refine X.g ?_; cbv); exact hs)
 refine X.loopG _ _ _ (X.nilB 5 1 76 4 _ _ ?_)
 (refine X.g ?_; cbv)
 refine rangeLS X hA hex (by omega) (fun _=>True) (fun z _=>[(21,.v (.int .i64 z))]) (fun i o=>o.set 6 (.row 76 4 (gX i))) trivial ?_ (fun i z y hz hy hye c3 hI B hB=>?_) (fun z c3 hI B=>?_)
 ·have h0:[] = gX 0:=by rw [hgX]; exact (lsAv_nil _).symm
  (cbv <;> (and_intros <;> first|exact h0|rfl|trivial))
 ·obtain ⟨g1,g2⟩:=f2 y (List.mem_of_getElem? hy)
  have e1:=lapp_take hA hy (hgX i) (hgX (i + 1))
  obtain ⟨q,v,power,holds⟩:=y
  simp only at g1 g2
  obtain ⟨eq,heq⟩:∃ es,es = lsAv Q.c q:=⟨_,rfl⟩
  obtain ⟨ew,hew⟩:∃ es,es = lsAv Q.c v:=⟨_,rfl⟩
  simp only [As.c,← heq,← hew] at hye e1
  have k4:=cloneRat_ok eq (by rw [heq,lsAv_len]; exact g1)
  have k5:=cloneRat_ok ew (by rw [hew,lsAv_len]; exact g2)
  have hgrow:∀ c,AE.GrowR (A.llen (gX i)) (A.llen [c]) 64:=fun c=>grow1 hA (n:=2 ^ 30) (by rw [hgX]; exact Nat.le_trans (take_len _ _ _) f1) (by decide) (by decide)
  clear k1 k2 k3
  (repeat' (first|(refine X.g ?_; cbv)|refine X.splitT ?_|refine X.splitF ?_|refine X.sp (fun hc=>?_) (fun hc=>?_)|refine X.needT ?_|refine X.idx _ _ _ _ _ _ _ _ hye hz ?_|fail))
  apply shareG X
  ·intro hs
   refine X.drawX _ _ _ (by kernel_rfl) ?_
   (repeat' (first|(refine X.g ?_; cbv)|refine X.splitT ?_|refine X.splitF ?_|refine X.sp (fun hc=>?_) (fun hc=>?_)|refine X.needT ?_|refine X.fork _ _ ?_ ?_|refine X.callsA [] k4 ?_|refine X.callsA [] k5 ?_|fail))
   all_goals exact hs
  (repeat' (first|(refine X.g ?_; cbv)|refine X.splitT ?_|refine X.splitF ?_|refine X.sp (fun hc=>?_) (fun hc=>?_)|refine X.needT ?_|refine X.need _ _ _ (hgrow _) ?_|fail))
  all_goals (refine hB trivial _ ?_; clear hB; (cbv <;> (and_intros <;> first|exact e1|rfl|trivial)))
 ·have r1:gX xs.length = ex:=by rw [hgX,List.take_length,hex]
  (repeat' (first|(refine X.g ?_; cbv)|refine X.splitT ?_|refine X.splitF ?_|refine X.sp (fun hc=>?_) (fun hc=>?_)|refine X.needT ?_|fail))
  all_goals (refine X.ret _ (X.done rfl ?_); cbv <;> (and_intros <;> first|exact r1|rfl|trivial))
theorem lset_std {A:AE.Ari} (hA:A = AE.std) (es:List (List AE.AV)) (i:Nat) (c:List AE.AV):A.lset es i c = es.set i c:=by subst hA; rfl
end Go.Proofs.YthadehkggddgoaaGreatDoor
end
section
set_option linter.unusedVariables false
set_option linter.unusedSimpArgs false
namespace Go.Proofs.YthadehkggddgoaaGreatDoor
open Go Go.Num
def PI {α : Type} (P:α → Prop) (f:α → ByteArray):Prop:=∀ a b,P a → P b → ∀ x y,f a ++ x = f b ++ y → a = b ∧ x = y
theorem ba_list (a b:ByteArray):(a ++ b).data.toList = a.data.toList ++ b.data.toList:=by simp
theorem baL_ext {a b:ByteArray} (h:a.data.toList = b.data.toList):a = b:=by
 apply ByteArray.ext
 exact Array.toList_inj.1 h
theorem ba_assoc (a b c:ByteArray):a ++ b ++ c = a ++ (b ++ c):=by
 apply baL_ext
 simp only [ba_list,List.append_assoc]
theorem ba_nil (a:ByteArray):a ++ ⟨⟨[]⟩⟩ = a:=by
 apply baL_ext
 rw [ba_list]; simp
theorem u8_inj {a b:Nat} (ha:a < 256) (hb:b < 256) (h:UInt8.ofNat a = UInt8.ofNat b):a = b:=by
 have:=congrArg UInt8.toNat h
 simp only [UInt8.toNat_ofNat'] at this
 omega
theorem natL_eq (u:Nat):natL u = if u < 128 then [UInt8.ofNat u] else UInt8.ofNat (u % 128 + 128) :: natL (u / 128):=by
 rw [natL]; split <;> rename_i h <;> simp [h]
theorem natL_pi:∀ (u v:Nat) (x y:List UInt8),natL u ++ x = natL v ++ y → u = v ∧ x = y:=by
 intro u
 induction u using Nat.strongRecOn with
 | _ u ih =>
  intro v x y h
  rw [natL_eq u,natL_eq v] at h
  by_cases h1:u < 128
  ·rw [if_pos h1] at h
   by_cases h2:v < 128
   ·rw [if_pos h2] at h
    simp only [List.cons_append,List.nil_append,List.cons.injEq] at h
    exact ⟨u8_inj (by omega) (by omega) h.1,h.2⟩
   ·rw [if_neg h2] at h
    simp only [List.cons_append,List.nil_append,List.cons.injEq] at h
    have:=u8_inj (by omega) (by omega) h.1
    omega
  ·rw [if_neg h1] at h
   by_cases h2:v < 128
   ·rw [if_pos h2] at h
    simp only [List.cons_append,List.nil_append,List.cons.injEq] at h
    have:=u8_inj (by omega) (by omega) h.1
    omega
   ·rw [if_neg h2] at h
    simp only [List.cons_append,List.cons.injEq] at h
    have e1:=u8_inj (by omega) (by omega) h.1
    obtain ⟨e2,e3⟩:=ih (u / 128) (by omega) (v / 128) x y h.2
    exact ⟨by omega,e3⟩
theorem natS_pi0 {a b:Int} {x y:ByteArray} (h:natS a ++ x = natS b ++ y):a % 2 ^ 64 = b % 2 ^ 64 ∧ x = y:=by
 have h2:=congrArg (fun s:ByteArray=>s.data.toList) h
 simp only [ba_list,natS,S_eq] at h2
 obtain ⟨e1,e2⟩:=natL_pi _ _ _ _ h2
 refine ⟨?_,baL_ext e2⟩
 omega
theorem natS_pi:PI I64 natS:=by
 intro a b ha hb x y h
 obtain ⟨e1,e2⟩:=natS_pi0 h
 exact ⟨by unfold I64 at ha hb; omega,e2⟩
theorem natS_pi1:PI I64 (fun n=>natS (n + 1)):=by
 intro a b ha hb x y h
 obtain ⟨e1,e2⟩:=natS_pi0 h
 exact ⟨by unfold I64 at ha hb; omega,e2⟩
theorem boolS_pi:PI (fun _=>True) boolS:=by
 intro a b _ _ x y h
 have h2:=congrArg (fun s:ByteArray=>s.data.toList) h
 simp only [ba_list] at h2
 cases a <;> cases b <;> simp [boolS] at h2 <;> exact ⟨rfl,by apply ByteArray.ext; exact h2⟩
theorem textS_pi:PI (fun s=>s.size < 2 ^ 60) textS:=by
 intro a b ha hb x y h
 rw [textS,textS,ba_assoc,ba_assoc] at h
 obtain ⟨e1,e2⟩:=natS_pi _ _ (by unfold I64; omega) (by unfold I64; omega) _ _ h
 have h2:=congrArg (fun s:ByteArray=>s.data.toList) e2
 simp only [ba_list] at h2
 have hl:a.data.toList.length = b.data.toList.length:=by
  have:a.size = b.size:=by omega
  rw [Array.length_toList,Array.length_toList]; exact this
 obtain ⟨e3,e4⟩:=List.append_inj h2 hl
 exact ⟨baL_ext e3,baL_ext e4⟩
def Q.few (q:Q):Prop:=q.num.size < 2 ^ 60 ∧ q.den.size < 2 ^ 60
theorem Q.S_pi:PI Q.few Q.S:=by
 intro a b ha hb x y h
 obtain ⟨n1,u1,d1⟩:=a
 obtain ⟨n2,u2,d2⟩:=b
 simp only [Q.S,ba_assoc] at h
 obtain ⟨e1,h⟩:=boolS_pi _ _ trivial trivial _ _ h
 obtain ⟨e2,h⟩:=textS_pi _ _ ha.1 hb.1 _ _ h
 obtain ⟨e3,h⟩:=textS_pi _ _ ha.2 hb.2 _ _ h
 exact ⟨by simp only at e1 e2 e3; rw [e1,e2,e3],h⟩
def V2.few (p:V2):Prop:=p.x.few ∧ p.y.few
theorem V2.S_pi:PI V2.few V2.S:=by
 intro a b ha hb x y h
 obtain ⟨x1,y1⟩:=a
 obtain ⟨x2,y2⟩:=b
 simp only [V2.S,ba_assoc] at h
 obtain ⟨e1,h⟩:=Q.S_pi _ _ ha.1 hb.1 _ _ h
 obtain ⟨e2,h⟩:=Q.S_pi _ _ ha.2 hb.2 _ _ h
 exact ⟨by simp only at e1 e2; rw [e1,e2],h⟩
def Fr.few (p:Fr):Prop:=p.at_.few ∧ p.turn.t.few
theorem Fr.S_pi:PI Fr.few Fr.S:=by
 intro a b ha hb x y h
 obtain ⟨p1,h1,t1⟩:=a
 obtain ⟨p2,h2,t2⟩:=b
 simp only [Fr.S,ba_assoc] at h
 obtain ⟨e1,h⟩:=V2.S_pi _ _ ha.1 hb.1 _ _ h
 obtain ⟨e2,h⟩:=boolS_pi _ _ trivial trivial _ _ h
 obtain ⟨e3,h⟩:=Q.S_pi _ _ ha.2 hb.2 _ _ h
 exact ⟨by simp only at e1 e2 e3; rw [e1,e2,e3],h⟩
theorem foldS_eq {α : Type} (f:α → ByteArray):∀ (l:List α) (a:ByteArray),l.foldl (fun acc x=>acc ++ f x) a = a ++ l.foldr (fun x acc=>f x ++ acc) ⟨⟨[]⟩⟩
 | [],a=>(ba_nil a).symm
 | x :: l,a=>by rw [List.foldl_cons,foldS_eq f l,List.foldr_cons,ba_assoc]
theorem lsS_eq {α : Type} (f:α → ByteArray) (l:List α):lsS f l = natS l.length ++ l.foldr (fun x acc=>f x ++ acc) ⟨⟨[]⟩⟩:=by
 rw [lsS,upS,List.take_length,foldS_eq]
theorem foldS_pi {α : Type} {P:α → Prop} {f:α → ByteArray} (hf:PI P f):∀ (l m:List α),l.length = m.length → (∀ a ∈ l,P a) → (∀ a ∈ m,P a) → ∀ x y,l.foldr (fun x acc=>f x ++ acc) ⟨⟨[]⟩⟩ ++ x = m.foldr (fun x acc=>f x ++ acc) ⟨⟨[]⟩⟩ ++ y → l = m ∧ x = y
 | [],[],_,_,_,x,y,h=>by
  refine ⟨rfl,baL_ext ?_⟩
  have h2:=congrArg (fun s:ByteArray=>s.data.toList) h
  simpa only [ba_list,List.foldr_nil,List.nil_append] using h2
 | a :: l,b :: m,hl,h1,h2,x,y,h=>by
  rw [List.foldr_cons,List.foldr_cons,ba_assoc,ba_assoc] at h
  obtain ⟨e1,h⟩:=hf _ _ (h1 a (by simp)) (h2 b (by simp)) _ _ h
  obtain ⟨e2,h⟩:=foldS_pi hf l m (by simpa using hl) (fun c hc=>h1 c (by simp [hc])) (fun c hc=>h2 c (by simp [hc])) _ _ h
  exact ⟨by rw [e1,e2],h⟩
def lsP {α : Type} (P:α → Prop) (l:List α):Prop:=l.length < 2 ^ 60 ∧ ∀ a ∈ l,P a
theorem lsS_pi {α : Type} {P:α → Prop} {f:α → ByteArray} (hf:PI P f):PI (lsP P) (lsS f):=by
 intro a b ha hb x y h
 rw [lsS_eq,lsS_eq,ba_assoc,ba_assoc] at h
 have:=ha.1
 have:=hb.1
 obtain ⟨e1,h⟩:=natS_pi _ _ (by unfold I64; omega) (by unfold I64; omega) _ _ h
 exact foldS_pi hf a b (by omega) ha.2 hb.2 _ _ h
def As.few (p:As):Prop:=lsP Q.few p.q ∧ lsP Q.few p.v ∧ I64 p.holds
theorem As.S_pi:PI As.few As.S:=by
 intro a b ha hb x y h
 obtain ⟨q1,v1,p1,h1⟩:=a
 obtain ⟨q2,v2,p2,h2⟩:=b
 simp only [As.S,ba_assoc] at h
 obtain ⟨e1,h⟩:=lsS_pi Q.S_pi _ _ ha.1 hb.1 _ _ h
 obtain ⟨e2,h⟩:=lsS_pi Q.S_pi _ _ ha.2.1 hb.2.1 _ _ h
 obtain ⟨e3,h⟩:=boolS_pi _ _ trivial trivial _ _ h
 obtain ⟨e4,h⟩:=natS_pi1 _ _ ha.2.2 hb.2.2 _ _ h
 exact ⟨by simp only at e1 e2 e3 e4; rw [e1,e2,e3,e4],h⟩
structure Ss.few (p:Ss):Prop where
 tick:I64 p.tick
 arms:lsP As.few p.arms
 parts:lsP Fr.few p.parts
 people:lsP V2.few p.people
 opens:lsP (fun _=>True) p.opens
theorem Ss.S_inj {a b:Ss} (ha:a.few) (hb:b.few) (h:a.S = b.S):a = b:=by
 obtain ⟨t1,a1,p1,w1,o1⟩:=a
 obtain ⟨t2,a2,p2,w2,o2⟩:=b
 have h:=congrArg (fun s:ByteArray=>s ++ (⟨⟨[]⟩⟩:ByteArray)) h
 simp only [Ss.S,ba_assoc] at h
 obtain ⟨e1,h⟩:=natS_pi _ _ ha.tick hb.tick _ _ h
 obtain ⟨e2,h⟩:=lsS_pi As.S_pi _ _ ha.arms hb.arms _ _ h
 obtain ⟨e3,h⟩:=lsS_pi Fr.S_pi _ _ ha.parts hb.parts _ _ h
 obtain ⟨e4,h⟩:=lsS_pi V2.S_pi _ _ ha.people hb.people _ _ h
 obtain ⟨e5,h⟩:=lsS_pi boolS_pi _ _ ha.opens hb.opens _ _ h
 simp only at e1 e2 e3 e4 e5
 rw [e1,e2,e3,e4,e5]
end Go.Proofs.YthadehkggddgoaaGreatDoor
end
