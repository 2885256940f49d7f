/- Contract: gantmake.arm. -/
import Derived.Test.YthadehkggddgoaaGreatDoorZMakeD
set_option maxRecDepth 100000
set_option maxHeartbeats 0
set_option linter.unusedVariables false
set_option linter.unusedSimpArgs false
namespace Go.Proofs.YthadehkggddgoaaGreatDoor
open Go Go.Num
theorem rangesS {A:AE.Ari} {P:Program} {T:AE.Tab} {fn:Func} {n0:Nat} {own' : List AE.OB} {res:AE.AV} {GG:(Nat → Option Obj) → Prop} (X:AE.Walk A P T fn n0 own' res GG) {x:Code} {K:List AE.Item} {σ : AE.St} (b n:Nat) (I:Nat → Prop) (ps:Int → Nat → List (Nat × AE.AV)) (own:Nat → List AE.OB → List AE.OB) (i0:I 0) (h0:AE.Says n0 σ (σ.carry x (ps b 0) (own 0 σ.own)))
  (step:∀ (i:Nat) (z:Int),z = ((b + i:Nat):Int) → i < n → I i → ∀ B:Act → World → Prop,(∀ z' : Int,z' = ((b + i + 1:Nat):Int) → I (i + 1) → ∀ σ' : AE.St,AE.Says n0 σ' (σ.carry x (ps z' (i + 1)) (own (i + 1) σ.own)) → X.G (.back B σ')) → X.H (.c x :: .back B :: K) (σ.carry x (ps z i) (own i σ.own)))
  (fin:∀ z:Int,z = ((b + n:Nat):Int) → I n → ∀ B:Act → World → Prop,X.H (.c x :: .back B :: K) (σ.carry x (ps z n) (own n σ.own))):X.G (.loop x K σ) :=
 ranges X b n I ps (fun i=>own i σ.own) i0 h0 step fin
def linkM (l:List Int):Lk × List Int :=
 match nextM 4 l with
 | (a,l1)=>match nextM 6 l1 with
  | (b,l2)=>match nextM 6 l2 with
   | (c,l3)=>match nextM 8 l3 with
    | (d,l4)=>match nextM 20 l4 with
     | (e,l5)=>match nextM 3 l5 with
      | (f,l6)=>(⟨Q.of (mkRat (4 + 2 * a) 4),Q.of (mkRat (-1 - b) 3),Q.of (mkRat (1 + c) 3),Q.of (mkRat 1 (4 + d).toNat),Q.of (mkRat 1 (10 + e).toNat),if f = 2 then [atM (-1) (-1),atM (4 + 2 * a + 1) 0,atM (-1) 1] else rectM (-1) (-1) (4 + 2 * a + 1) 1⟩,l6)
def linksM:Nat → List Int → List Lk × List Int
 | 0,l=>([],l)
 | k + 1,l=>((linksM k l).1 ++ [(linkM (linksM k l).2).1],(linkM (linksM k l).2).2)
theorem linkM_len (l:List Int):(linkM l).2.length ≤ l.length:=by
 have h1:=nextM_len 4 l
 have h2:=nextM_len 6 (nextM 4 l).2
 have h3:=nextM_len 6 (nextM 6 (nextM 4 l).2).2
 have h4:=nextM_len 8 (nextM 6 (nextM 6 (nextM 4 l).2).2).2
 have h5:=nextM_len 20 (nextM 8 (nextM 6 (nextM 6 (nextM 4 l).2).2).2).2
 have h6:=nextM_len 3 (nextM 20 (nextM 8 (nextM 6 (nextM 6 (nextM 4 l).2).2).2).2).2
 show (nextM 3 (nextM 20 (nextM 8 (nextM 6 (nextM 6 (nextM 4 l).2).2).2).2).2).2.length ≤ _
 omega
theorem linksM_len (l:List Int):∀ k,(linksM k l).2.length ≤ l.length ∧ (linksM k l).1.length = k
 | 0=>⟨Nat.le_refl _,rfl⟩
 | k + 1=>by
  have:=linksM_len l k
  have h2:=linkM_len (linksM k l).2
  exact ⟨by show (linkM _).2.length ≤ _; omega,by show ((linksM k l).1 ++ _).length = _; simp; exact this.2⟩
def nameM (n:Nat):ByteArray:=if n = 0 then ⟨⟨[111,110,101]⟩⟩ else if n = 1 then ⟨⟨[116,119,111]⟩⟩ else if n = 2 then ⟨⟨[116,104,114,101,101]⟩⟩ else ⟨⟨[102,111,117,114]⟩⟩
def selM (a:Int):Int:=if a = 0 then 0 else if a = 1 then 1 else if a = 2 then -1 else 1
def armM (n:Nat) (l0:List Int):Ar × List Int :=
 match nextM 4 l0 with
 | (a,l1)=>match nextM 3 l1 with
  | (b,l2)=>match nextM 3 l2 with
   | (c,l3)=>(⟨nameM n,⟨atM (40 * n) 0,⟨false,Q.of (mkRat (selM a) (1 + b).toNat)⟩⟩,(linksM (1 + c).toNat l3).1⟩,(linksM (1 + c).toNat l3).2)
theorem makeRectE {x y u v X Y U V:Int} (hx:x = X) (hy:y = Y) (hu:u = U) (hv:v = V) (bx:-(2 ^ 50) ≤ X ∧ X ≤ 2 ^ 50) (by_:-(2 ^ 50) ≤ Y ∧ Y ≤ 2 ^ 50) (bu:-(2 ^ 50) ≤ U ∧ U ≤ 2 ^ 50) (bv:-(2 ^ 50) ≤ V ∧ V ≤ 2 ^ 50) (es:List (List AE.AV)) (hes:es = lsAv V2.c (rectM X Y U V)):AE.ACall Tryz.prog 137 [] [.v (.int .i64 x),.v (.int .i64 y),.v (.int .i64 u),.v (.int .i64 v)] [] (.l 6 es):=by
 subst hx; subst hy; subst hu; subst hv; exact makeRect_ok _ _ _ _ bx by_ bu bv es hes
theorem makeArm_ok (n:Nat) (hn:n < 4) (zn:Int) (hzn:zn = n) (l0:List Int) (hl:l0.length < 2 ^ 40) (e0 er:List (List AE.AV)) (he0:e0 = lsAv numC l0) (her:er = lsAv numC (armM n l0).2) (r:Ar) (hr:r = (armM n l0).1):AE.ACall Tryz.prog 136 [.box [.l 1 e0] 188] [.p 0 0,.v (.int .i64 zn)] [.box [.l 1 er] 188] (.a r.c):=by
 obtain ⟨a,l1,h1⟩:∃ a l,nextM 4 l0 = (a,l):=⟨_,_,rfl⟩
 obtain ⟨b,l2,h2⟩:∃ a l,nextM 3 l1 = (a,l):=⟨_,_,rfl⟩
 obtain ⟨c,l3,h3⟩:∃ a l,nextM 3 l2 = (a,l):=⟨_,_,rfl⟩
 have b1:=next_bd h1 (by decide)
 have b2:=next_bd h2 (by decide)
 have b3:=next_bd h3 (by decide)
 obtain ⟨cn,hcn⟩:∃ k:Nat,k = (1 + c).toNat:=⟨_,rfl⟩
 have ha:armM n l0 = (⟨nameM n,⟨atM (40 * n) 0,⟨false,Q.of (mkRat (selM a) (1 + b).toNat)⟩⟩,(linksM cn l3).1⟩,(linksM cn l3).2):=by
  simp only [armM,h1,h2,h3,hcn]
 rw [ha] at her hr
 simp only at her hr
 obtain ⟨nm,hnm⟩:∃ s,s = nameM n:=⟨_,rfl⟩
 obtain ⟨pa,hpa⟩:∃ s,s = atM (40 * n) 0:=⟨_,rfl⟩
 obtain ⟨qt,hqt⟩:∃ s,s = Q.of (mkRat (selM a) (1 + b).toNat):=⟨_,rfl⟩
 obtain ⟨ls,hls⟩:∃ s,s = (linksM cn l3).1:=⟨_,rfl⟩
 rw [← hnm,← hpa,← hqt,← hls] at hr
 subst hr
 obtain ⟨el,hel⟩:∃ e,e = lsAv Lk.c ls:=⟨_,rfl⟩
 simp only [Ar.c,← hel]
 refine AE.ACall.of_walk (fn:=Tryz.f136) (c:=bodyOf Tryz.f136) tabOK Tryz.func136 rfl rfl mixed fun A hA X=>?_
 obtain ⟨e1,he1⟩:∃ e,e = lsAv numC l1:=⟨_,rfl⟩
 obtain ⟨e2,he2⟩:∃ e,e = lsAv numC l2:=⟨_,rfl⟩
 obtain ⟨e3,he3⟩:∃ e,e = lsAv numC l3:=⟨_,rfl⟩
 have n1:=nextE (n:=4) rfl l0 hl (by decide) h1 e0 e1 he0 he1
 have n2:=nextE (n:=3) rfl l1 (by omega) (by decide) h2 e1 e2 he1 he2
 have n3:=nextE (n:=3) rfl l2 (by omega) (by decide) h3 e2 e3 he2 he3
 have w1:A.bin .mul .i64 40 zn = 40 * n:=by rw [hzn]; exact zmul hA rfl rfl (by omega)
 have w2:=zadd hA (x:=1) rfl (y:=b) rfl (by omega)
 have w3:=zadd hA (x:=1) rfl (y:=c) rfl (by omega)
 have k1:=makeAtE w1 (y:=0) rfl (by omega) (by omega) pa hpa
 have hsel:-1 ≤ selM a ∧ selM a ≤ 1:=by unfold selM; split <;> (try split) <;> (try split) <;> omega
 have k2:=makeOfE (x:=selM a) rfl w2 (by omega) (by omega) qt hqt
 obtain ⟨na,hna⟩:∃ k:Nat,k = a.toNat:=⟨_,rfl⟩
 have hza:a = (na:Int):=by omega
 have hnames:[[AE.AV.v (.string ⟨⟨[111,110,101]⟩⟩)],[.v (.string ⟨⟨[116,119,111]⟩⟩)],[.v (.string ⟨⟨[116,104,114,101,101]⟩⟩)],[.v (.string ⟨⟨[102,111,117,114]⟩⟩)]][n]? = some [AE.AV.v (.string nm)]:=by
  rw [hnm]
  match n,hn with
  | 0,_=>rfl
  | 1,_=>rfl
  | 2,_=>rfl
  | 3,_=>rfl
 obtain ⟨sa,hsa⟩:∃ s,s = selM a:=⟨_,rfl⟩
 have hsels:[[AE.AV.v (.int .i64 0)],[.v (.int .i64 1)],[.v (.int .i64 (-1))],[.v (.int .i64 1)]][na]? = some [AE.AV.v (.int .i64 sa)]:=by
  rw [hsa,hza]
  match na,(show na < 4 by omega) with
  | 0,_=>rfl
  | 1,_=>rfl
  | 2,_=>rfl
  | 3,_=>rfl
 rw [← hsa] at k2
 (refine X.g ?_; cbv)
 apply shareG X
 ·intro hs
  (repeat' (first|(refine X.g ?_; cbv)|refine X.splitT ?_|refine X.splitF ?_|refine X.sp (fun hc=>?_) (fun hc=>?_)|refine X.needT ?_|refine X.drawX _ _ _ (by kernel_rfl) ?_|refine X.fork _ _ ?_ ?_|refine X.idx _ _ _ _ _ _ _ _ hnames hzn ?_|refine X.ldq _ _ _ _ _ _ _ _ _ hnames ?_|refine X.callsA [] k1 ?_|refine X.callsA [] k2 ?_|(refine X.calls [0] n1 ?_ ?_ ?_ ?_; (focus (cbv; done)); (focus (cbv <;> (and_intros <;> first|rfl|trivial))); (focus (cbv; done)))|(refine X.calls [0] n2 ?_ ?_ ?_ ?_; (focus (cbv; done)); (focus (cbv <;> (and_intros <;> first|rfl|trivial))); (focus (cbv; done)))|(refine X.calls [0] n3 ?_ ?_ ?_ ?_; (focus (cbv; done)); (focus (cbv <;> (and_intros <;> first|rfl|trivial))); (focus (cbv; done)))|refine X.idx _ _ _ _ _ _ _ _ hsels hza ?_|refine X.ldq _ _ _ _ _ _ _ _ _ hsels ?_|fail))
  all_goals exact hs
 refine X.loopG _ _ _ (X.nilB 3 11 82 16 _ _ ?_)
 (refine X.g ?_; cbv)
 clear n1 n2 n3 k1 k2 hnames hsels
 obtain ⟨sL,hsL⟩:∃ g:Nat → List (List AE.AV),∀ i,g i = lsAv numC (linksM i l3).2:=⟨_,fun _=>rfl⟩
 obtain ⟨gL,hgL⟩:∃ g:Nat → List (List AE.AV),∀ i,g i = lsAv Lk.c (linksM i l3).1:=⟨_,fun _=>rfl⟩
 have w4:A.bin .add .i64 1 c = (cn:Int):=by rw [w3,hcn]; omega
 have cn3:cn ≤ 3:=by omega
 have z0:e3 = sL 0:=by rw [he3,hsL]; rfl
 have z1:[] = gL 0:=by rw [hgL]; exact (lsAv_nil _).symm
 refine rangesS X 0 cn (fun _=>True) (fun z _=>[(31,.v (.int .i64 z))]) (fun i o=>(o.set 0 (.box [.l 1 (sL i)] 188)).set 5 (.row 82 16 (gL i))) trivial ?_ (fun i z hz hi hI B hB=>?_) (fun z hz hI B=>?_)
 ·(cbv <;> (and_intros <;> first|exact z0|exact z1|rfl|trivial))
 ·rw [Nat.zero_add] at hz
  have c1:A.cmp .lss z (A.bin .add .i64 1 c) = true:=ltT hA hz w4 hi
  obtain ⟨hll,hlk⟩:=linksM_len l3 i
  obtain ⟨u0,hu0⟩:∃ u,u = (linksM i l3).2:=⟨_,rfl⟩
  rw [← hu0] at hll
  obtain ⟨x1,u1,j1⟩:∃ a l,nextM 4 u0 = (a,l):=⟨_,_,rfl⟩
  obtain ⟨x2,u2,j2⟩:∃ a l,nextM 6 u1 = (a,l):=⟨_,_,rfl⟩
  obtain ⟨x3,u3,j3⟩:∃ a l,nextM 6 u2 = (a,l):=⟨_,_,rfl⟩
  obtain ⟨x4,u4,j4⟩:∃ a l,nextM 8 u3 = (a,l):=⟨_,_,rfl⟩
  obtain ⟨x5,u5,j5⟩:∃ a l,nextM 20 u4 = (a,l):=⟨_,_,rfl⟩
  obtain ⟨x6,u6,j6⟩:∃ a l,nextM 3 u5 = (a,l):=⟨_,_,rfl⟩
  have d1:=next_bd j1 (by decide)
  have d2:=next_bd j2 (by decide)
  have d3:=next_bd j3 (by decide)
  have d4:=next_bd j4 (by decide)
  have d5:=next_bd j5 (by decide)
  have d6:=next_bd j6 (by decide)
  obtain ⟨t1,ht1⟩:∃ e,e = lsAv numC u1:=⟨_,rfl⟩
  obtain ⟨t2,ht2⟩:∃ e,e = lsAv numC u2:=⟨_,rfl⟩
  obtain ⟨t3,ht3⟩:∃ e,e = lsAv numC u3:=⟨_,rfl⟩
  obtain ⟨t4,ht4⟩:∃ e,e = lsAv numC u4:=⟨_,rfl⟩
  obtain ⟨t5,ht5⟩:∃ e,e = lsAv numC u5:=⟨_,rfl⟩
  have hlm:linkM u0 = (⟨Q.of (mkRat (4 + 2 * x1) 4),Q.of (mkRat (-1 - x2) 3),Q.of (mkRat (1 + x3) 3),Q.of (mkRat 1 (4 + x4).toNat),Q.of (mkRat 1 (10 + x5).toNat),if x6 = 2 then [atM (-1) (-1),atM (4 + 2 * x1 + 1) 0,atM (-1) 1] else rectM (-1) (-1) (4 + 2 * x1 + 1) 1⟩,u6):=by
   simp only [linkM,j1,j2,j3,j4,j5,j6]
  have ht6:sL (i + 1) = lsAv numC u6:=by rw [hsL,linksM,← hu0,hlm]
  have hgs:gL (i + 1) = lsAv Lk.c ((linksM i l3).1 ++ [(linkM u0).1]):=by rw [hgL,linksM,← hu0]
  have m1:=nextE (n:=4) rfl u0 (by omega) (by decide) j1 (sL i) t1 (by rw [hsL,hu0]) ht1
  have m2:=nextE (n:=6) rfl u1 (by omega) (by decide) j2 t1 t2 ht1 ht2
  have m3:=nextE (n:=6) rfl u2 (by omega) (by decide) j3 t2 t3 ht2 ht3
  have m4:=nextE (n:=8) rfl u3 (by omega) (by decide) j4 t3 t4 ht3 ht4
  have m5:=nextE (n:=20) rfl u4 (by omega) (by decide) j5 t4 t5 ht4 ht5
  have m6:=nextE (n:=3) rfl u5 (by omega) (by decide) j6 t5 (sL (i + 1)) ht5 ht6
  have v1:=zadd hA (x:=4) rfl (zmul hA (x:=2) rfl (y:=x1) rfl (by omega)) (by omega)
  have v2:=zsub hA (x:=-1) rfl (y:=x2) rfl (by omega)
  have v3:=zadd hA (x:=1) rfl (y:=x3) rfl (by omega)
  have v4:=zadd hA (x:=4) rfl (y:=x4) rfl (by omega)
  have v5:=zadd hA (x:=10) rfl (y:=x5) rfl (by omega)
  have v6:=zadd hA v1 (y:=1) rfl (by omega)
  obtain ⟨q1,i1⟩:∃ q,q = Q.of (mkRat (4 + 2 * x1) 4):=⟨_,rfl⟩
  obtain ⟨q2,i2⟩:∃ q,q = Q.of (mkRat (-1 - x2) 3):=⟨_,rfl⟩
  obtain ⟨q3,i3⟩:∃ q,q = Q.of (mkRat (1 + x3) 3):=⟨_,rfl⟩
  obtain ⟨q4,i4⟩:∃ q,q = Q.of (mkRat 1 (4 + x4).toNat):=⟨_,rfl⟩
  obtain ⟨q5,i5⟩:∃ q,q = Q.of (mkRat 1 (10 + x5).toNat):=⟨_,rfl⟩
  obtain ⟨er,her2⟩:∃ e,e = lsAv V2.c (rectM (-1) (-1) (4 + 2 * x1 + 1) 1):=⟨_,rfl⟩
  have p1:=makeOfE v1 (d:=4) rfl (by omega) (by omega) q1 i1
  have p2:=makeOfE v2 (d:=3) rfl (by omega) (by omega) q2 i2
  have p3:=makeOfE v3 (d:=3) rfl (by omega) (by omega) q3 i3
  have p4:=makeOfE (x:=1) rfl v4 (by omega) (by omega) q4 i4
  have p5:=makeOfE (x:=1) rfl v5 (by omega) (by omega) q5 i5
  have p6:=makeRectE (x:=-1) rfl (y:=-1) rfl v6 (v:=1) rfl (by omega) (by omega) (by omega) (by omega) er her2
  rw [← i1,← i2,← i3,← i4,← i5] at hlm
  have hgrow:∀ c,AE.GrowR (A.llen (gL i)) (A.llen [c]) 224:=fun c=>grow1 hA (n:=8) (by rw [hgL,lsAv_len]; omega) (by decide) (by decide)
  have hB' := hB (A.bin .add .i64 z 1) (by rw [Nat.zero_add]; exact addI hA hz (y:=1) (b:=1) rfl (by omega)) trivial
  have bx:-(2 ^ 50) ≤ 4 + 2 * x1 + 1 ∧ 4 + 2 * x1 + 1 ≤ 2 ^ 50:=by omega
  clear hB i1 i2 i3 i4 i5 d1 d2 d3 d4 d5 d6 j1 j2 j3 j4 j5 j6
  by_cases h6:x6 = 2
  ·have c6:A.cmp .eql x6 2 = true:=by rw [AE.c_eql hA]; exact decide_eq_true h6
   rw [if_pos h6] at hlm
   obtain ⟨a1,o1⟩:∃ q,q = atM (-1) (-1):=⟨_,rfl⟩
   obtain ⟨a2,o2⟩:∃ q,q = atM (4 + 2 * x1 + 1) 0:=⟨_,rfl⟩
   obtain ⟨a3,o3⟩:∃ q,q = atM (-1) 1:=⟨_,rfl⟩
   have k1:=makeAtE (x:=-1) rfl (y:=-1) rfl (by omega) (by omega) a1 o1
   have k2:=makeAtE v6 (y:=0) rfl bx (by omega) a2 o2
   have k3:=makeAtE (x:=-1) rfl (y:=1) rfl (by omega) (by omega) a3 o3
   rw [← o1,← o2,← o3] at hlm
   have e1:A.lapp (gL i) [q1.c ++ q2.c ++ q3.c ++ q4.c ++ q5.c ++ [.l 6 [a1.c,a2.c,a3.c]]] = gL (i + 1):=by
    rw [hgs,hlm,← lsAv_app,← hgL]; subst hA
    show gL i ++ _ = _
    rw [show lsAv Lk.c [(⟨q1,q2,q3,q4,q5,[a1,a2,a3]⟩:Lk)] = [q1.c ++ q2.c ++ q3.c ++ q4.c ++ q5.c ++ [.l 6 [a1.c,a2.c,a3.c]]] by rw [lsAv_eq]; simp only [List.map,Lk.c]; rw [lsAv_eq]; rfl]
   (repeat' (first|(refine X.g ?_; cbv)|refine X.splitT ?_|refine X.splitF ?_|refine X.sp (fun hc=>?_) (fun hc=>?_)|refine X.needT ?_|(refine X.calls [0] m1 ?_ ?_ ?_ ?_; (focus (cbv; done)); (focus (cbv <;> (and_intros <;> first|rfl|trivial))); (focus (cbv; done)))|(refine X.calls [0] m2 ?_ ?_ ?_ ?_; (focus (cbv; done)); (focus (cbv <;> (and_intros <;> first|rfl|trivial))); (focus (cbv; done)))|(refine X.calls [0] m3 ?_ ?_ ?_ ?_; (focus (cbv; done)); (focus (cbv <;> (and_intros <;> first|rfl|trivial))); (focus (cbv; done)))|(refine X.calls [0] m4 ?_ ?_ ?_ ?_; (focus (cbv; done)); (focus (cbv <;> (and_intros <;> first|rfl|trivial))); (focus (cbv; done)))|(refine X.calls [0] m5 ?_ ?_ ?_ ?_; (focus (cbv; done)); (focus (cbv <;> (and_intros <;> first|rfl|trivial))); (focus (cbv; done)))|(refine X.calls [0] m6 ?_ ?_ ?_ ?_; (focus (cbv; done)); (focus (cbv <;> (and_intros <;> first|rfl|trivial))); (focus (cbv; done)))|refine X.callsA [] p1 ?_|refine X.callsA [] p2 ?_|refine X.callsA [] p3 ?_|refine X.callsA [] p4 ?_|refine X.callsA [] p5 ?_|refine X.callsA [] p6 ?_|refine X.callsA [] k1 ?_|refine X.callsA [] k2 ?_|fail))
   refine X.callsA [] k3 ?_
   refine X.go 5 _ _ ?_
   cbv
   refine X.need _ _ _ trivial (X.frz 7 _ _ ?_)
   (repeat' (first|(refine X.g ?_; cbv)|refine X.splitT ?_|refine X.splitF ?_|refine X.sp (fun hc=>?_) (fun hc=>?_)|refine X.needT ?_|refine X.need _ _ _ (hgrow _) ?_|fail))
   all_goals (refine hB' _ ?_; clear hB'; (cbv <;> (and_intros <;> first|exact e1|rfl|trivial)))
  ·have c6:A.cmp .eql x6 2 = false:=by rw [AE.c_eql hA]; exact decide_eq_false h6
   rw [if_neg h6] at hlm
   have e1:A.lapp (gL i) [q1.c ++ q2.c ++ q3.c ++ q4.c ++ q5.c ++ [.l 6 er]] = gL (i + 1):=by
    rw [hgs,hlm,← lsAv_app,← hgL]; subst hA
    show gL i ++ _ = _
    rw [show lsAv Lk.c [(⟨q1,q2,q3,q4,q5,rectM (-1) (-1) (4 + 2 * x1 + 1) 1⟩:Lk)] = [q1.c ++ q2.c ++ q3.c ++ q4.c ++ q5.c ++ [.l 6 er]] by rw [lsAv_eq,her2]; rfl]
   (repeat' (first|(refine X.g ?_; cbv)|refine X.splitT ?_|refine X.splitF ?_|refine X.sp (fun hc=>?_) (fun hc=>?_)|refine X.needT ?_|(refine X.calls [0] m1 ?_ ?_ ?_ ?_; (focus (cbv; done)); (focus (cbv <;> (and_intros <;> first|rfl|trivial))); (focus (cbv; done)))|(refine X.calls [0] m2 ?_ ?_ ?_ ?_; (focus (cbv; done)); (focus (cbv <;> (and_intros <;> first|rfl|trivial))); (focus (cbv; done)))|(refine X.calls [0] m3 ?_ ?_ ?_ ?_; (focus (cbv; done)); (focus (cbv <;> (and_intros <;> first|rfl|trivial))); (focus (cbv; done)))|(refine X.calls [0] m4 ?_ ?_ ?_ ?_; (focus (cbv; done)); (focus (cbv <;> (and_intros <;> first|rfl|trivial))); (focus (cbv; done)))|(refine X.calls [0] m5 ?_ ?_ ?_ ?_; (focus (cbv; done)); (focus (cbv <;> (and_intros <;> first|rfl|trivial))); (focus (cbv; done)))|(refine X.calls [0] m6 ?_ ?_ ?_ ?_; (focus (cbv; done)); (focus (cbv <;> (and_intros <;> first|rfl|trivial))); (focus (cbv; done)))|refine X.callsA [] p1 ?_|refine X.callsA [] p2 ?_|refine X.callsA [] p3 ?_|refine X.callsA [] p4 ?_|refine X.callsA [] p5 ?_|refine X.callsA [] p6 ?_|refine X.need _ _ _ (hgrow _) ?_|fail))
   all_goals (refine hB' _ ?_; clear hB'; (cbv <;> (and_intros <;> first|exact e1|rfl|trivial)))
 ·rw [Nat.zero_add] at hz
  have c1:A.cmp .lss z (A.bin .add .i64 1 c) = false:=ltF hA hz w4 (by omega)
  have f1:gL cn = el:=by rw [hgL,hel,hls]
  have f2:sL cn = er:=by rw [hsL,her]
  refine X.frz 5 _ _ ?_
  (repeat' (first|(refine X.g ?_; cbv)|refine X.splitT ?_|refine X.splitF ?_|refine X.sp (fun hc=>?_) (fun hc=>?_)|refine X.needT ?_|fail))
  all_goals (refine X.ret _ (X.done rfl ?_); cbv <;> (and_intros <;> first|exact f1|exact f2|rfl|trivial))
end Go.Proofs.YthadehkggddgoaaGreatDoor
