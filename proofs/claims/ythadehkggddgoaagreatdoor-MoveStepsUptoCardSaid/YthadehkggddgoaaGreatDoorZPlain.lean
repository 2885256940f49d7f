/- Reading the arguments of the law: works, frames. Works of a small bulk: what the contracts ask. Contract: gantmake.Works of no numbers. Plain laws: the works without numbers is valid. -/
import Derived.Test.YthadehkggddgoaaGreatDoorZData
import Derived.Test.YthadehkggddgoaaGreatDoorAE14
import Derived.Test.YthadehkggddgoaaGreatDoorZTypes
import Derived.Test.YthadehkggddgoaaGreatDoorZWorks
import Derived.Test.YthadehkggddgoaaGreatDoorZMakeE
section
section
set_option linter.unusedVariables false
set_option linter.unusedSectionVars false
set_option linter.unusedSimpArgs false
namespace Go.Proofs.YthadehkggddgoaaGreatDoor
open Go
def Q.wt (q:Q):Nat:=1 + (q.num.size + q.den.size)
def V2.wt (p:V2):Nat:=p.x.wt + p.y.wt
def Tn.wt (p:Tn):Nat:=p.t.wt
def Fr.wt (p:Fr):Nat:=p.at_.wt + p.turn.wt
def Bx.wt (p:Bx):Nat:=p.low.wt + p.high.wt
def lw {α : Type} (ρ : α → Nat) (l:List α):Nat:=(l.map ρ).sum + 1
def Lk.wt (p:Lk):Nat:=p.length.wt + p.low.wt + p.high.wt + p.speed.wt + p.brake.wt + lw V2.wt p.shape
def Ar.wt (p:Ar):Nat:=p.name.size + p.base.wt + lw Lk.wt p.links
def Pt.wt (p:Pt):Nat:=p.name.size + lw V2.wt p.shape + p.grasp.wt
def Sl.wt (p:Sl):Nat:=p.name.size + p.frame.wt + p.within.wt
def Gt.wt (p:Gt):Nat:=p.name.size + p.zone.wt
def Wk.wt (p:Wk):Nat:=lw Ar.wt p.arms + lw (lw V2.wt) p.walls + lw Pt.wt p.parts + lw Sl.wt p.slots + lw Gt.wt p.gates + p.walk.wt
theorem lw_mem {α : Type} {ρ : α → Nat}:∀ {l:List α} {a:α},a ∈ l → ρ a < lw ρ l
 | x :: l,a,h=>by
  simp only [lw,List.map_cons,List.sum_cons]
  rcases List.mem_cons.1 h with rfl|h
  ·omega
  ·have:=lw_mem (ρ:=ρ) h
   simp only [lw] at this; omega
theorem lw_len {α : Type} {ρ : α → Nat} (h:∀ a,1 ≤ ρ a):∀ l:List α,l.length < lw ρ l
 | []=>by simp [lw]
 | x :: l=>by
  have:=lw_len h l
  have:=h x
  simp only [lw,List.map_cons,List.sum_cons,List.length_cons] at *; omega
section
variable {H:Type} {enc:TypeId × Value → H} {W:World} {E:AE.Env} {bulk:DataW H → Nat}
theorem openQ (hb:AE.BulkOK bulk):AE.Opens enc Tryz.prog W E bulk 29 Q.c Q.wt :=
 (AE.Opens.struct hb Tryz.underlying29 (by kernel_rfl)
  (.cons (.bool hb Tryz.underlying4) (sz:=1) (by kernel_rfl) rfl (.cons (.str hb Tryz.underlying9) (sz:=1) (by kernel_rfl) rfl (.cons (.str hb Tryz.underlying9) (sz:=1) (by kernel_rfl) rfl .nil)))).to
  (fun p=>(⟨p.1,p.2.1,p.2.2.1⟩:Q)) (fun _=>by simp [Q.c]) (fun _=>by simp only [Q.wt]; omega)
theorem openV (hb:AE.BulkOK bulk):AE.Opens enc Tryz.prog W E bulk 44 V2.c V2.wt :=
 (AE.Opens.struct hb Tryz.underlying44 (by kernel_rfl)
  (.cons (openQ hb) (sz:=3) (by kernel_rfl) rfl (.cons (openQ hb) (sz:=3) (by kernel_rfl) rfl .nil))).to
  (fun p=>(⟨p.1,p.2.1⟩:V2)) (fun _=>by simp [V2.c]) (fun _=>by simp only [V2.wt]; omega)
theorem openT (hb:AE.BulkOK bulk):AE.Opens enc Tryz.prog W E bulk 64 Tn.c Tn.wt :=
 (AE.Opens.struct hb Tryz.underlying64 (by kernel_rfl)
  (.cons (.bool hb Tryz.underlying4) (sz:=1) (by kernel_rfl) rfl (.cons (openQ hb) (sz:=3) (by kernel_rfl) rfl .nil))).to
  (fun p=>(⟨p.1,p.2.1⟩:Tn)) (fun _=>by simp [Tn.c]) (fun _=>by simp only [Tn.wt]; omega)
theorem openF (hb:AE.BulkOK bulk):AE.Opens enc Tryz.prog W E bulk 66 Fr.c Fr.wt :=
 (AE.Opens.struct hb Tryz.underlying66 (by kernel_rfl)
  (.cons (openV hb) (sz:=6) (by kernel_rfl) rfl (.cons (openT hb) (sz:=4) (by kernel_rfl) rfl .nil))).to
  (fun p=>(⟨p.1,p.2.1⟩:Fr)) (fun _=>by simp [Fr.c]) (fun _=>by simp only [Fr.wt]; omega)
theorem openB (hb:AE.BulkOK bulk):AE.Opens enc Tryz.prog W E bulk 46 Bx.c Bx.wt :=
 (AE.Opens.struct hb Tryz.underlying46 (by kernel_rfl)
  (.cons (openV hb) (sz:=6) (by kernel_rfl) rfl (.cons (openV hb) (sz:=6) (by kernel_rfl) rfl .nil))).to
  (fun p=>(⟨p.1,p.2.1⟩:Bx)) (fun _=>by simp [Bx.c]) (fun _=>by simp only [Bx.wt]; omega)
theorem openG (hb:AE.BulkOK bulk):AE.Opens enc Tryz.prog W E bulk 48 Gt.c Gt.wt :=
 (AE.Opens.struct hb Tryz.underlying48 (by kernel_rfl)
  (.cons (.str hb Tryz.underlying9) (sz:=1) (by kernel_rfl) rfl (.cons (openB hb) (sz:=12) (by kernel_rfl) rfl .nil))).to
  (fun p=>(⟨p.1,p.2.1⟩:Gt)) (fun _=>by simp [Gt.c]) (fun _=>by simp only [Gt.wt]; omega)
theorem openS (hb:AE.BulkOK bulk):AE.Opens enc Tryz.prog W E bulk 68 Sl.c Sl.wt :=
 (AE.Opens.struct hb Tryz.underlying68 (by kernel_rfl)
  (.cons (.str hb Tryz.underlying9) (sz:=1) (by kernel_rfl) rfl (.cons (openF hb) (sz:=10) (by kernel_rfl) rfl (.cons (openQ hb) (sz:=3) (by kernel_rfl) rfl .nil)))).to
  (fun p=>(⟨p.1,p.2.1,p.2.2.1⟩:Sl)) (fun _=>by simp [Sl.c]) (fun _=>by simp only [Sl.wt]; omega)
variable (hE:∀ b o,W.heap[b]? = some o → E.h b = some o)
include hE
theorem openL (hb:AE.BulkOK bulk) {t e:TypeId} {sz:Nat} (hpos:0 < sz) {α : Type} {f:α → List AE.AV} {ρ : α → Nat} (ht:Tryz.prog.underlying t = some (.slice e)) (hs:Tryz.prog.cellsOf e = sz) (h:AE.Opens enc Tryz.prog W E bulk e f ρ):AE.Opens enc Tryz.prog W E bulk t (fun l:List α => [.l sz (lsAv f l)]) (lw ρ) :=
 (AE.Opens.slice hE hb hpos ht hs h).to (fun l=>l) (fun l=>by rw [lsAv_eq]) (fun l=>Nat.le_refl _)
theorem openVs (hb:AE.BulkOK bulk):AE.Opens enc Tryz.prog W E bulk 34 wallC (lw V2.wt):=openL hE hb (by decide) Tryz.underlying34 (by kernel_rfl) (openV hb)
theorem openK (hb:AE.BulkOK bulk):AE.Opens enc Tryz.prog W E bulk 82 Lk.c Lk.wt :=
 (AE.Opens.struct hb Tryz.underlying82 (by kernel_rfl)
  (.cons (openQ hb) (sz:=3) (by kernel_rfl) rfl (.cons (openQ hb) (sz:=3) (by kernel_rfl) rfl (.cons (openQ hb) (sz:=3) (by kernel_rfl) rfl (.cons (openQ hb) (sz:=3) (by kernel_rfl) rfl (.cons (openQ hb) (sz:=3) (by kernel_rfl) rfl (.cons (openVs hE hb) (sz:=1) (by kernel_rfl) rfl .nil))))))).to
  (fun p=>(⟨p.1,p.2.1,p.2.2.1,p.2.2.2.1,p.2.2.2.2.1,p.2.2.2.2.2.1⟩:Lk)) (fun _=>by simp [Lk.c,wallC]) (fun _=>by simp only [Lk.wt]; omega)
theorem openA (hb:AE.BulkOK bulk):AE.Opens enc Tryz.prog W E bulk 79 Ar.c Ar.wt :=
 (AE.Opens.struct hb Tryz.underlying79 (by kernel_rfl)
  (.cons (.str hb Tryz.underlying9) (sz:=1) (by kernel_rfl) rfl (.cons (openF hb) (sz:=10) (by kernel_rfl) rfl (.cons (openL hE hb (sz:=16) (by decide) Tryz.underlying77 (by kernel_rfl) (openK hE hb)) (sz:=1) (by kernel_rfl) rfl .nil)))).to
  (fun p=>(⟨p.1,p.2.1,p.2.2.1⟩:Ar)) (fun _=>by simp [Ar.c]) (fun _=>by simp only [Ar.wt]; omega)
theorem openP (hb:AE.BulkOK bulk):AE.Opens enc Tryz.prog W E bulk 99 Pt.c Pt.wt :=
 (AE.Opens.struct hb Tryz.underlying99 (by kernel_rfl)
  (.cons (.str hb Tryz.underlying9) (sz:=1) (by kernel_rfl) rfl (.cons (openVs hE hb) (sz:=1) (by kernel_rfl) rfl (.cons (openF hb) (sz:=10) (by kernel_rfl) rfl .nil)))).to
  (fun p=>(⟨p.1,p.2.1,p.2.2.1⟩:Pt)) (fun _=>by simp [Pt.c,wallC]) (fun _=>by simp only [Pt.wt]; omega)
theorem openW (hb:AE.BulkOK bulk):AE.Opens enc Tryz.prog W E bulk 31 Wk.c Wk.wt :=
 (AE.Opens.struct hb Tryz.underlying31 (by kernel_rfl)
  (.cons (openL hE hb (sz:=12) (by decide) Tryz.underlying23 (by kernel_rfl) (openA hE hb)) (sz:=1) (by kernel_rfl) rfl (.cons (openL hE hb (sz:=1) (by decide) Tryz.underlying24 (by kernel_rfl) (openVs hE hb)) (sz:=1) (by kernel_rfl) rfl (.cons (openL hE hb (sz:=12) (by decide) Tryz.underlying25 (by kernel_rfl) (openP hE hb)) (sz:=1) (by kernel_rfl) rfl (.cons (openL hE hb (sz:=14) (by decide) Tryz.underlying26 (by kernel_rfl) (openS hb)) (sz:=1) (by kernel_rfl) rfl (.cons (openL hE hb (sz:=13) (by decide) Tryz.underlying27 (by kernel_rfl) (openG hb)) (sz:=1) (by kernel_rfl) rfl (.cons (openQ hb) (sz:=3) (by kernel_rfl) rfl .nil))))))).to
  (fun p=>(⟨p.1,p.2.1,p.2.2.1,p.2.2.2.1,p.2.2.2.2.1,p.2.2.2.2.2.1⟩:Wk)) (fun _=>by simp [Wk.c]) (fun _=>by simp only [Wk.wt]; omega)
end
theorem Q.sz_wt (q:Q):q.sz ≤ q.wt:=by simp only [Q.sz,Q.wt]; omega
theorem Q.wt1 (q:Q):1 ≤ q.wt:=by simp only [Q.wt]; omega
theorem V2.wt1 (p:V2):1 ≤ p.wt:=by have:=p.x.wt1; simp only [V2.wt]; omega
theorem Lk.wt1 (p:Lk):1 ≤ p.wt:=by have:=p.length.wt1; simp only [Lk.wt]; omega
theorem lw1 {α : Type} (ρ : α → Nat) (l:List α):1 ≤ lw ρ l:=by simp only [lw]; omega
theorem Ar.wt1 (p:Ar):1 ≤ p.wt:=by have:=lw1 Lk.wt p.links; simp only [Ar.wt]; omega
theorem Pt.wt1 (p:Pt):1 ≤ p.wt:=by have:=lw1 V2.wt p.shape; simp only [Pt.wt]; omega
theorem Sl.wt1 (p:Sl):1 ≤ p.wt:=by have:=p.within.wt1; simp only [Sl.wt]; omega
theorem Gt.wt1 (p:Gt):1 ≤ p.wt:=by have:=p.zone.low.x.wt1; simp only [Gt.wt,Bx.wt,V2.wt]; omega
theorem Q.bl {n:Nat} (q:Q):∀ c ∈ q.c,AE.Bl n c:=by
 intro c hc
 simp only [Q.c,List.mem_cons,List.not_mem_nil,or_false] at hc
 rcases hc with rfl|rfl|rfl
 ·exact .b _
 ·exact .v _
 ·exact .v _
theorem V2.bl {n:Nat} (p:V2):∀ c ∈ p.c,AE.Bl n c:=by
 intro c hc
 rcases List.mem_append.1 hc with h|h
 ·exact p.x.bl c h
 ·exact p.y.bl c h
theorem Fr.bl {n:Nat} (p:Fr):∀ c ∈ p.c,AE.Bl n c:=by
 intro c hc
 rcases List.mem_append.1 hc with h|h
 ·exact p.at_.bl c h
 ·rcases List.mem_cons.1 h with rfl|h
  ·exact .b _
  ·exact p.turn.t.bl c h
theorem Wk.bl {n:Nat} (w:Wk):∀ c ∈ w.c,AE.Bl n c:=by
 intro c hc
 simp only [Wk.c,List.mem_cons] at hc
 rcases hc with rfl|rfl|rfl|rfl|rfl|h
 ·exact .l _ _
 ·exact .l _ _
 ·exact .l _ _
 ·exact .l _ _
 ·exact .l _ _
 ·exact w.walk.bl c h
end Go.Proofs.YthadehkggddgoaaGreatDoor
end
section
set_option linter.unusedVariables false
set_option linter.unusedSectionVars false
set_option linter.unusedSimpArgs false
namespace Go.Proofs.YthadehkggddgoaaGreatDoor
open Go
theorem V2.sz_wt (p:V2):p.sz ≤ p.wt:=by have:=p.x.sz_wt; have:=p.y.sz_wt; simp only [V2.sz,V2.wt]; omega
theorem Fr.le_wt (p:Fr) {n:Nat} (h:p.wt ≤ n):p.le n:=by
 have:=p.at_.sz_wt; have:=p.turn.t.sz_wt
 simp only [Fr.wt,Tn.wt] at h
 exact ⟨by omega,by omega⟩
theorem Lk.le_wt (p:Lk) {n:Nat} (h:p.wt ≤ n) (hn:n ≤ 2 ^ 28):p.le n:=by
 have:=p.length.sz_wt; have:=p.low.sz_wt; have:=p.high.sz_wt; have:=p.speed.sz_wt; have:=p.brake.sz_wt
 have:=lw_len V2.wt1 p.shape
 simp only [Lk.wt] at h
 refine ⟨by omega,by omega,by omega,by omega,by omega,fun q hq=>?_,by omega⟩
 have:=lw_mem (ρ:=V2.wt) hq
 have:=q.sz_wt
 omega
theorem Ar.le_wt (p:Ar) {n:Nat} (h:p.wt ≤ n) (hn:n ≤ 2 ^ 28):p.le n:=by
 have:=lw_len Lk.wt1 p.links
 simp only [Ar.wt] at h
 refine ⟨by omega,p.base.le_wt (by omega),fun k hk=>k.le_wt ?_ hn,by omega⟩
 have:=lw_mem (ρ:=Lk.wt) hk
 omega
theorem Pt.le_wt (p:Pt) {n:Nat} (h:p.wt ≤ n) (hn:n ≤ 2 ^ 28):p.le n:=by
 have:=lw_len V2.wt1 p.shape
 simp only [Pt.wt] at h
 refine ⟨by omega,fun q hq=>?_,by omega,p.grasp.le_wt (by omega)⟩
 have:=lw_mem (ρ:=V2.wt) hq
 have:=q.sz_wt
 omega
theorem Sl.le_wt (p:Sl) {n:Nat} (h:p.wt ≤ n) (hn:n ≤ 2 ^ 28):p.le n:=by
 simp only [Sl.wt] at h
 have:=p.within.sz_wt
 exact ⟨by omega,p.frame.le_wt (by omega),by omega⟩
theorem Gt.le_wt (p:Gt) {n:Nat} (h:p.wt ≤ n) (hn:n ≤ 2 ^ 28):p.le n:=by
 simp only [Gt.wt,Bx.wt] at h
 have:=p.zone.low.sz_wt; have:=p.zone.high.sz_wt
 exact ⟨by omega,by omega,by omega⟩
theorem Wk.parts_wt (w:Wk) {n:Nat} (h:w.wt ≤ n):lw Ar.wt w.arms ≤ n ∧ lw (lw V2.wt) w.walls ≤ n ∧ lw Pt.wt w.parts ≤ n ∧ lw Sl.wt w.slots ≤ n ∧ lw Gt.wt w.gates ≤ n ∧ w.walk.wt ≤ n:=by
 simp only [Wk.wt] at h
 exact ⟨by omega,by omega,by omega,by omega,by omega,by omega⟩
theorem Wk.le_wt (w:Wk) {n:Nat} (h:w.wt ≤ n) (hn:n ≤ 2 ^ 28):w.Le:=by
 obtain ⟨h1,h2,h3,h4,h5,h6⟩:=w.parts_wt h
 have:=lw_len Ar.wt1 w.arms; have:=lw_len (lw1 V2.wt) w.walls; have:=lw_len Pt.wt1 w.parts; have:=lw_len Sl.wt1 w.slots; have:=lw_len Gt.wt1 w.gates
 have:=w.walk.sz_wt
 refine ⟨fun p hp=>p.le_wt ?_ (Nat.le_refl _),by omega,fun p hp=>?_,by omega,fun p hp=>p.le_wt ?_ (Nat.le_refl _),by omega,fun p hp=>p.le_wt ?_ (Nat.le_refl _),by omega,fun p hp=>p.le_wt ?_ (Nat.le_refl _),by omega,by omega⟩
 ·have:=lw_mem (ρ:=Ar.wt) hp; omega
 ·have h7:=lw_mem (ρ:=lw V2.wt) hp
  have:=lw_len V2.wt1 p
  refine ⟨fun q hq=>?_,by omega⟩
  have:=lw_mem (ρ:=V2.wt) hq
  have:=q.sz_wt
  omega
 ·have:=lw_mem (ρ:=Pt.wt) hp; omega
 ·have:=lw_mem (ρ:=Sl.wt) hp; omega
 ·have:=lw_mem (ρ:=Gt.wt) hp; omega
theorem Fr.wt1 (p:Fr):1 ≤ p.wt:=by have:=p.turn.t.wt1; simp only [Fr.wt,Tn.wt]; omega
end Go.Proofs.YthadehkggddgoaaGreatDoor
end
end
section
set_option maxRecDepth 100000
set_option maxHeartbeats 0
section
set_option linter.unusedVariables false
set_option linter.unusedSimpArgs false
namespace Go.Proofs.YthadehkggddgoaaGreatDoor
open Go Go.Num
def arm0:Ar:=(armM 0 []).1
def works0:Wk:=⟨[arm0],[],[],[],[],Q.of (mkRat 0 8)⟩
theorem makeWorks0_ok (w:Wk) (hw:w = works0):AE.ACall Tryz.prog 67 [] [.l 1 []] [] (.a w.c):=by
 obtain ⟨ea,hea⟩:∃ e,e = lsAv Ar.c w.arms:=⟨_,rfl⟩
 obtain ⟨ew,hew⟩:∃ e,e = lsAv wallC w.walls:=⟨_,rfl⟩
 obtain ⟨ep,hep⟩:∃ e,e = lsAv Pt.c w.parts:=⟨_,rfl⟩
 obtain ⟨es,hes⟩:∃ e,e = lsAv Sl.c w.slots:=⟨_,rfl⟩
 obtain ⟨eg,heg⟩:∃ e,e = lsAv Gt.c w.gates:=⟨_,rfl⟩
 obtain ⟨q,hq⟩:∃ q,q = Q.of (mkRat 0 8):=⟨_,rfl⟩
 have hwq:w.walk = q:=by rw [hw,hq]; rfl
 simp only [Wk.c,← hea,← hew,← hep,← hes,← heg,hwq]
 have fw:ew = []:=by rw [hew,hw]; exact lsAv_nil _
 have fp:ep = []:=by rw [hep,hw]; exact lsAv_nil _
 have fs:es = []:=by rw [hes,hw]; exact lsAv_nil _
 have fg:eg = []:=by rw [heg,hw]; exact lsAv_nil _
 obtain ⟨a0,ha0⟩:∃ a,a = arm0:=⟨_,rfl⟩
 have fa:[a0.c] = ea:=by rw [hea,hw,ha0,lsAv_eq]; rfl
 obtain ⟨e0,he0⟩:∃ e,e = lsAv numC []:=⟨_,rfl⟩
 have he00:[] = e0:=by rw [he0]; exact (lsAv_nil _).symm
 refine AE.ACall.of_walk (fn:=Tryz.f67) (c:=bodyOf Tryz.f67) tabOK Tryz.func67 rfl rfl mixed fun A hA X=>?_
 have nx:∀ n:Int,n ≤ 2 ^ 40 → AE.ACall Tryz.prog 135 [.box [.l 1 []] 188] [.p 0 0,.v (.int .i64 n)] [.box [.l 1 []] 188] (.v (.int .i64 0)):=fun n hn=>next_ok [] (by decide) n hn [] [] (lsAv_nil _).symm (lsAv_nil _).symm 0 rfl
 have n2:=nx 2 (by decide)
 have n3:=nx 3 (by decide)
 have n4:=nx 4 (by decide)
 have k1:=makeArm_ok 0 (by decide) 0 rfl [] (by decide) [] [] (lsAv_nil _).symm (lsAv_nil _).symm a0 ha0
 have k2:=makeOf_ok 0 8 (by decide) (by decide) q hq
 have c10:A.bin .add .i64 1 0 = 1:=zadd hA rfl rfl (by decide)
 obtain ⟨gA,hgA⟩:∃ g:Nat → List (List AE.AV),∀ i,g i = if i = 0 then [] else [a0.c]:=⟨_,fun _=>rfl⟩
 have g0:[] = gA 0:=by rw [hgA]; rfl
 have g1:ea = gA 1:=by rw [hgA,if_neg (by decide),fa]
 (repeat' (first|(refine X.g ?_; cbv)|refine X.splitT ?_|refine X.splitF ?_|refine X.sp (fun hc=>?_) (fun hc=>?_)|refine X.needT ?_|(refine X.calls [1] n2 ?_ ?_ ?_ ?_; (focus (cbv; done)); (focus (cbv <;> (and_intros <;> first|rfl|trivial))); (focus (cbv; done)))|fail))
 refine X.loopG _ _ _ (X.nilB 2 0 79 12 _ _ ?_)
 (refine X.g ?_; cbv)
 refine rangesS X 0 1 (fun _=>True) (fun z _=>[(18,.v (.int .i64 z))]) (fun i o=>o.set 3 (.row 79 12 (gA i))) trivial ?_ (fun i z hz hi hI B hB=>?_) (fun z hz hI B=>?_)
 ·(cbv <;> (and_intros <;> first|exact g0|rfl|trivial))
 ·have hi0:i = 0:=by omega
  subst hi0
  have hz0:z = 0:=by rw [hz]; rfl
  subst hz0
  have c1:A.cmp .lss 0 (A.bin .add .i64 1 0) = true:=by rw [c10,AE.c_lss hA]; rfl
  have hgrow:∀ c,AE.GrowR (A.llen (gA 0)) (A.llen [c]) 168:=fun c=>grow1 hA (n:=8) (by rw [← g0]; simp) (by decide) (by decide)
  have e1:A.lapp (gA 0) [a0.c] = gA (0 + 1):=by rw [← g0,← fa.trans g1]; subst hA; rfl
  have hB' := hB (A.bin .add .i64 0 1) (by rw [zadd hA rfl rfl (by decide)]; rfl) trivial
  clear hB
  (repeat' (first|(refine X.g ?_; cbv)|refine X.splitT ?_|refine X.splitF ?_|refine X.sp (fun hc=>?_) (fun hc=>?_)|refine X.needT ?_|refine X.drawX _ _ _ (by kernel_rfl) ?_|refine X.fork _ _ ?_ ?_|(refine X.calls [1] k1 ?_ ?_ ?_ ?_; (focus (cbv; done)); (focus (cbv <;> (and_intros <;> first|rfl|trivial))); (focus (cbv; done)))|refine X.need _ _ _ (hgrow _) ?_|fail))
  all_goals (refine hB' _ ?_; clear hB'; (cbv <;> (and_intros <;> first|exact e1|rfl|trivial)))
 have hz0:z = 1:=by rw [hz]; rfl
 subst hz0
 have c1:A.cmp .lss 1 (A.bin .add .i64 1 0) = false:=by rw [c10,AE.c_lss hA]; rfl
 have c00:A.cmp .lss 0 0 = false:=by rw [AE.c_lss hA]; rfl
 have c20:A.cmp .lss 0 (A.bin .add .i64 (A.llen []) 0) = false:=by
  have:A.llen [] = 0:=by subst hA; rfl
  rw [this,zadd hA rfl rfl (by decide),AE.c_lss hA]; rfl
 have c21:A.cmp .lss 0 (A.bin .add .i64 0 0) = false:=by rw [zadd hA rfl rfl (by decide),AE.c_lss hA]; rfl
 refine X.frz 3 _ _ ?_
 (repeat' (first|(refine X.g ?_; cbv)|refine X.splitT ?_|refine X.splitF ?_|refine X.sp (fun hc=>?_) (fun hc=>?_)|refine X.needT ?_|(refine X.calls [1] n2 ?_ ?_ ?_ ?_; (focus (cbv; done)); (focus (cbv <;> (and_intros <;> first|rfl|trivial))); (focus (cbv; done)))|(refine X.calls [1] n3 ?_ ?_ ?_ ?_; (focus (cbv; done)); (focus (cbv <;> (and_intros <;> first|rfl|trivial))); (focus (cbv; done)))|refine X.drawX _ _ _ (by kernel_rfl) ?_|refine X.fork _ _ ?_ ?_|fail))
 refine ranges0 X 0 0 (fun _=>True) (fun z _=>[(32,.v (.int .i64 z))]) trivial (by (cbv <;> (and_intros <;> first|rfl|trivial))) (fun i z hz hi=>absurd hi (Nat.not_lt_zero _)) (fun z hz hI B=>?_)
 obtain rfl:z = 0:=hz
 (repeat' (first|(refine X.g ?_; cbv)|refine X.splitT ?_|refine X.splitF ?_|refine X.sp (fun hc=>?_) (fun hc=>?_)|refine X.needT ?_|(refine X.calls [1] n2 ?_ ?_ ?_ ?_; (focus (cbv; done)); (focus (cbv <;> (and_intros <;> first|rfl|trivial))); (focus (cbv; done)))|(refine X.calls [1] n3 ?_ ?_ ?_ ?_; (focus (cbv; done)); (focus (cbv <;> (and_intros <;> first|rfl|trivial))); (focus (cbv; done)))|refine X.drawX _ _ _ (by kernel_rfl) ?_|refine X.fork _ _ ?_ ?_|fail))
 refine ranges0 X 0 0 (fun _=>True) (fun z _=>[(67,.v (.int .i64 z))]) trivial (by (cbv <;> (and_intros <;> first|rfl|trivial))) (fun i z hz hi=>absurd hi (Nat.not_lt_zero _)) (fun z hz hI B=>?_)
 obtain rfl:z = 0:=hz
 (repeat' (first|(refine X.g ?_; cbv)|refine X.splitT ?_|refine X.splitF ?_|refine X.sp (fun hc=>?_) (fun hc=>?_)|refine X.needT ?_|(refine X.calls [1] n2 ?_ ?_ ?_ ?_; (focus (cbv; done)); (focus (cbv <;> (and_intros <;> first|rfl|trivial))); (focus (cbv; done)))|(refine X.calls [1] n3 ?_ ?_ ?_ ?_; (focus (cbv; done)); (focus (cbv <;> (and_intros <;> first|rfl|trivial))); (focus (cbv; done)))|refine X.drawX _ _ _ (by kernel_rfl) ?_|refine X.fork _ _ ?_ ?_|fail))
 all_goals refine ranges0 X 0 0 (fun _=>True) (fun z _=>[(93,.v (.int .i64 z))]) trivial (by (cbv <;> (and_intros <;> first|rfl|trivial))) (fun i z hz hi=>absurd hi (Nat.not_lt_zero _)) (fun z hz hI B=>?_)
 all_goals obtain rfl:z = 0:=hz
 (repeat' (first|(refine X.g ?_; cbv)|refine X.splitT ?_|refine X.splitF ?_|refine X.sp (fun hc=>?_) (fun hc=>?_)|refine X.needT ?_|(refine X.calls [1] n2 ?_ ?_ ?_ ?_; (focus (cbv; done)); (focus (cbv <;> (and_intros <;> first|rfl|trivial))); (focus (cbv; done)))|(refine X.calls [1] n3 ?_ ?_ ?_ ?_; (focus (cbv; done)); (focus (cbv <;> (and_intros <;> first|rfl|trivial))); (focus (cbv; done)))|refine X.drawX _ _ _ (by kernel_rfl) ?_|refine X.fork _ _ ?_ ?_|fail))
 all_goals refine ranges0 X 0 0 (fun _=>True) (fun z _=>[(126,.v (.int .i64 z))]) trivial (by (cbv <;> (and_intros <;> first|rfl|trivial))) (fun i z hz hi=>absurd hi (Nat.not_lt_zero _)) (fun z hz hI B=>?_)
 all_goals obtain rfl:z = 0:=hz
 all_goals (repeat' (first|(refine X.g ?_; cbv)|refine X.splitT ?_|refine X.splitF ?_|refine X.sp (fun hc=>?_) (fun hc=>?_)|refine X.needT ?_|(refine X.calls [1] n4 ?_ ?_ ?_ ?_; (focus (cbv; done)); (focus (cbv <;> (and_intros <;> first|rfl|trivial))); (focus (cbv; done)))|refine X.callsA [] k2 ?_|fail))
 all_goals (refine X.ret _ (X.done rfl ?_); cbv <;> (and_intros <;> first|exact g1.symm|exact fw.symm|exact fp.symm|exact fs.symm|exact fg.symm|exact fw|exact fp|exact fs|exact fg|rfl|trivial))
end Go.Proofs.YthadehkggddgoaaGreatDoor
end
section
set_option linter.unusedVariables false
set_option linter.unusedSimpArgs false
namespace Go.Proofs.YthadehkggddgoaaGreatDoor
open Go Go.Num
theorem smallOf (r:Rat):(Q.of r).Small ↔ r.num.natAbs ≤ 1000000 ∧ r.den ≤ 1000:=by
 constructor
 ·rintro ⟨_,h1,h2⟩
  rw [Q.bnum] at h1
  rw [Q.bden] at h2
  exact ⟨h1,h2⟩
 ·rintro ⟨h1,h2⟩
  exact ⟨Q.of_good r,by rw [Q.bnum]; exact h1,by rw [Q.bden]; exact h2⟩
def link0:Lk:=⟨Q.of (mkRat 4 4),Q.of (mkRat (-1) 3),Q.of (mkRat 1 3),Q.of (mkRat 1 4),Q.of (mkRat 1 10),rectM (-1) (-1) 5 1⟩
theorem arm0_eq:arm0 = ⟨nameM 0,⟨atM 0 0,⟨false,Q.of (mkRat 0 1)⟩⟩,[link0]⟩:=rfl
theorem szOf {r:Rat} (h1:r.num.natAbs < 256 ^ 4) (h2:r.den < 256 ^ 4):(Q.of r).sz ≤ 4:=by rw [sz_of]; exact rs_le.2 ⟨h1,h2⟩
theorem at_sz {x y:Int} (h1:(mkRat x 4).num.natAbs < 256 ^ 4) (h2:(mkRat x 4).den < 256 ^ 4) (h3:(mkRat y 4).num.natAbs < 256 ^ 4) (h4:(mkRat y 4).den < 256 ^ 4):(atM x y).sz ≤ 4:=by
 have:=szOf h1 h2
 have:=szOf h3 h4
 simp only [atM,V2.of,V2.sz]; omega
theorem rect0_sz:∀ p ∈ rectM (-1) (-1) 5 1,p.sz ≤ 2 ^ 28:=by
 intro p hp
 simp only [rectM,List.mem_cons,List.not_mem_nil,or_false] at hp
 have key:p.sz ≤ 4:=by rcases hp with rfl|rfl|rfl|rfl <;> exact at_sz (by decide +kernel) (by decide +kernel) (by decide +kernel) (by decide +kernel)
 omega
theorem link0_le:link0.le (2 ^ 28):=by
 have e:∀ {r:Rat},r.num.natAbs < 256 ^ 4 → r.den < 256 ^ 4 → (Q.of r).sz ≤ 2 ^ 28:=fun h1 h2=>by have:=szOf h1 h2; omega
 exact ⟨e (by decide +kernel) (by decide +kernel),e (by decide +kernel) (by decide +kernel),e (by decide +kernel) (by decide +kernel),e (by decide +kernel) (by decide +kernel),e (by decide +kernel) (by decide +kernel),rect0_sz,by decide⟩
theorem works0_le:works0.Le:=by
 refine ⟨?_,by decide,by simp [works0],by decide,by simp [works0],by decide,by simp [works0],by decide,by simp [works0],by decide,?_⟩
 ·intro a ha
  have:a = arm0:=by simpa [works0] using ha
  subst this
  rw [arm0_eq]
  refine ⟨by decide,⟨?_,?_⟩,?_,by decide⟩
  ·have:=at_sz (x:=0) (y:=0) (by decide +kernel) (by decide +kernel) (by decide +kernel) (by decide +kernel)
   show (atM 0 0).sz ≤ _; omega
  ·have:=szOf (r:=mkRat 0 1) (by decide +kernel) (by decide +kernel)
   show (Q.of _).sz ≤ _; omega
  ·intro k hk
   have:k = link0:=by simpa using hk
   subst this; exact link0_le
 ·have:=szOf (r:=mkRat 0 8) (by decide +kernel) (by decide +kernel)
  show (Q.of _).sz ≤ _; omega
theorem poly0:polyC 8 (rectM (-1) (-1) 5 1) = 0:=by
 have h:(rectM (-1) (-1) 5 1).map V2.v = [⟨mkRat (-1) 4,mkRat (-1) 4⟩,⟨mkRat 5 4,mkRat (-1) 4⟩,⟨mkRat 5 4,mkRat 1 4⟩,⟨mkRat (-1) 4,mkRat 1 4⟩]:=by
  simp only [rectM,atM,List.map,V2.v_of]
 rw [polyC,h]
 decide +kernel
theorem link0_ok:linkC link0 = 0:=by
 have s:∀ {r:Rat},r.num.natAbs ≤ 1000000 ∧ r.den ≤ 1000 → (Q.of r).Small:=fun h=>(smallOf _).2 h
 have h1:∀ q ∈ [link0.length,link0.low,link0.high,link0.speed,link0.brake],q.Small:=by
  simp only [link0,List.mem_cons,List.not_mem_nil,or_false,forall_eq_or_imp,forall_eq]
  exact ⟨s (by decide +kernel),s (by decide +kernel),s (by decide +kernel),s (by decide +kernel),s (by decide +kernel)⟩
 have h2:∀ p ∈ link0.shape,p.Small:=by
  show ∀ p ∈ rectM (-1) (-1) 5 1,p.Small
  simp only [rectM,List.mem_cons,List.not_mem_nil,or_false,forall_eq_or_imp,forall_eq]
  exact ⟨⟨s (by decide +kernel),s (by decide +kernel)⟩,⟨s (by decide +kernel),s (by decide +kernel)⟩,⟨s (by decide +kernel),s (by decide +kernel)⟩,⟨s (by decide +kernel),s (by decide +kernel)⟩⟩
 have e1:sgnR link0.length.v = 1:=by show sgnR (Q.of _).v = 1; rw [Q.v_of]; decide +kernel
 have e2:cmpR link0.low.v link0.high.v = -1:=by show cmpR (Q.of _).v (Q.of _).v = -1; rw [Q.v_of,Q.v_of]; decide +kernel
 have e3:sgnR link0.speed.v = 1:=by show sgnR (Q.of _).v = 1; rw [Q.v_of]; decide +kernel
 have e4:sgnR link0.brake.v = 1:=by show sgnR (Q.of _).v = 1; rw [Q.v_of]; decide +kernel
 rw [linkC,decide_eq_true h1,decide_eq_true h2,e1,e2,e3,e4,show polyC 8 link0.shape = 0 from poly0]
 rfl
theorem arm0_ok:armC arm0 = 0:=by
 have s:∀ {r:Rat},r.num.natAbs ≤ 1000000 ∧ r.den ≤ 1000 → (Q.of r).Small:=fun h=>(smallOf _).2 h
 have h1:∀ q ∈ [arm0.base.at_.x,arm0.base.at_.y,arm0.base.turn.t],q.Small:=by
  rw [arm0_eq]
  simp only [atM,V2.of,List.mem_cons,List.not_mem_nil,or_false,forall_eq_or_imp,forall_eq]
  exact ⟨s (by decide +kernel),s (by decide +kernel),s (by decide +kernel)⟩
 have h2:nameOK arm0.name:=by rw [arm0_eq]; decide +kernel
 rw [armC,decide_eq_true h1,decide_eq_true h2]
 rw [arm0_eq]
 show armI true 1 true false _ (firstE linkC [link0]) = 0
 rw [firstE,link0_ok]
 rfl
theorem works0_ok:worksC works0 = 0:=by
 have h1:wksA works0 = (0,[nameM 0]):=by
  show eachN armN [] [arm0] = _
  have:armN [] arm0 = (0,[nameM 0]):=by
   rw [armN,arm0_ok,arm0_eq]
   show addN [] (nameM 0) = _
   rw [addN,if_neg (by rw [Classical.not_not]; decide +kernel),if_neg (by simp)]; rfl
  rw [eachN,this]; rfl
 have s:(Q.of (mkRat 0 8)).Small:=(smallOf _).2 (by decide +kernel)
 have e1:sgnR works0.walk.v = 0:=by show sgnR (Q.of _).v = 0; rw [Q.v_of]; decide +kernel
 have e2:(wksP works0).1 = 0:=rfl
 have e3:(wksS works0).1 = 0:=rfl
 have e4:(wksG works0).1 = 0:=rfl
 rw [worksC,h1,e1,e2,e3,e4,show works0.walk = Q.of (mkRat 0 8) from rfl,decide_eq_true s]
 rfl
end Go.Proofs.YthadehkggddgoaaGreatDoor
end
end
