/- PROVED HERE: MoveStepsUptoCardSaid: for all inputs gantlaw2.MoveSteps returns true (Step returns what chapter 52 specifies) and all reads behind the call as it read before. CONDITIONS: what is read is of bulk at most 1048576; the listed tables of Go's library hold what the program's text lays; no other. -/
import Derived.Test.YthadehkggddgoaaGreatDoorZFitW
import Derived.Test.YthadehkggddgoaaGreatDoorZLoop
import Derived.Test.YthadehkggddgoaaGreatDoorCards
import Derived.Test.YthadehkggddgoaaGreatDoorTie
import Derived.WalkKit
import Derived.ProofKit
import Derived.OpenShut
import Derived.JoinedCond
import Derived.WideKeyArgs
import Derived.Deep.DeepHandedRow
import Derived.Lib.LaidTab
set_option maxRecDepth 100000
set_option maxHeartbeats 0
set_option linter.unusedVariables false
namespace Go.Proofs.YthadehkggddgoaaGreatDoor.moveSteps
open Go Go.ChangeShapes Go.WideShapes Go.ChangeAt Go.RowKit
theorem own:ownKnob Tryz.prog.godebug=none:=by kernel_rfl
theorem bas {H:Type}:∀ l:List (DataW H),Rows.uptoBulkAll l=(l.map Rows.uptoBulk).sum
 | []=>rfl
 | d :: l=>by simp only [Rows.uptoBulkAll,List.map_cons,List.sum_cons,bas l]
theorem bulkOK {H:Type}:AE.BulkOK (H:=H) Rows.uptoBulk where
 one:=by
  intro d
  cases d <;> first | (simp [Rows.uptoBulk]; done) | (rename_i l; cases l <;> simp [Rows.uptoBulk])
 str:=by intro l; simp [Rows.uptoBulk]
 agg:=by intro l; simp only [Rows.uptoBulk,bas]; omega
 slice:=by intro l m; simp only [Rows.uptoBulk,bas]; omega
theorem lib_ofR {W:World} (hL:laidMetH Tryz.prog Rows.moveStepsUptoRow.laid W):LibOK W:=by
 rw [MakeChecks.laidMetH_plain _ _ _ (by kernel_rfl)] at hL
 refine ⟨tab_at (by kernel_rfl) (Lib.tabIs_of_head (g:=1) (t:=280) (e:=5) (n:=64) (by kernel_rfl) (by kernel_rfl) (by kernel_rfl) (by kernel_rfl) (by kernel_rfl) (by kernel_rfl) (show laidMet Tryz.prog (("math/bits.deBruijn64tab", Lib.tabData .u8 (Lib.deBruijn64tab.map fun n:Nat=>(n:Int))) :: _) W from hL))⟩
theorem pk {H:Type} {enc:TypeId × Value→H} {W W' : World} {args:Array Value} {ds gs:List (DataW H)} {bf:List MemPlace} {v:Value}
  (hW:DataW.Whole enc Tryz.prog Tryz.f10.params.toList Rows.moveStepsSpec.vars false W args.toList ds gs bf) (hv:v = .bool true)
  (hfn:(Rows.moveStepsSpec.fn H (ds++gs)) = { results:=[.lit (.bool true)],args:=ds }) (hgs:gs=[])
  (hos:W'.os=W.os) (hout:W'.output=W.output) (hheap:∀ b,b<W.heap.size→W'.heap[b]? = W.heap[b]?) :
  Rows.moveStepsSpec.post enc Tryz.prog Tryz.f10 false true false false W args v W' := by
 have hW' := hW
 obtain ⟨p,q,hA,hV,hpq,hfz,hnd⟩:=hW
 have hvars:Rows.moveStepsSpec.vars=[]:=rfl
 rw [hvars] at hV
 obtain ⟨hq1,hq2⟩:=trodVars_none hV
 subst hq1; subst hq2
 have hlt:=hA.lt
 have hsame:∀ pl∈p,W.sameAt W' pl:=by
  intro pl hpl
  have h1:=hlt pl hpl
  cases pl with
  | cell b off=>simp only [World.sameAt,World.cell?]; rw [hheap b h1]
  | map b=>exact hheap b h1
 have hargs:∀ sp:Nat→Bool,(∀ pl∈p,sp pl.block=true)→DataW.TrodAll enc Tryz.prog W' 0 sp true Tryz.f10.params.toList args.toList ds p:=by
  intro sp hsp
  rw [Tryz.params10] at hA ⊢
  obtain ⟨v0,vs0,d0,ds0,p0,q0,hargs,rfl,rfl,h0,r0⟩:=trodAll_cons hA
  obtain ⟨v1,vs1,d1,ds1,p1,q1,rfl,rfl,rfl,h1,r1⟩:=trodAll_cons r0
  obtain ⟨v2,vs2,d2,ds2,p2,q2,rfl,rfl,rfl,h2,r2⟩:=trodAll_cons r1
  obtain ⟨v3,vs3,d3,ds3,p3,q3,rfl,rfl,rfl,h3,r3⟩:=trodAll_cons r2
  obtain ⟨v4,vs4,d4,ds4,p4,q4,rfl,rfl,rfl,h4,r4⟩:=trodAll_cons r3
  obtain ⟨rfl,rfl,rfl⟩:=trodAll_nil r4
  rw [hargs]
  exact trodAll_cons_mk (Go.WideElems.Trod_stays (by kernel_rfl) (by kernel_rfl) (by decide +kernel) h0 (fun pl hpl=>hsame pl (by simp [hpl])) (fun pl hpl=>hsp pl (by simp [hpl]))) (trodAll_cons_mk (Go.WideElems.Trod_stays (by kernel_rfl) (by kernel_rfl) (by decide +kernel) h1 (fun pl hpl=>hsame pl (by simp [hpl])) (fun pl hpl=>hsp pl (by simp [hpl]))) (trodAll_cons_mk (Go.WideElems.Trod_stays (by kernel_rfl) (by kernel_rfl) (by decide +kernel) h2 (fun pl hpl=>hsame pl (by simp [hpl])) (fun pl hpl=>hsp pl (by simp [hpl]))) (trodAll_cons_mk (Go.WideElems.Trod_stays (by kernel_rfl) (by kernel_rfl) (by decide +kernel) h3 (fun pl hpl=>hsame pl (by simp [hpl])) (fun pl hpl=>hsp pl (by simp [hpl]))) (trodAll_cons_mk (Go.WideElems.Trod_stays (by kernel_rfl) (by kernel_rfl) (by decide +kernel) h4 (fun pl hpl=>hsame pl (by simp [hpl])) (fun pl hpl=>hsp pl (by simp [hpl]))) (trodAll_mk0)))))
 have hold:∀ pl∈p,(fun b=>decide (b<W.heap.size)) pl.block=true:=fun pl hpl=>by simpa using hlt pl hpl
 refine ⟨ds,[],bf,[],p,[],hW', ?_,?_,?_,?_,fun h=>by cases h⟩
 ·rw [hfn,hv]
  exact trodAll_cons_mk (shut_bool Tryz.underlying4 _) trodAll_mk0
 ·rw [hfn]; exact hargs _ hold
 ·rw [hfn]; rfl
 ·refine ⟨hos,hout,fun i hi=>?_⟩
  rw [hheap i hi]
  cases W.heap[i]? with
  | none=>rfl
  | some o=>cases o <;> simp
theorem contract (H:Type) (enc:TypeId × Value→H) (W:World) (base:Nat) (args:Array Value) (ds gs:List (DataW H)) (bf:List MemPlace)
  (hval:∀ (j:Nat) t v,Tryz.f10.params[j]? = some t→args[j]? = some v→Value.okWide Tryz.prog W .any base t v)
  (hW:DataW.Whole enc Tryz.prog Tryz.f10.params.toList Rows.moveStepsSpec.vars false W args.toList ds gs bf) (hk:Rows.uptoSmall H (ds++gs)=true) (hL:laidMetH Tryz.prog Rows.moveStepsUptoRow.laid W) (hS:W.ShapedOpen Tryz.prog) :
  Calls Tryz.prog 10 args W fun e W' => ∃ v,e = .returned v∧Rows.moveStepsSpec.post enc Tryz.prog Tryz.f10 false true false false W args v W' := by
 have hW' := hW
 obtain ⟨p,q,hA0,hV,rfl,hfz,hnd⟩:=hW
 have hA:DataW.TrodAll enc Tryz.prog W 0 (fun _=>true) true Tryz.f10.params.toList args.toList ds p:=hA0
 rw [Tryz.params10] at hA hval
 obtain ⟨v0,vs0,d0,ds0,p0,q0,hargs,rfl,rfl,h0,r0⟩:=trodAll_cons hA
 obtain ⟨v1,vs1,d1,ds1,p1,q1,rfl,rfl,rfl,h1,r1⟩:=trodAll_cons r0
 obtain ⟨v2,vs2,d2,ds2,p2,q2,rfl,rfl,rfl,h2,r2⟩:=trodAll_cons r1
 obtain ⟨v3,vs3,d3,ds3,p3,q3,rfl,rfl,rfl,h3,r3⟩:=trodAll_cons r2
 obtain ⟨v4,vs4,d4,ds4,p4,q4,rfl,rfl,rfl,h4,r4⟩:=trodAll_cons r3
 obtain ⟨rfl,rfl,rfl⟩:=trodAll_nil r4
 obtain rfl:args = #[v0,v1,v2,v3,v4]:=by cases args; simp_all
 have hvars:Rows.moveStepsSpec.vars=[]:=rfl
 rw [hvars] at hV
 obtain ⟨rfl,rfl⟩:=trodVars_none hV
 obtain ⟨cs0,rfl,_⟩:=okWide_struct Tryz.underlying31 (hval 0 31 v0 rfl rfl)
 obtain ⟨cs1,rfl,_⟩:=okWide_struct Tryz.underlying37 (hval 1 37 v1 rfl rfl)
 obtain ⟨a2,len2,cap2,rfl⟩:=okWide_slice Tryz.underlying87 (hval 2 87 v2 rfl rfl)
 obtain ⟨a3,len3,cap3,rfl⟩:=okWide_slice Tryz.underlying35 (hval 3 35 v3 rfl rfl)
 obtain ⟨a4,len4,cap4,rfl⟩:=okWide_slice Tryz.underlying34 (hval 4 34 v4 rfl rfl)
 let E:AE.Env:={ h:=fun b=>W.heap[b]?,blk:=fun _=>0,row:=fun _=>.nilFunc }
 have hE:∀ b o,W.heap[b]? = some o→E.h b=some o:=fun b o h=>h
 obtain ⟨m0,t0⟩:=h0
 obtain ⟨a0,hl0,hw0⟩:=openW (enc:=enc) hE bulkOK m0 _ _ t0
 obtain ⟨m1,t1⟩:=h1
 obtain ⟨a1,hl1,hw1⟩:=openSt (enc:=enc) hE bulkOK m1 _ _ t1
 obtain ⟨m2,t2⟩:=h2
 obtain ⟨l2,hl2,hw2⟩:=openWish (enc:=enc) hE bulkOK m2 _ _ t2
 obtain ⟨m3,t3⟩:=h3
 obtain ⟨l3,hl3,hw3⟩:=openBools (enc:=enc) hE bulkOK m3 _ _ t3
 obtain ⟨m4,t4⟩:=h4
 obtain ⟨l4,hl4,hw4⟩:=openVecs (enc:=enc) hE bulkOK m4 _ _ t4
 have hsum:Rows.uptoBulk d0+Rows.uptoBulk d1+Rows.uptoBulk d2+Rows.uptoBulk d3+Rows.uptoBulk d4≤1048576:=by
  have h:Rows.uptoBulkAll ([d0,d1,d2,d3,d4]++[])≤1048576:=of_decide_eq_true hk
  simp only [List.append_nil,Rows.uptoBulkAll] at h
  omega
 have hbd:Rows.uptoBulk d0≤1048576∧Rows.uptoBulk d1≤1048576∧Rows.uptoBulk d2≤1048576∧Rows.uptoBulk d3≤1048576∧Rows.uptoBulk d4≤1048576:=by
  have h:Rows.uptoBulkAll ([d0,d1,d2,d3,d4]++[])≤1048576:=of_decide_eq_true hk
  simp only [List.append_nil,Rows.uptoBulkAll] at h
  omega
 obtain ⟨b0,b1,b2,b3,b4⟩:=hbd
 simp only at hw0 hw1 hw2 hw3 hw4
 have wt0:a0.wt≤1048576:=Nat.le_trans hw0 b0
 have wt1:a1.1.wt≤1048576:=Nat.le_trans hw1 b1
 have wl2:=Nat.le_trans hw2 b2
 have wl3:=Nat.le_trans hw3 b3
 have wl4:=Nat.le_trans hw4 b4
 have hM:AE.Mem W (AE.mineOf E []) (AE.knOf E []) E [] W:=by
  refine ⟨rfl,rfl,rfl,Nat.le_refl _,fun _ _ _=>rfl,fun b o h=>h,fun b o h=>.inl (by simp only [AE.knOf]; rw [h]; simp),fun k ob h=>by simp at h,fun k k' ob ob' h=>by simp at h,fun k ob h=>by simp at h,fun k b h=>(by simp [AE.knOf,AE.isBox] at h),fun b o h=>h⟩
 have hcall:=moveSteps_ok a0 (a0.le_wt wt0 (by decide)) a1.1 ⟨a1.1.le_wt wt1 (by decide),a1.1.few_wt wt1 (by decide),a1.1.fewI_wt wt1 (by decide) a1.2,by have:=a1.1.S_size; omega⟩ l2 l3 l4 (wish_len wl2) (bools_len wl3) (vecs_len wl4) (vecs_sz wl4) (people_sz wt1) (fun h=>step_ok (by omega) h) (fun h=>stepped_fit (by omega) a1.2 h) (lsAv wishC l2) (lsAv boolC l3) (lsAv V2.c l4) rfl rfl rfl E W [.agg cs0,.agg cs1,.slice a2 len2 cap2,.slice a3 len3 cap3,.slice a4 len4 cap4] (gg_of (lib_ofR hL)) hM (fun k cs ty h=>by simp at h) rfl (fun i x u hx hu=>by
  match i with
  | 0 =>
   simp at hx hu; subst hx; subst hu
   exact ⟨(AE.RAV.a false _ _ hl0.1 hl0.2.1 hl0.2.2).up,.a _ a0.bl⟩
  | 1 =>
   simp at hx hu; subst hx; subst hu
   exact ⟨(AE.RAV.a false _ _ hl1.1 hl1.2.1 hl1.2.2).up,.a _ a1.1.bl⟩
  | 2 =>
   simp at hx hu; subst hx; subst hu
   exact ⟨(hl2.2.2 0 _ _ rfl rfl).up,.l _ _⟩
  | 3 =>
   simp at hx hu; subst hx; subst hu
   exact ⟨(hl3.2.2 0 _ _ rfl rfl).up,.l _ _⟩
  | 4 =>
   simp at hx hu; subst hx; subst hu
   exact ⟨(hl4.2.2 0 _ _ rfl rfl).up,.l _ _⟩
  | i+5=>simp at hx)
 have hC:Calls Tryz.prog 10 #[.agg cs0,.agg cs1,.slice a2 len2 cap2,.slice a3 len3 cap3,.slice a4 len4 cap4] W fun e W' => ∃ v,e = .returned v ∧ ∃ E', AE.Mem W (AE.mineOf E []) (AE.knOf E []) E' [] W' ∧ AE.Wfo []∧AE.RAV E' true (.b true) v∧AE.Bl 0 (.b true):=by
  rcases hcall with ⟨_,h⟩|⟨u,W', h,_⟩
  ·exact h
  ·rw [Tryz.call10] at h; cases h
 refine hC.mono fun e W' ⟨v,he,E', hM', _,hv,_⟩=>⟨v,he,?_⟩
 refine pk hW' hv.bInv rfl rfl hM'.os hM'.output fun b hb=>hM'.keep b hb ?_
 rintro ⟨i,ob,h,_⟩
 simp at h
def cO (d:DataW Unit):List Value :=
 match d with
 | .lit (.int k n)=>[.int k n]
 | .agg ps=>ps.map fun x=>match x with | .lit (.int k n)=>Value.int k n|_=>.nilFunc
 | _=>[]
def tC (d:DataW Unit):Array Value :=
 match d with
 | .agg ps=>(ps.flatMap cO).toArray
 | _=>#[]
def pT (h:Array Obj) (g:Nat) (d:DataW Unit):Array Obj:=h.modify g fun
 | .cells _ t frozen=>.cells (tC d) t frozen
 | o=>o
noncomputable def lw0 (os:Os):World :=
 {World.holding Tryz.prog os ⟨#[],#[],[]⟩ with heap:=pT (pT (pT (World.holding Tryz.prog os ⟨#[],#[],[]⟩).heap 1 Rows.laid_math_bits_deBruijn64tab) 3 Rows.laid_unicode_utf8_acceptRanges) 2 Rows.laid_unicode_utf8_first }
theorem lm (os:Os):laidMet Tryz.prog Rows.moveStepsUptoRow.laid ((lw0 os).forCall (fun _ _=>0) ⟨#[],#[.agg #[.slice none 0 0,.slice none 0 0,.slice none 0 0,.slice none 0 0,.slice none 0 0,.bool false,.string ⟨#[]⟩,.string ⟨#[]⟩],.agg #[.int .i64 0,.slice none 0 0,.slice none 0 0,.slice none 0 0,.slice none 0 0],.slice none 0 0,.slice none 0 0,.slice none 0 0],[]⟩).memory :=
 laidMet_of_run' 8 (by kernel_rfl) (by kernel_rfl)
theorem reads (os:Os) {H:Type} (enc:TypeId × Value→H):∃ pls,DataW.whole enc Tryz.prog ((lw0 os).forCall (fun _ _=>0) ⟨#[],#[.agg #[.slice none 0 0,.slice none 0 0,.slice none 0 0,.slice none 0 0,.slice none 0 0,.bool false,.string ⟨#[]⟩,.string ⟨#[]⟩],.agg #[.int .i64 0,.slice none 0 0,.slice none 0 0,.slice none 0 0,.slice none 0 0],.slice none 0 0,.slice none 0 0,.slice none 0 0],[]⟩).memory Tryz.f10.params.toList Rows.moveStepsSpec.vars false (#[.agg #[.slice none 0 0,.slice none 0 0,.slice none 0 0,.slice none 0 0,.slice none 0 0,.bool false,.string ⟨#[]⟩,.string ⟨#[]⟩],.agg #[.int .i64 0,.slice none 0 0,.slice none 0 0,.slice none 0 0,.slice none 0 0],.slice none 0 0,.slice none 0 0,.slice none 0 0]:Array Value).toList 8=some ([.agg [.nil,.nil,.nil,.nil,.nil,.agg [.lit (.bool false),.lit (.string []),.lit (.string [])]],.agg [.lit (.int .i64 0),.nil,.nil,.nil,.nil],.nil,.nil,.nil],[],pls) :=
 ⟨[],by kernel_rfl⟩
theorem lifted (os:Os) (sd:os.Started) (H:Type) (enc:TypeId × Value→H) (F:Stop.Interp) :
  ReturnsInHanded {} Tryz.checked os 10 .any ((Rows.OpenSpec.upto Rows.moveStepsSpec).preRow enc Tryz.prog Tryz.f10 Rows.moveStepsUptoRow.domain false Rows.moveStepsUptoRow.laid) (((Rows.OpenSpec.upto Rows.moveStepsSpec).at F).post enc Tryz.prog Tryz.f10 false true false false):=by
 obtain ⟨pls,hx⟩:=reads os enc
 refine returnsInHanded_of_row (C:=Tryz.checked) (s:=Rows.OpenSpec.upto Rows.moveStepsSpec) own sd (by kernel_rfl) Tryz.func10
  (witness_row_at (enc:=enc) (C:=Tryz.checked) false (lw0 os) #[.agg #[.slice none 0 0,.slice none 0 0,.slice none 0 0,.slice none 0 0,.slice none 0 0,.bool false,.string ⟨#[]⟩,.string ⟨#[]⟩],.agg #[.int .i64 0,.slice none 0 0,.slice none 0 0,.slice none 0 0,.slice none 0 0],.slice none 0 0,.slice none 0 0,.slice none 0 0] rfl (by kernel_rfl) (by kernel_rfl) (by kernel_rfl)
   (OpenSpec.preRow_of_cond 8 hx (by kernel_rfl) (fun k hk=>by cases hk; kernel_rfl) (by kernel_rfl) (lm os))) ?_
 intro W base args ds gs bf hval hW _ hcond _ hL hS _
 exact contract H enc W base args ds gs bf hval hW (hcond _ rfl) hL hS
theorem o14:Tryz.pinned.checked.prog.funcNamed Rows.moveStepsUptoRow.func=some 10:=by kernel_rfl
theorem andT {a b:Bool} (h1:a=true) (h2:b=true):(a && b)=true:=by rw [h1,h2]; rfl
theorem o16:joinedFacts Tryz.pinned.checked.prog 10 Tryz.f10 (Rows.OpenSpec.upto Rows.moveStepsSpec).bare Rows.moveStepsUptoRow=true:=by
 unfold joinedFacts
 repeat' (with_reducible refine andT ?_ ?_)
 all_goals as_aux_lemma=>kernel_rfl
theorem o17:Func.isInstance Tryz.pinned.checked.prog Tryz.f10 Rows.moveStepsUptoRow.origin Rows.moveStepsUptoRow.targs:=of_decide_eq_true (by kernel_rfl)
theorem o18:Func.isWrapper Tryz.pinned.checked.prog Tryz.f10 Rows.moveStepsUptoRow.wrapper Rows.moveStepsUptoRow.mainSum:=by unfold Func.isWrapper; first|(rw [if_pos (by decide +kernel)]; kernel_rfl)|(rw [if_neg (by decide +kernel)]; exact ⟨rfl,rfl⟩)
theorem o19:∀ (os:Os),os.Started→∀ (H:Type) (enc:TypeId × Value→H),(∀ (a b:TypeId × Value),enc a=enc b→a=b)→∀ (F:Stop.Interp),ReturnsInHanded Rows.moveStepsUptoRow.assume Tryz.pinned.checked os 10 Reach.any (OpenClaim.pre enc Tryz.pinned.checked.prog Tryz.f10 (Rows.OpenSpec.upto Rows.moveStepsSpec) Rows.moveStepsUptoRow) (ChangeSpec.post enc Tryz.pinned.checked.prog Tryz.f10 ((Rows.OpenSpec.upto Rows.moveStepsSpec).at F) Rows.moveStepsUptoRow.apart Rows.moveStepsUptoRow.fresh Rows.moveStepsUptoRow.handsOn Rows.moveStepsUptoRow.again) :=
 fun os sd H enc _ F=>by rw [OpenClaim.pre_eq_preRow]; exact lifted os sd H enc F
theorem over:Rows.MoveStepsUptoSaid :=
 OpenClaim.holds_of_cond 10 Tryz.f10 rfl rfl rfl rfl rfl rfl rfl ⟨rfl,rfl,rfl,rfl,rfl⟩ rfl rfl rfl rfl rfl o14 Tryz.func10 o16 o17 o18 o19
theorem plain (f:FuncId) (fn:Func) (hf:Tryz.pinned.checked.prog.funcNamed "gantry/gantlaw2.MoveSteps" = some f) (hfn:Tryz.pinned.checked.prog.funcs[f]? = some fn) :
  false=Tryz.pinned.checked.prog.looks []∧∀ (j:Nat) t,fn.params[j]? = some t→Tryz.pinned.checked.prog.wantsStandIn t=false:=by
 obtain rfl:f=10:=Option.some.inj ((show Tryz.prog.funcNamed "gantry/gantlaw2.MoveSteps" = some 10 by kernel_rfl).symm.trans hf) |>.symm
 obtain rfl:fn=Tryz.f10:=(Option.some.inj (Tryz.func10.symm.trans hfn)).symm
 refine ⟨by kernel_rfl,fun j t ht=>?_⟩
 rw [Tryz.params10] at ht
 have:=Array.mem_of_getElem? ht
 simp at this
 rcases this with rfl|rfl|rfl|rfl|rfl
 ·exact (show Tryz.prog.wantsStandIn 31=false by kernel_rfl)
 ·exact (show Tryz.prog.wantsStandIn 37=false by kernel_rfl)
 ·exact (show Tryz.prog.wantsStandIn 87=false by kernel_rfl)
 ·exact (show Tryz.prog.wantsStandIn 35=false by kernel_rfl)
 ·exact (show Tryz.prog.wantsStandIn 34=false by kernel_rfl)
theorem proved:Rows.MoveStepsUptoCardSaid :=
 Claim7.holds_tied_plain_at .later [] _ _ _ _ over (fun _ h=>by cases h) (by kernel_rfl) (fun _ h=>by cases h) moveStepsUpto_row_tie rfl ⟨rfl,rfl⟩ (by kernel_rfl) rfl plain (by kernel_rfl)
end Go.Proofs.YthadehkggddgoaaGreatDoor.moveSteps
