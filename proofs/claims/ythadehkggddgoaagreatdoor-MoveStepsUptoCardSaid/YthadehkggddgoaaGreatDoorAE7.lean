/- AE, part 7: the operations that write or make memory, as functions of abstract states; that the machine does just this. -/
import Derived.Test.YthadehkggddgoaaGreatDoorAE6
set_option linter.unusedVariables false
set_option linter.unusedSimpArgs false
namespace Go.AE
open Go
def immC:AV → Bool
 | .v _ | .b _ | .l _ _ | .ip _ | .ni=>true
 | _=>false
def immB:AV → Bool
 | .f _ caps=>caps.all immC
 | x=>immC x
inductive ER where
 | ok (x:AV) (σ : St)
 | need (p:Prop) (x:AV) (σ : St)
 | stq (k ety sz i off:Nat) (es:List (List AV)) (ds:List AV) (σ : St)
 | no
def storeA (A : Ari) (T : Tab) (σ : St) (ty : Nat) (x y : AV) : ER :=
  match look T ty with
  | none => .no
  | some i => if y.cells.length = i.size ∧ y.cells.all AV.cell = true then
      match x with
      | .p k off => match σ.own[k]? with
        | some (.box cs tb) => if off + y.cells.length ≤ cs.length then .ok .any { σ with own := σ.own.set k (.box (cs.take off ++ y.cells ++ cs.drop (off + y.cells.length)) tb) } else .no
        | _ => .no
      | .q k sz n off => match σ.own[k]? with
        | some (.row ety sz' es) => if sz = sz' ∧ y.cells.all immB = true then
            (if off = 0 ∧ i.size = sz then .need (AtR n es) .any { σ with own := σ.own.set k (.row ety sz (A.lset es n y.cells)) }
             else if off + i.size ≤ sz then .stq k ety sz n off es y.cells σ else .no)
          else .no
        | _ => .no
      | _ => .no
    else .no
def fillEs (sz:Nat):List (List AV) → List (Nat × AV) → Option (List (List AV))
 | es,[]=>some es
 | es,(i,x) :: rest=>if i < es.length ∧ x.cells.length = sz ∧ x.cells.all AV.cell = true ∧ x.cells.all immB = true then fillEs sz (es.set i x.cells) rest else none
def litA (T:Tab) (σ : St) (ty len:Nat) (ps:List (Nat × AV)):ER :=
 match look T ty with
 | some ⟨.slice e,_,_,_⟩=>match look T e with
  | some i=>if (len * i.size ≤ 16777216 ∧ 0 < i.size) ∧ e < 1000000 then
    match fillEs i.size (List.replicate len (i.zero.map zeroA)) ps with
    | some es=>.ok (.r σ.own.length) { σ with own:=σ.own ++ [.row e i.size es] }
    | none=>.no
   else .no
  | none=>.no
 | _=>.no
def makeA (A:Ari) (T:Tab) (σ : St) (ty:Nat) (l c:AV):ER :=
 match look T ty,l,c with
 | some ⟨.slice e,_,_,_⟩,.v (.int _ n),.v (.int _ m)=>match look T e with
  | some i=>if 0 < i.size ∧ e < 1000000 then .need (MakeR n m i.bytes) (.r σ.own.length) { σ with own:=σ.own ++ [.row e i.size (A.lrep n (i.zero.map zeroA))] } else .no
  | none=>.no
 | _,_,_=>.no
def appendA (A:Ari) (T:Tab) (σ : St) (ty:Nat) (x y:AV):ER :=
 match look T ty with
 | some ⟨.slice e,_,_,_⟩=>match look T e,srcOf σ y with
  | some i,some (sz,ds)=>if (sz = i.size ∧ 0 < i.size) ∧ e < 1000000 then
    match x with
    | .r k=>match σ.own[k]? with
     | some (.row ety sz' es)=>if ety = e ∧ sz' = sz then
       .need (GrowR (A.llen es) (A.llen ds) i.bytes) (.r k)
        {(σ.kill k) with own:=(σ.kill k).own.set k (.row ety sz (A.lapp es ds)) }
      else .no
     | _=>.no
    | .v (.slice none 0 0)=>.need (NewR (A.llen ds) i.bytes) (.r σ.own.length) { σ with own:=σ.own ++ [.row e sz (A.lapp [] ds)] }
    | _=>.no
   else .no
  | _,_=>.no
 | _=>.no
noncomputable def appendS (A:Ari) (T:Tab) (σ : St) (ty:Nat) (x y:AV):ER :=
 match y with
 | .v (.string s)=>match look T ty with
  | some ⟨.slice e,_,_,_⟩=>match look T e with
   | some i=>if (isU8 T ty = true ∧ i.size = 1) ∧ e < 1000000 then
     match x with
     | .r k=>match σ.own[k]? with
      | some (.row ety sz es)=>if ety = e ∧ sz = 1 then
        .need (GrowR (A.llen es) (A.slen s) i.bytes) (.r k) { (σ.kill k) with own:=(σ.kill k).own.set k (.row ety 1 (A.lapp es (sbytes s))) }
       else .no
      | _=>.no
     | .v (.slice none 0 0)=>.need (NewR (A.slen s) i.bytes) (.r σ.own.length) { σ with own:=σ.own ++ [.row e 1 (A.lapp [] (sbytes s))] }
     | _=>.no
    else .no
   | none=>.no
  | _=>.no
 | _=>.no
def makeMapA (A:Ari) (T:Tab) (σ : St) (ty:Nat):ER :=
 match look T ty with
 | some ⟨.map k e,_,_,_⟩=>match mkOf T k,mkOf T e with
  | some kk,some vk=>.ok (.r σ.own.length) { σ with own:=σ.own ++ [.mp kk vk A.mnew] }
  | _,_=>.no
 | _=>.no
def updateA (A:Ari) (T:Tab) (σ : St) (ty:Nat) (x i y:AV):ER :=
 match look T ty with
 | some ⟨.map k e,_,_,_⟩=>match x with
  | .r j=>match σ.own[j]? with
   | some (.mp kk vk g)=>match mvOf kk i,mvOf vk y with
    | some key,some val=>if mkOf T k = some kk ∧ kk ≠ .bool then .ok .any { σ with own:=σ.own.set j (.mp kk vk (A.mset g key val)) } else .no
    | _,_=>.no
   | _=>.no
  | _=>.no
 | _=>.no
noncomputable def opE (A:Ari) (T:Tab) (σ : St) (o:Op):ER :=
 match o with
 | .box ty x=>if (σ.get x).cells.all AV.cell = true then .ok (.p σ.own.length 0) { σ with own:=σ.own ++ [.box (σ.get x).cells ty] } else .no
 | .alloc ty=>match look T ty with
  | some i=>.ok (.p σ.own.length 0) { σ with own:=σ.own ++ [.box (i.zero.map zeroA) ty] }
  | none=>.no
 | .store ty x y=>storeA A T σ ty (σ.get x) (σ.get y)
 | .buildSlice ty len ps=>litA T σ ty len (ps.toList.map fun y=>(y.1,σ.get y.2))
 | .makeSlice ty l c=>makeA A T σ ty (σ.get l) (σ.get c)
 | .call ⟨.builtin .append,args,tys⟩=>match args.toList,tys.toList with
  | [x,y],[t,t']=>if t = t' then appendA A T σ t (σ.get x) (σ.get y) else match look T t' with
   | some ⟨.str,_,_,_⟩=>appendS A T σ t (σ.get x) (σ.get y)
   | _=>.no
  | _,_=>.no
 | .makeMap ty none=>makeMapA A T σ ty
 | .mapUpdate ty m k x=>updateA A T σ ty (σ.get m) (σ.get k) (σ.get x)
 | _=>.no
section
variable {P:Program} {A:Ari} {T:Tab} {E:Env} {σ : St} {W W0:World} {mine:Nat → Prop} {kn:Kn} {a:Act} {o:Oper}
def Does (P:Program) (W0:World) (mine:Nat → Prop) (kn:Kn) (E:Env) (a:Act) (W:World) (o:Oper) (x:AV) (σ' : St):Prop :=
 ∃ u W' E', ((execOp a.eval o).run P W = .ok (.value u) W' ∨ ((execOp a.eval o).run P W = .ok .skip W' ∧ u = undef)) ∧ E'.h = E.h ∧ Rel W0 mine kn E' σ' a W' ∧ RAV E' true x u ∧ Bl σ'.own.length x
def EROK (P:Program) (W0:World) (mine:Nat → Prop) (kn:Kn) (E:Env) (a:Act) (W:World) (o:Oper):ER → Prop
 | .ok x σ' => Does P W0 mine kn E a W o x σ'
 | .need p x σ' => p → Does P W0 mine kn E a W o x σ'
 | .stq k ety sz i off es ds σ => ∀ cells,es[i]? = some cells → Does P W0 mine kn E a W o .any { σ with own:=σ.own.set k (.row ety sz (es.set i (cells.take off ++ ds ++ cells.drop (off + ds.length)))) }
 | .no=>True
theorem immC_rav {x:AV} {u:Value} {m:Bool} (h:RAV E m x u) (hx:immC x = true):RAV E false x u:=by
 cases h with
 | v _ x h1=>exact .v _ _ h1
 | b _ x=>exact .b _ _
 | ip _ cs b off vals ty fr hb hl h1 hc=>exact .ip _ cs b off vals ty fr hb hl h1 hc
 | ni _ t x=>exact .ni _ t x
 | lnil=>exact .lnil _ _
 | lzero _ _ _ _ hm=>exact .lzero _ _ _ _ hm
 | l _ sz es b off c vals ty fr hb hs hl hc hm h1 he=>exact .l _ sz es b off c vals ty fr hb hs hl hc hm h1 he
 | _=>simp [immC] at hx
theorem immB_rav {x:AV} {u:Value} {m:Bool} (h:RAV E m x u) (hx:immB x = true):RAV E false x u:=by
 by_cases hf:∃ fn cs,x = .f fn cs
 ·obtain ⟨fn,cs,rfl⟩:=hf
  cases h with
  | f _ _ _ vs hl hc =>
   exact .f _ fn cs vs hl fun i c u hci hu=>immC_rav (hc i c u hci hu) (List.all_eq_true.1 hx c (List.mem_of_getElem? hci))
 ·have:immB x = immC x:=by cases x <;> first|rfl|exact absurd ⟨_,_,rfl⟩ hf
  rw [this] at hx
  exact immC_rav h hx
theorem cells_bl {n:Nat} {x:AV} (h:Bl n x):∀ c ∈ x.cells,Bl n c:=by
 by_cases ha:∃ cs,x = .a cs
 ·obtain ⟨cs,rfl⟩:=ha
  cases h with
  | a _ h=>exact h
 ·have hx:x.cells = [x]:=by cases x <;> first|rfl|(exact absurd ⟨_,rfl⟩ ha)
  rw [hx]
  intro c hc
  simp at hc; subst hc; exact h
theorem boxE_ok (hR:Rel W0 mine kn E σ a W) {ty:Nat} {x:Operand} (ho:o.op = .box ty x) (hc:(σ.get x).cells.all AV.cell = true) :
  Does P W0 mine kn E a W o (.p σ.own.length 0) { σ with own:=σ.own ++ [.box (σ.get x).cells ty] }:=by
 obtain ⟨hx,hb⟩:=hR.get x
 obtain ⟨vs,hv,hl,h1,hr⟩:=cells_rav hx hc
 obtain ⟨E', hh,hE', hp⟩:=hR.box (ty:=ty) hl h1 hr (cells_bl hb)
 refine ⟨_,_,E', .inl ?_,hh,hE', hp,.p _ _ (by simp)⟩
 simp [execOp,ho,Instr.box,newVar,newRow,hv,Result.andThen]
theorem allocE_ok (hT:TabOK P T) (hR:Rel W0 mine kn E σ a W) {ty:Nat} {i:TI} (ho:o.op = .alloc ty) (hi:look T ty = some i) :
  Does P W0 mine kn E a W o (.p σ.own.length 0) { σ with own:=σ.own ++ [.box (i.zero.map zeroA) ty] }:=by
 have hty:=hT _ _ hi
 obtain ⟨f,hf,hs,_,z,hz,hzc⟩:=hty.info
 obtain ⟨E', hh,hE', hp⟩:=hR.box (ty:=ty) (cs:=i.zero.map zeroA) (vs:=i.zero) (by simp) hty.one (fun j c u hc hu=>by
  simp only [List.getElem?_map,hu] at hc
  simp at hc; subst hc
  exact zeroA_rav (hty.one u (List.mem_of_getElem? hu))) (fun x hx=>by obtain ⟨v,_,rfl⟩:=List.mem_map.1 hx; exact zeroA_ment)
 refine ⟨_,_,E', .inl ?_,hh,hE', hp,.p _ _ (by simp)⟩
 simp [execOp,ho,Instr.alloc,zeroValue,typeInfo,hf,hz,newVar,newRow,hzc,Result.andThen]
theorem exec_store {ty:Nat} {x y:Operand} {ad:Addr} (ho:o.op = .store ty x y) (hx:a.eval x = .pointer (some ad)) {i:TI} (hty:TypeOK P ty i) {vs:List Value} (hc:(a.eval y).cells = vs.toArray) (hl:vs.length = i.size) {W' : World}
  (h:(storeCells ad vs).run P W = .ok () W'):(execOp a.eval o).run P W = .ok .skip W' := by
 simp [execOp,ho,hx,Instr.storeAt,Instr.sureAddr,storeVar,sizeOf_ok hty,hc,hl,h,Result.andThen]
theorem lone_row (hR:Rel W0 mine kn E σ a W) {k ety sz:Nat} {es es' : List (List AV)} (hk:σ.own[k]? = some (.row ety sz es)) {xs xs' : List Value} (hrow:RowOK E k W (ety % 1000000) sz es xs)
  (hlen:∀ e ∈ es', e.length = sz) (hone:∀ x ∈ xs', x.oneCell' = true)
  (hrav:∀ (i j:Nat) (e:List AV) (x:AV) (u:Value),es'[i]? = some e → e[j]? = some x → xs'[i * sz + j]? = some u → RAV E false x u) {W' : World} (hown:W'.ownsRow 0 (ety % 1000000) sz (E.row k) es'.length xs')
  (hocc:(E.row k).ownBlock = some (E.blk k)) (hW:∀ b,b ≠ E.blk k → W'.heap[b]? = W.heap[b]?) (hos:W'.os = W.os) (ht:W'.tape = W.tape) (hout:W'.output = W.output) (hsz:W.heap.size ≤ W'.heap.size) :
  Rel W0 mine kn E { σ with own:=σ.own.set k (.row ety sz es') } a W' := by
 refine ⟨hR.mem.set hk rfl (fun j _=>⟨rfl,rfl⟩) (fun _ _ _ _ _ _ _ _ h=>h) hos ht hout hsz (fun b _ hne=>hW b (hne hocc)) ⟨xs', hown,hlen,hone,hrav,hrow.blk⟩ (fun ho=>.inl ⟨ho,rfl⟩) (fun e=>⟨⟨rfl,rfl⟩,e⟩),hR.defs,hR.len,hR.tm,fun x hx=>by simpa using hR.wf x hx,?_⟩
 intro j cs ty hj x hx
 rw [List.length_set]
 rw [List.getElem?_set] at hj
 split at hj
 ·first|(simp at hj; done)|(split at hj <;> simp at hj)
 ·exact hR.wfo j cs ty hj x hx
theorem seg_get {α : Type} (l mid:List α) (off:Nat) (h:off + mid.length ≤ l.length) (q:Nat) :
  (l.take off ++ mid ++ l.drop (off + mid.length))[q]? = if q < off then l[q]? else if q < off + mid.length then mid[q - off]? else l[q]?:=by
 have e1:(l.take off).length = off:=by simp; omega
 split
 ·rename_i h1
  rw [List.append_assoc,List.getElem?_append_left (by omega),List.getElem?_take_of_lt h1]
 ·rename_i h1
  split
  ·rename_i h2
   rw [List.append_assoc,List.getElem?_append_right (by omega),List.getElem?_append_left (by omega),e1]
  ·rename_i h2
   rw [List.getElem?_append_right (by simp; omega),List.getElem?_drop]
   congr 1; simp only [List.length_append,e1]; omega
theorem storeRow_ok (hR:Rel W0 mine kn E σ a W) {k ety sz n off:Nat} {es:List (List AV)} {cells ds:List AV} {ws:List Value} (hk:σ.own[k]? = some (.row ety sz es)) (hn:es[n]? = some cells) (hl:ds.length = ws.length) (hle:off + ds.length ≤ sz)
  (h1:∀ x ∈ ws,x.oneCell' = true) (hr:∀ (i:Nat) (c:AV) (u:Value),ds[i]? = some c → ws[i]? = some u → RAV E false c u) :
  ∃ W', (storeCells ⟨E.blk k,n * sz + off,none⟩ ws).run P W = .ok () W' ∧ Rel W0 mine kn E { σ with own:=σ.own.set k (.row ety sz (es.set n (cells.take off ++ ds ++ cells.drop (off + ds.length)))) } a W' := by
 obtain ⟨xs,hrow⟩:=hR.mem.owns k _ hk
 have hnl:n < es.length:=(List.getElem?_eq_some_iff.1 hn).1
 have hcl:cells.length = sz:=list_flat_get hrow.len hn
 have hmul:n * sz + sz ≤ es.length * sz:=by
  have:(n + 1) * sz ≤ es.length * sz:=Nat.mul_le_mul_right _ (by omega)
  rw [Nat.add_mul] at this; omega
 rcases hrow.shape with ⟨_,hnil⟩|⟨cap,cur,hrv,hv,hnc,hcm,hcs,hxl,hx⟩
 ·subst hnil; simp at hn
 ·have hcap:es.length * sz ≤ cap * sz:=Nat.mul_le_mul_right _ hnc
  have hrun:=run_storeCells_at (P:=P) (E.blk k) (n * sz + off) (ety % 1000000) ws 0 cur W hv (by omega) h1
  simp only [Nat.add_zero] at hrun
  have hv' := setRow_heap W (E.blk k) cur (cur.toList.take (n * sz + off) ++ ws ++ cur.toList.drop (n * sz + off + ws.length)).toArray (ety % 1000000) (0,0) hv
  refine ⟨_,hrun,lone_row (xs' := xs.take (n * sz + off) ++ ws ++ xs.drop (n * sz + off + ws.length)) hR hk hrow ?_ ?_ ?_ ?_ (by rw [hrv]; rfl) (fun b hb=>setRow_other W _ b _ hb) rfl rfl rfl (by simp)⟩
  ·intro e he
   rcases List.mem_or_eq_of_mem_set he with he|rfl
   ·exact hrow.len e he
   ·simp; omega
  ·intro x hx'
   simp only [List.append_assoc,List.mem_append] at hx'
   rcases hx' with hx' | hx' | hx'
   ·exact hrow.one x (List.mem_of_mem_take hx')
   ·exact h1 x hx'
   ·exact hrow.one x (List.mem_of_mem_drop hx')
  ·intro i j e x u he hj hu
   have hsp:∀ q,q < n * sz + off → (xs.take (n * sz + off) ++ ws ++ xs.drop (n * sz + off + ws.length))[q]? = xs[q]?:=fun q hq=>by
    rw [List.append_assoc,List.getElem?_append_left (by simp; omega),List.getElem?_take_of_lt hq]
   have hsm:∀ q,q < ws.length → (xs.take (n * sz + off) ++ ws ++ xs.drop (n * sz + off + ws.length))[n * sz + off + q]? = ws[q]?:=fun q hq=>by
    rw [List.append_assoc,List.getElem?_append_right (by simp; omega),List.getElem?_append_left (by simp; omega)]
    congr 1; simp; omega
   have hss:∀ q,n * sz + off + ws.length ≤ q → (xs.take (n * sz + off) ++ ws ++ xs.drop (n * sz + off + ws.length))[q]? = xs[q]?:=fun q hq=>by
    rw [List.getElem?_append_right (by simp; omega),List.getElem?_drop]
    congr 1; simp; omega
   by_cases hin:i = n
   ·subst hin
    rw [List.getElem?_set_self hnl] at he
    cases he
    have hjl:j < sz:=by have:=(List.getElem?_eq_some_iff.1 hj).1; simp at this; omega
    by_cases hj1:j < off
    ·rw [List.append_assoc,List.getElem?_append_left (by simp; omega),List.getElem?_take_of_lt hj1] at hj
     rw [hsp _ (by omega)] at hu
     exact hrow.rav i j cells x u hn hj hu
    ·by_cases hj2:j < off + ds.length
     ·rw [List.append_assoc,List.getElem?_append_right (by simp; omega),List.getElem?_append_left (by simp; omega)] at hj
      have e1:(cells.take off).length = off:=by simp; omega
      rw [e1] at hj
      have:=hsm (j - off) (by omega)
      rw [show i * sz + off + (j - off) = i * sz + j by omega] at this
      rw [this] at hu
      exact hr _ x u hj hu
     ·rw [List.getElem?_append_right (by simp; omega),List.getElem?_drop] at hj
      rw [hss _ (by omega)] at hu
      refine hrow.rav i j cells x u hn ?_ hu
      rw [← hj]; congr 1; simp; omega
   ·rw [List.getElem?_set_ne (fun e=>hin e.symm)] at he
    have hel:e.length = sz:=list_flat_get hrow.len he
    have hjl:j < sz:=by have:=(List.getElem?_eq_some_iff.1 hj).1; omega
    refine hrow.rav i j e x u he hj ?_
    by_cases hlt:i < n
    ·have:(i + 1) * sz ≤ n * sz:=Nat.mul_le_mul_right _ (by omega)
     rw [Nat.add_mul] at this
     rw [hsp _ (by omega)] at hu
     exact hu
    ·have:(n + 1) * sz ≤ i * sz:=Nat.mul_le_mul_right _ (by omega)
     rw [Nat.add_mul] at this
     rw [hss _ (by omega)] at hu
     exact hu
  ·rw [List.length_set]
   refine ⟨by simp [hxl]; omega,.inr ⟨E.blk k,cap,_,hrv,Nat.zero_le _,hv', hnc,hcm,by simp; omega,?_⟩⟩
   apply List.ext_getElem?
   intro q
   by_cases hq:q < es.length * sz
   ·rw [List.getElem?_take_of_lt hq]
    simp only [List.toList_toArray]
    rw [seg_get _ _ _ (by simp; omega),seg_get _ _ _ (by omega)]
    have:=hx q hq
    simp only [Array.getElem?_toList]
    rw [this]
   ·rw [List.getElem?_eq_none (by simp; omega),List.getElem?_eq_none (by simp; omega)]
theorem storeE_ok (hA:A = std) (hT:TabOK P T) (hR:Rel W0 mine kn E σ a W) {ty:Nat} {x y:Operand} (ho:o.op = .store ty x y):EROK P W0 mine kn E a W o (storeA A T σ ty (σ.get x) (σ.get y)):=by
 subst hA
 obtain ⟨hx,_⟩:=hR.get x
 obtain ⟨hy,hyb⟩:=hR.get y
 generalize σ.get x = vx at hx
 generalize hvy:σ.get y = vy at hy hyb
 unfold storeA
 split
 ·trivial
 ·rename_i i hi
  have hty:=hT _ _ hi
  split
  ·rename_i hc
   obtain ⟨hc1,hc2⟩:=hc
   obtain ⟨ws,hw,hwl,hw1,hwr⟩:=cells_rav hy hc2
   split
   ·rename_i k off
    generalize hex:a.eval x = ux at hx
    have:=hx.pInv; subst this
    split
    ·rename_i cs tb hk
     split
     ·rename_i hle
      obtain ⟨W', hrun,hR'⟩:=hR.storeBox (P:=P) hk hwl hle hw1 hwr (cells_bl hyb)
      exact ⟨undef,W', E,.inr ⟨exec_store ho hex hty hw (by omega) hrun,rfl⟩,rfl,hR', .any _ _,.any⟩
     ·trivial
    ·trivial
   ·rename_i k sz n off
    generalize hex:a.eval x = ux at hx
    have:=hx.qInv; subst this
    split
    ·rename_i ety sz' es hk
     split
     ·rename_i hsz
      obtain ⟨hsz,himm⟩:=hsz
      subst hsz
      have hwi:∀ (i:Nat) (c:AV) (u:Value),vy.cells[i]? = some c → ws[i]? = some u → RAV E false c u:=fun i c u h1 h2=>immB_rav (hwr i c u h1 h2) (List.all_eq_true.1 himm c (List.mem_of_getElem? h1))
      split
      ·rename_i h0
       obtain ⟨h0,h0'⟩:=h0
       subst h0
       rintro ⟨hn⟩
       obtain ⟨xs,hrow⟩:=hR.mem.owns k _ hk
       have hcl:=hrow.len es[n] (List.getElem_mem hn)
       obtain ⟨W', hrun,hR'⟩:=storeRow_ok (P:=P) (off:=0) hR hk (List.getElem?_eq_getElem hn) hwl (by omega) hw1 hwi
       have e:es[n].take 0 ++ vy.cells ++ es[n].drop (0 + vy.cells.length) = vy.cells:=by
        rw [List.drop_eq_nil_of_le (by omega)]; simp
       rw [e] at hR'
       exact ⟨undef,W', E,.inr ⟨exec_store ho hex hty hw (by omega) hrun,rfl⟩,rfl,hR', .any _ _,.any⟩
      ·split
       ·rename_i hle
        intro cells hcells
        obtain ⟨W', hrun,hR'⟩:=storeRow_ok (P:=P) (off:=off) hR hk hcells hwl (by omega) hw1 hwi
        exact ⟨undef,W', E,.inr ⟨exec_store ho hex hty hw (by omega) hrun,rfl⟩,rfl,hR', .any _ _,.any⟩
       ·trivial
     ·trivial
    ·trivial
   ·trivial
  ·trivial
theorem Rel.newRow' (h:Rel W0 mine kn E σ a W) {ety sz:Nat} {es:List (List AV)} {xs:List Value} {v:Value} {W' : World} (hown:W'.ownsRow 0 (ety % 1000000) sz v es.length xs) (hg:W.grownBy W' none)
  (hloc:∀ g,v.ownBlock = some g → g = W.heap.size) (hlen:∀ e ∈ es,e.length = sz) (hone:∀ x ∈ xs,x.oneCell' = true)
  (hrav:∀ (i j:Nat) (e:List AV) (x:AV) (u:Value),es[i]? = some e → e[j]? = some x → xs[i * sz + j]? = some u → RAV E false x u) :
  Rel W0 mine kn (E.bind σ.own.length W.heap.size v) { σ with own:=σ.own ++ [.row ety sz es] } a W' ∧ RAV (E.bind σ.own.length W.heap.size v) true (.r σ.own.length) v:=by
 have hv1:v.oneCell' = true:=by rcases hown.2 with ⟨rfl,_⟩|⟨_,_,_,rfl,_⟩ <;> rfl
 refine ⟨h.push hg.os hg.tape hg.output hg.size (fun b hb=>hg.block b hb (by simp)) ⟨xs,by simpa [Env.bind] using hown,hlen,hone,fun i j e x u h1 h2 h3=>(hrav i j e x u h1 h2 h3).imm (fun _ _ h=>h),?_⟩ (fun cs ty e=>by cases e),?_⟩
 ·intro g hg'
  simp only [Env.bind,if_true] at hg' ⊢
  exact hloc g hg'
 ·have:=RAV.r (E:=E.bind σ.own.length W.heap.size v) σ.own.length (by simpa [Env.bind] using hv1)
  simpa [Env.bind] using this
theorem Rel.newRow (h:Rel W0 mine kn E σ a W) {ety sz:Nat} {es:List (List AV)} {xs:List Value} {v:Value} {W' : World} (hown:W'.ownsRow 0 (ety % 1000000) sz v es.length xs) (hg:W.grownBy W' none)
  (hloc:∀ g,v.ownBlock = some g → g = W.heap.size) (hlen:∀ e ∈ es,e.length = sz) (hone:∀ x ∈ xs,x.oneCell' = true)
  (hrav:∀ (i j:Nat) (e:List AV) (x:AV) (u:Value),es[i]? = some e → e[j]? = some x → xs[i * sz + j]? = some u → RAV E false x u) :
  ∃ E', E'.h = E.h ∧ Rel W0 mine kn E' { σ with own:=σ.own ++ [.row ety sz es] } a W' ∧ RAV E' true (.r σ.own.length) v :=
 ⟨E.bind σ.own.length W.heap.size v,rfl,h.newRow' hown hg hloc hlen hone hrav⟩
theorem fold_set_flat {sz:Nat}:∀ (es:List (List Value)) (i:Nat) (c:List Value),(∀ e ∈ es,e.length = sz) → i < es.length → c.length = sz →
  es.flatten.take (i * sz) ++ c ++ es.flatten.drop (i * sz + c.length) = (es.set i c).flatten
 | [],i,c,_,h,_=>by simp at h
 | x :: es,i,c,hs,h,hc=>by
  have hx:=hs x (by simp)
  cases i with
  | zero=>simp [hc,← hx,List.drop_append]
  | succ i =>
   have ih:=fold_set_flat es i c (fun e he=>hs e (by simp [he])) (by simpa using h) hc
   have e1:(i + 1) * sz = x.length + i * sz:=by rw [Nat.add_mul]; omega
   rw [e1,List.flatten_cons,List.set_cons_succ,List.flatten_cons,← ih]
   rw [List.take_length_add_append,Nat.add_assoc,List.drop_length_add_append]
   simp
theorem fillEs_ok {sz:Nat}:∀ (ps:List (Nat × AV)) (us:List (Nat × Value)) (es fs:List (List AV)) (vs:List (List Value)),fillEs sz es ps = some fs → ps.length = us.length →
  (∀ (j:Nat) (p:Nat × AV) (q:Nat × Value),ps[j]? = some p → us[j]? = some q → p.1 = q.1 ∧ RAV E true p.2 q.2) → es.length = vs.length → (∀ e ∈ es,e.length = sz) → (∀ e ∈ vs,e.length = sz) →
  (∀ e ∈ vs,∀ x ∈ e,x.oneCell' = true) → (∀ (i j:Nat) (e:List AV) (w:List Value) (x:AV) (u:Value),es[i]? = some e → vs[i]? = some w → e[j]? = some x → w[j]? = some u → RAV E false x u) →
  ∃ ws:List (List Value),Instr.fill (fun i=>some (i * sz,sz)) vs.flatten.toArray us = some ws.flatten.toArray ∧ fs.length = ws.length ∧ fs.length = es.length ∧ (∀ e ∈ fs,e.length = sz) ∧ (∀ e ∈ ws,e.length = sz) ∧
   (∀ e ∈ ws,∀ x ∈ e,x.oneCell' = true) ∧ ∀ (i j:Nat) (e:List AV) (w:List Value) (x:AV) (u:Value),fs[i]? = some e → ws[i]? = some w → e[j]? = some x → w[j]? = some u → RAV E false x u
 | [],us,es,fs,vs,hf,hl,_,h1,h2,h3,h4,h5=>by
  cases us with
  | nil=>simp [fillEs] at hf; subst hf; exact ⟨vs,rfl,h1,rfl,h2,h3,h4,h5⟩
  | cons _ _=>simp at hl
 | (i,x) :: ps,us,es,fs,vs,hf,hl,hpq,h1,h2,h3,h4,h5=>by
  cases us with
  | nil=>simp at hl
  | cons q us =>
   obtain ⟨j,u⟩:=q
   obtain ⟨hij,hxu⟩:=hpq 0 (i,x) (j,u) rfl rfl
   simp only at hij hxu
   subst hij
   simp only [fillEs] at hf
   split at hf
   ·rename_i hc
    obtain ⟨hc1,hc2,hc3,hc4⟩:=hc
    obtain ⟨ws,hw,hwl,hw1,hwr⟩:=cells_rav hxu hc3
    have hflat:vs.flatten.length = vs.length * sz:=by
     clear h1 h4 h5 hf
     induction vs with
     | nil=>simp
     | cons v vs ih=>rw [List.flatten_cons,List.length_append,h3 v (by simp),ih (fun e he=>h3 e (by simp [he])),List.length_cons,Nat.add_mul]; omega
    have hmul:i * sz + sz ≤ vs.length * sz:=by
     have:(i + 1) * sz ≤ vs.length * sz:=Nat.mul_le_mul_right _ (by omega)
     rw [Nat.add_mul] at this; omega
    have hstep:(u.cells.zipIdx.foldl (fun cs (c,j)=>cs.setIfInBounds (i * sz + j) c) vs.flatten.toArray) = (vs.set i ws).flatten.toArray:=by
     have:=fold_set (i * sz) ws 0 vs.flatten (by omega)
     rw [hw]
     simp only [← Array.foldl_toList,Array.toList_zipIdx]
     rw [← fold_set_flat vs i ws h3 (by omega) (by omega)]
     simpa using this
    obtain ⟨zs,hz,hrest⟩:=fillEs_ok ps us (es.set i x.cells) fs (vs.set i ws) hf (by simpa using hl) (fun j p q hp' hq=>hpq (j + 1) p q (by simpa using hp') (by simpa using hq)) (by simpa using h1)
     (fun e he=>by rcases List.mem_or_eq_of_mem_set he with he|rfl; exact h2 e he; exact hc2)
     (fun e he=>by rcases List.mem_or_eq_of_mem_set he with he|rfl; exact h3 e he; omega)
     (fun e he y hy=>by rcases List.mem_or_eq_of_mem_set he with he|rfl; exact h4 e he y hy; exact hw1 y hy)
     (by
      intro i' j' e w y v he hw' hj hv
      by_cases hii:i = i'
      ·subst hii
       rw [List.getElem?_set_self (by omega)] at he hw'
       cases he; cases hw'
       exact immB_rav (hwr j' y v hj hv) (List.all_eq_true.1 hc4 y (List.mem_of_getElem? hj))
      ·rw [List.getElem?_set_ne hii] at he hw'
       exact h5 i' j' e w y v he hw' hj hv)
    refine ⟨zs,?_,hrest.1,by rw [hrest.2.1]; simp,hrest.2.2⟩
    have hsz:u.cells.size = sz:=by rw [hw]; simp; omega
    have hle:¬ (i * sz + u.cells.size > vs.flatten.toArray.size):=by rw [hsz]; simp [hflat]; omega
    simp only [Instr.fill]
    rw [if_neg (by simp only [Bool.or_eq_true,bne_iff_ne,ne_eq,decide_eq_true_eq]; rintro (h|h); exact h hsz; exact hle h),hstep]
    exact hz
   ·cases hf
theorem flat_len {α : Type} {sz:Nat}:∀ (es:List (List α)),(∀ e ∈ es,e.length = sz) → es.flatten.length = es.length * sz
 | [],_=>by simp
 | x :: es,h=>by
  rw [List.flatten_cons,List.length_append,h x (by simp),flat_len es (fun e he=>h e (by simp [he])),List.length_cons,Nat.add_mul]; omega
theorem zeros_flat (z:List Value) (hz:0 < z.length) (n:Nat):((Array.range (n * z.length)).map (z.toArray[· % z.toArray.size]!)).toList = (List.replicate n z).flatten:=by
 apply List.ext_getElem?
 intro q
 have hfl:((List.replicate n z).flatten).length = n * z.length:=by simp
 by_cases hq:q < n * z.length
 ·have hm:q % z.length < z.length:=Nat.mod_lt _ hz
  have hd:q / z.length < n:=Nat.div_lt_of_lt_mul (by rw [Nat.mul_comm]; exact hq)
  have h2:=flat_get (List.replicate n z) z.length (fun e he=>by rw [List.eq_of_mem_replicate he]) (q / z.length) (q % z.length) z (by simp [hd]) hm
  rw [Nat.mul_comm,Nat.div_add_mod] at h2
  rw [h2]
  simp [hq,hm]
 ·rw [List.getElem?_eq_none (by simp; omega),List.getElem?_eq_none (by omega)]
theorem litE_ok (hA:A = std) (hT:TabOK P T) (hR:Rel W0 mine kn E σ a W) {ty len:Nat} {ps:Array (Nat × Operand)} (ho:o.op = .buildSlice ty len ps) :
  EROK P W0 mine kn E a W o (litA T σ ty len (ps.toList.map fun y=>(y.1,σ.get y.2))):=by
 unfold litA
 split
 ·rename_i e _ _ _ hi
  have hu:=(hT _ _ hi).kind
  simp only [KindOK] at hu
  split
  ·rename_i i he
   have hty:=hT _ _ he
   obtain ⟨f,hf,hs,hby,z,hz,hzc⟩:=hty.info
   split
   ·rename_i hcond
    obtain ⟨⟨hlim,hpos⟩,hf'⟩:=hcond
    split
    ·rename_i es hfill
     obtain ⟨ws,hw,hwl,hwl2,hfs,hws,hone,hrav⟩:=fillEs_ok (E:=E) _ (ps.toList.map fun y=>(y.1,a.eval y.2)) (List.replicate len (i.zero.map zeroA)) es (List.replicate len i.zero) hfill (by simp)
      (fun j p q hp hq=>by
       simp only [List.getElem?_map] at hp hq
       cases h:ps.toList[j]? with
       | none=>rw [h] at hp; cases hp
       | some y=>rw [h] at hp hq; simp at hp hq; subst hp; subst hq; exact ⟨rfl,(hR.get _).1⟩)
      (by simp) (fun e he=>by rw [List.eq_of_mem_replicate he]; simp [hty.len]) (fun e he=>by rw [List.eq_of_mem_replicate he]; exact hty.len)
      (fun e he x hx=>by rw [List.eq_of_mem_replicate he] at hx; exact hty.one x hx)
      (fun i' j e w x u he hw' hj hu' => by
       rw [List.eq_of_mem_replicate (List.mem_of_getElem? he)] at hj
       rw [List.eq_of_mem_replicate (List.mem_of_getElem? hw')] at hu'
       simp only [List.getElem?_map,hu'] at hj
       simp at hj; subst hj
       exact zeroA_rav (hty.one u (List.mem_of_getElem? hu')))
     have hlen:es.length = len:=by rw [hwl2]; simp
     have hfl:ws.flatten.length = len * i.size:=by rw [flat_len ws hws]; congr 1; omega
     have hrun:(Instr.buildSlice ty len (ps.map fun y=>(y.1,a.eval y.2))).run P W = .ok (.slice (some ⟨W.heap.size,0,none⟩) len len) (W.alloc (.cells ws.flatten.toArray e)):=by
      have h24:¬ (len * i.size > 2 ^ 24):=by omega
      have hzf:=zeros_flat i.zero (by rw [hty.len]; exact hpos) len
      rw [hty.len] at hzf
      have hza:(Array.range (len * i.size)).map (i.zero.toArray[· % i.zero.toArray.size]!) = ((List.replicate len i.zero).flatten).toArray:=by
       apply Array.ext'; rw [hzf]
      have e1:(underlying ty).run P W = .ok (.slice e) W:=by simp [underlying,hu]
      have e2:(zeroValue e).run P W = .ok z W:=by simp [zeroValue,typeInfo,hf,hz,Result.andThen]
      have e3:(newRow e ws.flatten.toArray).run P W = .ok ⟨W.heap.size,0,none⟩ (W.alloc (.cells ws.flatten.toArray e)):=by simp [newRow,Result.andThen]
      have hps:(Array.map (fun y=>(y.1,a.eval y.2)) ps).toList = ps.toList.map fun y=>(y.1,a.eval y.2):=by simp
      by_cases h0:len = 0
      ·subst h0
       have hz0:(List.replicate 0 i.zero).flatten.toArray = (#[]:Array Value):=rfl
       rw [hz0] at hw
       have ha0:(Array.range 0).map (fun x=>(#[]:Array Value)[x % (#[]:Array Value).size]!) = #[]:=by rw [Array.range_zero', Array.map_empty]
       simp only [Instr.buildSlice,Sem.run_bind,e1,Result.andThen_ok,sizeOf_ok hty,Nat.zero_mul,show ¬ (0 > 2 ^ 24) by omega,if_false,if_true,Sem.run_pure,ha0,hps,hw,e3]
      ·have hne:¬ (len * i.size = 0):=by
        intro h
        rcases Nat.mul_eq_zero.1 h with h|h <;> omega
       simp only [Instr.buildSlice,Sem.run_bind,e1,Result.andThen_ok,sizeOf_ok hty,h24,if_false,hne,Sem.run_pure,e2,hzc,hza,hps,hw,e3]
     obtain ⟨E', hh,hE', hr⟩:=hR.newRow (ety:=e) (sz:=i.size) (es:=es) (xs:=ws.flatten) (v:=.slice (some ⟨W.heap.size,0,none⟩) len len) (W' := W.alloc (.cells ws.flatten.toArray e))
      (by rw [hlen,Nat.mod_eq_of_lt hf']; exact World.ownsRow_lit W ws.flatten.toArray len (Nat.zero_le _) (by have:=Nat.le_mul_of_pos_right len hpos; simp only [maxLen]; omega) (by simpa using hfl)) (World.grownBy_alloc W _ none) (fun g hg=>by simp [Value.ownBlock] at hg; exact hg.symm) hfs
      (fun x hx=>by obtain ⟨w,hw', hx'⟩:=List.mem_flatten.1 hx; exact hone w hw' x hx')
      (fun i' j e' x u he' hj hu' => by
       have hil:i' < ws.length:=by rw [← hwl]; exact (List.getElem?_eq_some_iff.1 he').1
       have hjl:j < i.size:=by rw [← hfs e' (List.mem_of_getElem? he')]; exact (List.getElem?_eq_some_iff.1 hj).1
       rw [flat_get ws i.size hws i' j ws[i'] (List.getElem?_eq_getElem hil) hjl] at hu'
       exact hrav i' j e' ws[i'] x u he' (List.getElem?_eq_getElem hil) hj hu')
     exact ⟨_,_,E', .inl (by simp [execOp,ho,hrun,Result.andThen]),hh,hE', hr,.r _ (by simp)⟩
    ·trivial
   ·trivial
  ·trivial
 ·trivial
theorem makeE_ok (hA:A = std) (hT:TabOK P T) (hR:Rel W0 mine kn E σ a W) {ty:Nat} {x y:Operand} (ho:o.op = .makeSlice ty x y):EROK P W0 mine kn E a W o (makeA A T σ ty (σ.get x) (σ.get y)):=by
 obtain ⟨hx,_⟩:=hR.get x
 obtain ⟨hy,_⟩:=hR.get y
 subst hA
 generalize σ.get x = vx at hx
 generalize σ.get y = vy at hy
 unfold makeA
 split
 ·rename_i e _ _ _ k n k' m hi
  have hu:=(hT _ _ hi).kind
  simp only [KindOK] at hu
  have e1:=hx.vInv
  have e2:=hy.vInv
  split
  ·rename_i i he
   have hty:=hT _ _ he
   obtain ⟨f,hf,hs,hby,z,hz,hzc⟩:=hty.info
   split
   ·rename_i hcnd
    obtain ⟨hpos,hf'⟩:=hcnd
    rintro ⟨h0,hnm,hb,h63⟩
    subst hnm
    obtain ⟨N,rfl⟩:=Int.eq_ofNat_of_zero_le h0
    have hml:N ≤ maxLen:=by simp only [maxLen]; omega
    obtain ⟨W', hrun,hown,hg⟩:=run_make_full (P:=P) W 0 ty e f z i.size hu hf hz hs k k' N (by
     have:((f.bytes * N:Nat):Int) ≤ 281474976710656:=by rw [hby,Int.natCast_mul]; exact hb
     omega) hml (Nat.zero_le _)
    have hcells:(madeCells z.cells (N * i.size)).toList = (List.replicate N i.zero).flatten:=by
     have:=zeros_flat i.zero (by rw [hty.len]; exact hpos) N
     rw [hty.len] at this
     rw [hzc,madeCells]; exact this
    rw [hcells] at hown
    obtain ⟨E', hh,hE', hr⟩:=hR.newRow (ety:=e) (sz:=i.size) (es:=std.lrep N (i.zero.map zeroA)) (W' := W') (by rw [Nat.mod_eq_of_lt hf']; simpa [std] using hown) hg (fun g hg=>by simp [Value.ownBlock] at hg; exact hg.symm)
     (fun c hc=>by rw [List.eq_of_mem_replicate hc]; simp [hty.len])
     (fun u hu' => by
      obtain ⟨w,hw,huw⟩:=List.mem_flatten.1 hu'
      rw [List.eq_of_mem_replicate hw] at huw
      exact hty.one u huw)
     (fun i' j c v u hc hj hu' => by
      have hil:i' < N:=by have:=(List.getElem?_eq_some_iff.1 hc).1; simpa [std] using this
      rw [List.eq_of_mem_replicate (List.mem_of_getElem? hc)] at hj
      have hjl:j < i.size:=by have:=(List.getElem?_eq_some_iff.1 hj).1; simpa [hty.len] using this
      rw [flat_get (List.replicate N i.zero) i.size (fun e he=>by rw [List.eq_of_mem_replicate he]; exact hty.len) i' j i.zero (by simp [hil]) hjl] at hu'
      simp only [List.getElem?_map,hu'] at hj
      simp at hj; subst hj
      exact zeroA_rav (hty.one u (List.mem_of_getElem? hu')))
    refine ⟨_,W', E', .inl ?_,hh,hE', hr,.r _ (by simp)⟩
    simp [execOp,ho,e1,e2,hrun,Result.andThen]
   ·trivial
  ·trivial
 ·trivial
theorem src_ok (hR:Rel W0 mine kn E σ a W) {x:AV} {u:Value} (hx:RAV E true x u) {sz:Nat} {ds:List (List AV)} (hs:srcOf σ x = some (sz,ds)):SrcAt E W u sz ds :=
 src_at hR.mem.facts (fun k sz es h=>by obtain ⟨ety,_,xs,h⟩:=hR.mem.row h; exact ⟨_,xs,h⟩) hx hs
theorem exec_append {x y:Operand} {t:Nat} {args:Array Operand} {tys:Array TypeId} (ho:o.op = .call ⟨.builtin .append,args,tys⟩) (ha:args.toList = [x,y]) (ht:tys.toList = [t,t]) {W' : World} {u:Value}
  (h:(Builtin.append_ #[t,t] o.type #[a.eval x,a.eval y]).run P W = .ok u W'):(execOp a.eval o).run P W = .ok (.value u) W' := by
 have ha' : args = #[x,y]:=by rw [← Array.toArray_toList (xs:=args),ha]
 have ht' : tys = #[t,t]:=by rw [← Array.toArray_toList (xs:=tys),ht]
 subst ha'; subst ht'
 simp [execOp,ho,resolve,invoke,builtin,h,Result.andThen]
theorem St.set_set (σ : St) (k:Nat) (ob ob' : OB):({ σ with own:=σ.own.set k ob }:St).own.set k ob' = σ.own.set k ob' := by simp
theorem append_row (hT:TabOK P T) (hR:Rel W0 mine kn E σ a W) {t e k:Nat} {i:TI} (hu:P.underlying t = some (.slice e)) (hi:look T e = some i) (hpos:0 < i.size) {es ds:List (List AV)} (hk:σ.own[k]? = some (.row e i.size es)) (hf' : e < 1000000) (hlone:Lone σ k)
  {u:Value} (hds:∀ e ∈ ds,e.length = i.size) (hsrc:(u = .slice none 0 0 ∧ ds = []) ∨ ∃ (ad:Addr) (c:Nat) (news:List Value),u = .slice (some ad) ds.length c ∧ news.length = ds.length * i.size ∧ (∀ (j:Nat) (v:Value),news[j]? = some v → W.cell? (ad.add j) = some v) ∧ (∀ v ∈ news,v.oneCell' = true) ∧
   ∀ (i' j:Nat) (e:List AV) (x:AV) (v:Value),ds[i']? = some e → e[j]? = some x → news[i' * i.size + j]? = some v → RAV E false x v)
  (h63:es.length + ds.length ≤ maxLen) (hb:(es.length + ds.length) * i.bytes ≤ 140737488355328) (ty:Nat) :
  ∃ v' W' E', (Builtin.append_ #[t,t] ty #[E.row k,u]).run P W = .ok v' W' ∧ E'.h = E.h ∧ Rel W0 mine kn E' { σ with own:=σ.own.set k (.row e i.size (es ++ ds)) } a W' ∧ RAV E' true (.r k) v' := by
 have hty:=hT _ _ hi
 obtain ⟨f,hf,hs,hby,z,hz,hzc⟩:=hty.info
 obtain ⟨xs,hrow⟩:=hR.mem.owns k _ hk
 rw [Nat.mod_eq_of_lt hf'] at hrow
 rcases hsrc with ⟨rfl,rfl⟩|⟨ad,c,news,rfl,hnl,hnc,hn1,hnr⟩
 ·have hrun:=run_append_owned_none (P:=P) W 0 t ty e f i.size hu hf (E.row k) es.length xs hrow.owns
  refine ⟨E.row k,W,E,hrun,rfl,?_,?_⟩
  ·have:σ.own.set k (.row e i.size (es ++ [])) = σ.own:=by
    rw [List.append_nil]
    apply List.ext_getElem?
    intro j
    rw [List.getElem?_set]
    split
    ·rename_i h; subst h
     have hkl:k < σ.own.length:=(List.getElem?_eq_some_iff.1 hk).1
     rw [if_pos hkl,hk]
    ·rfl
   rw [this]; exact hR
  ·refine .r k ?_
   rcases hrow.shape with ⟨h,_⟩|⟨_,_,h,_⟩ <;> rw [h] <;> rfl
 ·have hl:=hty.len
  obtain ⟨v', W', hrun,hown,hg,hloc⟩:=append_loc (P:=P) t ty e f z hu hf hz (by rw [hzc]; simp; omega) (E.row k) es.length xs (by rw [hs]; exact hrow.owns) ad ds.length c news (by rw [hs]; exact hnl) hnc hn1 h63 (by rw [hby]; exact hb)
  rw [hs] at hown
  obtain ⟨E', hh,hE', hr⟩:=hR.setRow (es' := es ++ ds) (xs' := xs ++ news) hk hf' hlone (by simpa using hown) hg hloc (fun e he=>by rcases List.mem_append.1 he with h|h; exact hrow.len e h; exact hds e h)
   (fun x hx=>by rcases List.mem_append.1 hx with h|h; exact hrow.one x h; exact hn1 x h) (app_rav hrow.len hds hrow.owns.1 hrow.rav hnr)
  exact ⟨v', W', E', hrun,hh,hE', hr⟩
theorem appendE_ok (hA:A = std) (hT:TabOK P T) (hR:Rel W0 mine kn E σ a W) {t:Nat} {x y:Operand} {args:Array Operand} {tys:Array TypeId} (ho:o.op = .call ⟨.builtin .append,args,tys⟩) (ha:args.toList = [x,y]) (ht:tys.toList = [t,t]) :
  EROK P W0 mine kn E a W o (appendA A T σ t (σ.get x) (σ.get y)):=by
 subst hA
 unfold appendA
 split
 ·rename_i e _ _ _ hi
  have hu:=(hT _ _ hi).kind
  simp only [KindOK] at hu
  split
  ·rename_i i sz ds he hsrc
   split
   ·rename_i hc
    obtain ⟨⟨hsz,hpos⟩,hf'⟩:=hc
    subst hsz
    obtain ⟨hy,_⟩:=hR.get y
    obtain ⟨hx,_⟩:=hR.get x
    split
    ·rename_i k hxk
     split
     ·rename_i ety sz' es hk
      split
      ·rename_i hc2
       obtain ⟨rfl,hc2⟩:=hc2
       subst hc2
       rintro ⟨h1,h2⟩
       simp only [std] at h1 h2
       have hb:(es.length + ds.length) * i.bytes ≤ 140737488355328:=by
        have:(((es.length + ds.length) * i.bytes:Nat):Int) ≤ 140737488355328:=by rw [Int.natCast_mul]; simpa using h2
        omega
       have hR' := hR.kill k
       obtain ⟨hds,hsrc'⟩:=src_ok hR hy hsrc
       obtain ⟨v', W', E', hrun,hh,hE', hr⟩:=append_row (P:=P) hT hR' hu he hpos (St.kill_own hk) hf' (St.kill_lone hR k) hds hsrc' (by simp only [maxLen]; omega) hb o.type
       rw [hxk] at hx
       refine ⟨v', W', E', .inl (exec_append ho ha ht (by rw [hx.rInv]; exact hrun)),hh,by simpa [std] using hE', hr,.r _ ?_⟩
       have:k < σ.own.length:=(List.getElem?_eq_some_iff.1 hk).1
       simpa [St.kill] using this
      ·trivial
     ·trivial
    ·rename_i hxk
     rintro ⟨h1,h2⟩
     simp only [std] at h1 h2
     have hb:ds.length * i.bytes ≤ 140737488355328:=by
      have:((ds.length * i.bytes:Nat):Int) ≤ 140737488355328:=by rw [Int.natCast_mul]; simpa using h2
      omega
     obtain ⟨E1,hh1,hE1,hr1⟩:=hR.newRow (ety:=e) (sz:=i.size) (es:=[]) (xs:=[]) (v:=.slice none 0 0) (W' := W) (World.ownsRow_nil W 0 (e % 1000000) i.size) ⟨rfl,rfl,rfl,Nat.le_refl _,fun _ _ _=>rfl⟩ (fun g hg=>by simp [Value.ownBlock] at hg) (by simp) (by simp) (by simp)
     have hfacts:True:=trivial
     have hlone:Lone ({ σ with own:=σ.own ++ [.row e i.size []] }:St) σ.own.length:=by
      refine ⟨fun x hx=>Ment.mono (hR.wf x hx) fun j hj=>Nat.ne_of_lt hj,fun j cs ty hj x hx=>?_⟩
      by_cases hlt:j < σ.own.length
      ·simp only [List.getElem?_append_left hlt] at hj
       exact Ment.mono (hR.wfo j cs ty hj x hx) fun j hj=>Nat.ne_of_lt hj
      ·simp only [List.getElem?_append_right (Nat.le_of_not_lt hlt)] at hj
       cases hq:j - σ.own.length with
       | zero=>rw [hq] at hj; simp at hj
       | succ j=>rw [hq] at hj; simp at hj
     obtain ⟨hy1,_⟩:=hE1.get y
     have hsrc1:srcOf ({ σ with own:=σ.own ++ [.row e i.size []] }:St) (σ.get y) = some (i.size,ds):=by
      unfold srcOf at hsrc ⊢
      split at hsrc
      ·exact hsrc
      ·unfold rowOf at hsrc ⊢
       split at hsrc
       ·rename_i hk
        simp only [List.getElem?_append_left (List.getElem?_eq_some_iff.1 hk).1,hk]
        exact hsrc
       ·cases hsrc
      ·cases hsrc
     have hgy:({ σ with own:=σ.own ++ [.row e i.size []] }:St).get y = σ.get y:=by cases y <;> rfl
     rw [hgy] at hy1
     obtain ⟨hds,hsrc'⟩:=src_ok hE1 hy1 hsrc1
     obtain ⟨v', W', E', hrun,hh,hE', hr⟩:=append_row (P:=P) hT hE1 hu he hpos (es:=[]) (k:=σ.own.length) (by simp) hf' hlone hds hsrc' (by simp only [maxLen,List.length_nil]; omega) (by simpa using hb) o.type
     rw [hxk] at hx
     have hrow:=hr1.rInv
     refine ⟨v', W', E', .inl (exec_append ho ha ht (by rw [hx.vInv,hrow]; exact hrun)),hh.trans hh1,?_,hr,.r _ (by simp)⟩
     simpa [std] using hE'
    ·trivial
   ·trivial
  ·trivial
 ·trivial
theorem exec_appendS {x y:Operand} {t t' : Nat} {args:Array Operand} {tys:Array TypeId} (ho:o.op = .call ⟨.builtin .append,args,tys⟩) (ha:args.toList = [x,y]) (ht:tys.toList = [t,t']) {W' : World} {u:Value}
  (h:(Builtin.append_ #[t,t'] o.type #[a.eval x,a.eval y]).run P W = .ok u W'):(execOp a.eval o).run P W = .ok (.value u) W' := by
 have ha' : args = #[x,y]:=by rw [← Array.toArray_toList (xs:=args),ha]
 have ht' : tys = #[t,t']:=by rw [← Array.toArray_toList (xs:=tys),ht]
 subst ha'; subst ht'
 simp [execOp,ho,resolve,invoke,builtin,h,Result.andThen]
theorem append_row_str (hT:TabOK P T) (hR:Rel W0 mine kn E σ a W) {t t' e k:Nat} {i:TI} (hu:P.underlying t = some (.slice e)) (hus:P.underlying t' = some .string) (hi:look T e = some i) (his:i.size = 1) {es:List (List AV)} (hk:σ.own[k]? = some (.row e 1 es)) (hf' : e < 1000000) (hlone:Lone σ k)
  (s:ByteArray) (h63:es.length + s.size ≤ maxLen) (hb:(es.length + s.size) * i.bytes ≤ 140737488355328) (ty:Nat) :
  ∃ v' W' E', (Builtin.append_ #[t,t'] ty #[E.row k,.string s]).run P W = .ok v' W' ∧ E'.h = E.h ∧ Rel W0 mine kn E' { σ with own:=σ.own.set k (.row e 1 (es ++ sbytes s)) } a W' ∧ RAV E' true (.r k) v' := by
 have hty:=hT _ _ hi
 obtain ⟨f,hf,hs,hby,z,hz,hzc⟩:=hty.info
 obtain ⟨xs,hrow⟩:=hR.mem.owns k _ hk
 rw [Nat.mod_eq_of_lt hf'] at hrow
 have hl:=hty.len
 have hsl:(sbytes s).length = s.size:=by rw [sbytes_eq,List.length_map,Array.length_toList]; rfl
 have h1:∀ x ∈ svals s,x.oneCell' = true:=by intro x hx; obtain ⟨b,_,rfl⟩:=List.mem_map.1 hx; rfl
 have hds:∀ e ∈ sbytes s,e.length = 1:=by intro e he; rw [sbytes_eq] at he; obtain ⟨b,_,rfl⟩:=List.mem_map.1 he; rfl
 obtain ⟨v', W', hrun,hown,hg,hloc⟩:=append_str_loc (P:=P) t t' ty e f z hu hus hf hz (by rw [hzc]; simp; omega) (by omega) (E.row k) es.length xs (by rw [hs,his]; exact hrow.owns) s h63 (by rw [hby]; exact hb)
 rw [hs,his] at hown
 obtain ⟨E', hh,hE', hr⟩:=hR.setRow (es' := es ++ sbytes s) (xs' := xs ++ svals s) hk hf' hlone (by simpa [hsl] using hown) hg hloc (fun e he=>by rcases List.mem_append.1 he with h|h; exact hrow.len e h; exact hds e h)
  (fun x hx=>by rcases List.mem_append.1 hx with h|h; exact hrow.one x h; exact h1 x h) (app_rav hrow.len hds hrow.owns.1 hrow.rav (fun i j e x v he hj hv=>by
   rw [sbytes_eq] at he
   rw [List.getElem?_map] at he
   cases hq:s.data.toList[i]? with
   | none=>rw [hq] at he; cases he
   | some b =>
    rw [hq] at he; cases he
    cases j with
    | zero =>
     simp at hj; subst hj
     unfold svals at hv
     rw [Nat.mul_one,Nat.add_zero,List.getElem?_map,hq] at hv
     cases hv
     exact .v _ _ rfl
    | succ j=>simp at hj))
 exact ⟨v', W', E', hrun,hh,hE', hr⟩
theorem lone_new (hR:Rel W0 mine kn E σ a W) {e sz:Nat}:Lone ({ σ with own:=σ.own ++ [.row e sz []] }:St) σ.own.length:=by
 refine ⟨fun x hx=>Ment.mono (hR.wf x hx) fun j hj=>Nat.ne_of_lt hj,fun j cs ty hj x hx=>?_⟩
 by_cases hlt:j < σ.own.length
 ·simp only [List.getElem?_append_left hlt] at hj
  exact Ment.mono (hR.wfo j cs ty hj x hx) fun j hj=>Nat.ne_of_lt hj
 ·simp only [List.getElem?_append_right (Nat.le_of_not_lt hlt)] at hj
  cases hq:j - σ.own.length with
  | zero=>rw [hq] at hj; simp at hj
  | succ j=>rw [hq] at hj; simp at hj
theorem Rel.nilRow (hR:Rel W0 mine kn E σ a W) (e sz:Nat):∃ E', E'.h = E.h ∧ Rel W0 mine kn E' { σ with own:=σ.own ++ [.row e sz []] } a W ∧ RAV E' true (.r σ.own.length) (.slice none 0 0) ∧ ∀ x u,RAV E true x u → Bl σ.own.length x → RAV E' true x u :=
 ⟨E.bind σ.own.length W.heap.size (.slice none 0 0),rfl,(hR.newRow' (ety:=e) (sz:=sz) (es:=[]) (xs:=[]) (v:=.slice none 0 0) (W' := W) (World.ownsRow_nil W 0 (e % 1000000) sz) ⟨rfl,rfl,rfl,Nat.le_refl _,fun _ _ _=>rfl⟩ (fun g hg=>by simp [Value.ownBlock] at hg) (by simp) (by simp) (by simp)).1,
  (hR.newRow' (ety:=e) (sz:=sz) (es:=[]) (xs:=[]) (v:=.slice none 0 0) (W' := W) (World.ownsRow_nil W 0 (e % 1000000) sz) ⟨rfl,rfl,rfl,Nat.le_refl _,fun _ _ _=>rfl⟩ (fun g hg=>by simp [Value.ownBlock] at hg) (by simp) (by simp) (by simp)).2,fun x u hx hb=>hx.bind hb⟩
theorem appendS_ok (hA:A = std) (hT:TabOK P T) (hR:Rel W0 mine kn E σ a W) {t t' : Nat} {x y:Operand} {args:Array Operand} {tys:Array TypeId} (ho:o.op = .call ⟨.builtin .append,args,tys⟩) (ha:args.toList = [x,y]) (ht:tys.toList = [t,t']) {j:TI} (ht' : look T t' = some j) (hj:j.kind = .str) :
  EROK P W0 mine kn E a W o (appendS A T σ t (σ.get x) (σ.get y)):=by
 subst hA
 have hus:=(hT _ _ ht').kind
 rw [hj] at hus
 simp only [KindOK] at hus
 unfold appendS
 split
 ·rename_i s hys
  split
  ·rename_i e _ _ _ hi
   have hu:=(hT _ _ hi).kind
   simp only [KindOK] at hu
   split
   ·rename_i i he
    split
    ·rename_i hc
     obtain ⟨⟨_,his⟩,hf'⟩:=hc
     obtain ⟨hy,_⟩:=hR.get y
     obtain ⟨hx,_⟩:=hR.get x
     rw [hys] at hy
     have hyv:=hy.vInv
     split
     ·rename_i k hxk
      split
      ·rename_i ety sz' es hk
       split
       ·rename_i hc2
        obtain ⟨rfl,rfl⟩:=hc2
        rintro ⟨h1,h2⟩
        simp only [std] at h1 h2
        have hb:(es.length + s.size) * i.bytes ≤ 140737488355328:=by
         have:(((es.length + s.size) * i.bytes:Nat):Int) ≤ 140737488355328:=by rw [Int.natCast_mul]; simpa using h2
         omega
        have hR' := hR.kill k
        obtain ⟨v', W', E', hrun,hh,hE', hr⟩:=append_row_str (P:=P) hT hR' hu hus he his (St.kill_own hk) hf' (St.kill_lone hR k) s (by simp only [maxLen]; omega) hb o.type
        rw [hxk] at hx
        refine ⟨v', W', E', .inl (exec_appendS ho ha ht (by rw [hx.rInv,hyv]; exact hrun)),hh,by simpa [std] using hE', hr,.r _ ?_⟩
        have:k < σ.own.length:=(List.getElem?_eq_some_iff.1 hk).1
        simpa [St.kill] using this
       ·trivial
      ·trivial
     ·rename_i hxk
      rintro ⟨h1,h2⟩
      simp only [std] at h1 h2
      have hb:s.size * i.bytes ≤ 140737488355328:=by
       have:((s.size * i.bytes:Nat):Int) ≤ 140737488355328:=by rw [Int.natCast_mul]; simpa using h2
       omega
      obtain ⟨E1,hh1,hE1,hr1,_⟩:=hR.nilRow e 1
      obtain ⟨v', W', E', hrun,hh,hE', hr⟩:=append_row_str (P:=P) hT hE1 hu hus he his (es:=[]) (k:=σ.own.length) (by simp) hf' (lone_new hR) s (by simp only [maxLen,List.length_nil]; omega) (by simpa using hb) o.type
      rw [hxk] at hx
      have hrow:=hr1.rInv
      refine ⟨v', W', E', .inl (exec_appendS ho ha ht (by rw [hx.vInv,hyv,hrow]; exact hrun)),hh.trans hh1,?_,hr,.r _ (by simp)⟩
      simpa [std] using hE'
     ·trivial
    ·trivial
   ·trivial
  ·trivial
 ·trivial
theorem MapFits.nil {kk vk:MK}:MapFits kk vk (fun _=>none) #[] :=
 ⟨by simp,by simp,fun i j e e' h=>by simp at h,fun x v=>by simp⟩
theorem MapFits.push {kk vk:MK} {g:Value → Option Value} {es:Array MapEntry} (h:MapFits kk vk g es) {k v:Value} {c:Nat} (hk:kk.has k) (hv:vk.has v) (hn:∀ e ∈ es.toList,e.key ≠ k) :
  MapFits kk vk (msetF g k v) (es.push { key:=k,val:=v,born:=c }):=by
 refine ⟨fun e he=>?_,fun e he=>?_,fun i j e e' hi hj he=>?_,fun x y=>?_⟩
 ·simp only [Array.toList_push,List.mem_append,List.mem_singleton] at he
  rcases he with he|rfl
  ·exact h.keys e he
  ·exact hk
 ·simp only [Array.toList_push,List.mem_append,List.mem_singleton] at he
  rcases he with he|rfl
  ·exact h.vals e he
  ·exact hv
 ·simp only [Array.toList_push] at hi hj
  have key:∀ (n:Nat) (z:MapEntry),(es.toList ++ [({ key:=k,val:=v,born:=c }:MapEntry)])[n]? = some z → (n < es.toList.length ∧ es.toList[n]? = some z) ∨ (n = es.toList.length ∧ z.key = k):=by
   intro n z hz
   by_cases hlt:n < es.toList.length
   ·rw [List.getElem?_append_left hlt] at hz; exact .inl ⟨hlt,hz⟩
   ·rw [List.getElem?_append_right (Nat.le_of_not_lt hlt)] at hz
    cases hq:n - es.toList.length with
    | zero=>rw [hq] at hz; simp at hz; exact .inr ⟨by omega,by rw [← hz]⟩
    | succ m=>rw [hq] at hz; simp at hz
  rcases key i e hi with ⟨_,h1⟩|⟨h1,h1'⟩ <;> rcases key j e' hj with ⟨_,h2⟩|⟨h2,h2'⟩
  ·exact h.uniq i j e e' h1 h2 he
  ·exact absurd (he.trans h2') (hn e (List.mem_of_getElem? h1))
  ·exact absurd (he.symm.trans h1') (hn e' (List.mem_of_getElem? h2))
  ·omega
 ·simp only [msetF,Array.toList_push,List.mem_append,List.mem_singleton]
  split
  ·rename_i hx
   subst hx
   constructor
   ·intro e; cases e; exact ⟨_,.inr rfl,rfl,rfl⟩
   ·rintro ⟨e,he|rfl,h1,h2⟩
    ·exact absurd h1 (hn e he)
    ·exact congrArg some h2
  ·rename_i hx
   rw [h.get]
   constructor
   ·rintro ⟨e,he,h1,h2⟩; exact ⟨e,.inl he,h1,h2⟩
   ·rintro ⟨e,he|rfl,h1,h2⟩
    ·exact ⟨e,he,h1,h2⟩
    ·exact absurd h1.symm hx
theorem MapFits.modify {kk vk:MK} {g:Value → Option Value} {es:Array MapEntry} (h:MapFits kk vk g es) {k v:Value} {j:Nat} {e:MapEntry} (hv:vk.has v) (hj:es.toList[j]? = some e) (he:e.key = k) :
  MapFits kk vk (msetF g k v) (es.modify j fun e=>{ e with key:=k,val:=v }):=by
 have hjl:j < es.toList.length:=(List.getElem?_eq_some_iff.1 hj).1
 have hl:(es.modify j fun e=>{ e with key:=k,val:=v }).toList = es.toList.set j { e with key:=k,val:=v }:=by
  apply List.ext_getElem?
  intro i
  rw [List.getElem?_set]
  simp only [Array.getElem?_toList,Array.getElem?_modify]
  split
  ·rename_i hij; subst hij
   simp only [Array.getElem?_toList] at hj
   rw [hj]; rfl
  ·rfl
 have key:∀ (n:Nat) (z:MapEntry),(es.toList.set j { e with key:=k,val:=v })[n]? = some z → (n = j ∧ z = { e with key:=k,val:=v }) ∨ (n ≠ j ∧ es.toList[n]? = some z):=by
  intro n z hz
  rw [List.getElem?_set] at hz
  split at hz
  ·rename_i hjn
   first|(rw [if_pos (hjn ▸ hjl)] at hz; cases hz)|cases hz
   exact .inl ⟨hjn.symm,rfl⟩
  ·rename_i hjn; exact .inr ⟨fun e=>hjn e.symm,hz⟩
 refine ⟨fun z hz=>?_,fun z hz=>?_,fun i i' z z' hi hi' hzz=>?_,fun x y=>?_⟩
 ·rw [hl] at hz
  obtain ⟨n,hn⟩:=List.mem_iff_getElem?.1 hz
  rcases key n z hn with ⟨_,rfl⟩|⟨_,h2⟩
  ·show kk.has k; rw [← he]; exact h.keys e (List.mem_of_getElem? hj)
  ·exact h.keys z (List.mem_of_getElem? h2)
 ·rw [hl] at hz
  obtain ⟨n,hn⟩:=List.mem_iff_getElem?.1 hz
  rcases key n z hn with ⟨_,rfl⟩|⟨_,h2⟩
  ·exact hv
  ·exact h.vals z (List.mem_of_getElem? h2)
 ·rw [hl] at hi hi'
  rcases key i z hi with ⟨h1,rfl⟩|⟨h1,h2⟩ <;> rcases key i' z' hi' with ⟨h1', rfl⟩|⟨h1', h2'⟩
  ·omega
  ·exact (h.uniq j i' e z' hj h2' (he.trans hzz)) ▸ h1
  ·exact (h.uniq i j z e h2 hj (hzz.trans he.symm)) ▸ h1'.symm
  ·exact h.uniq i i' z z' h2 h2' hzz
 ·rw [hl]
  simp only [msetF]
  constructor
  ·intro hx
   split at hx
   ·rename_i hxk
    cases hx
    exact ⟨_,List.mem_iff_getElem?.2 ⟨j,by rw [List.getElem?_set_self hjl]⟩,hxk.symm,rfl⟩
   ·rename_i hxk
    obtain ⟨z,hz,h1,h2⟩:=(h.get _ _).1 hx
    obtain ⟨n,hn⟩:=List.mem_iff_getElem?.1 hz
    have hnj:j ≠ n:=fun e1=>by subst e1; rw [hj] at hn; cases hn; exact hxk (h1.symm.trans he)
    exact ⟨z,List.mem_iff_getElem?.2 ⟨n,by rw [List.getElem?_set_ne hnj]; exact hn⟩,h1,h2⟩
  ·rintro ⟨z,hz,h1,h2⟩
   obtain ⟨n,hn⟩:=List.mem_iff_getElem?.1 hz
   rcases key n z hn with ⟨_,rfl⟩|⟨h3,h4⟩
   ·rw [if_pos h1.symm]; exact congrArg some h2
   ·rw [if_neg (fun e1=>h3 (h.uniq n j z e h4 hj (h1.trans (e1.trans he.symm))))]
    exact (h.get _ _).2 ⟨z,List.mem_of_getElem? h4,h1,h2⟩
theorem makeMapE_ok (hA:A = std) (hR:Rel W0 mine kn E σ a W) {ty:Nat} (ho:o.op = .makeMap ty none):EROK P W0 mine kn E a W o (makeMapA A T σ ty):=by
 subst hA
 unfold makeMapA
 split
 ·split
  ·rename_i kk vk _ _
   have hrv:(Value.map (some W.heap.size)).oneCell' = true:=rfl
   have hp:=hR.push (W' := W.alloc (.map #[] 0)) (rv:=.map (some W.heap.size)) (ob:=.mp kk vk std.mnew) rfl rfl rfl (by simp) (fun b hb=>heap_alloc_old W _ b hb)
    ⟨#[],0,by simp only [Env.bind,if_true]; exact heap_alloc_new W _,by simp [Env.bind],MapFits.nil⟩ (fun cs ty e=>by cases e)
   refine ⟨.map (some W.heap.size),W.alloc (.map #[] 0),E.bind σ.own.length W.heap.size (.map (some W.heap.size)),.inl ?_,rfl,hp,?_,.r _ (by simp)⟩
   ·simp [execOp,ho,Instr.makeMap,Result.andThen]
   ·have:=RAV.r (E:=E.bind σ.own.length W.heap.size (.map (some W.heap.size))) σ.own.length (by simp [Env.bind]; rfl)
    simpa [Env.bind] using this
  ·trivial
 ·trivial
theorem updateE_ok (hA:A = std) (hT:TabOK P T) (hR:Rel W0 mine kn E σ a W) {ty:Nat} {x i y:Operand} (ho:o.op = .mapUpdate ty x i y):EROK P W0 mine kn E a W o (updateA A T σ ty (σ.get x) (σ.get i) (σ.get y)):=by
 subst hA
 have hx:=(hR.get x).1
 have hi:=(hR.get i).1
 have hy:=(hR.get y).1
 generalize hex:a.eval x = ux at hx
 generalize hei:a.eval i = ui at hi
 generalize hey:a.eval y = uy at hy
 generalize σ.get x = ax at hx
 generalize σ.get i = ai at hi
 generalize σ.get y = ay at hy
 unfold updateA
 split
 ·rename_i k e _ _ _ hlk
  obtain ⟨hu,_⟩:=(hT _ _ hlk).kind
  split
  ·rename_i j
   split
   ·rename_i kk vk g hj
    split
    ·rename_i key val hkey hval
     split
     ·rename_i hc
      obtain ⟨hc1,hc3⟩:=hc
      obtain ⟨kd,hk1,hk2,_⟩:=mkOf_kind hT hc1
      obtain ⟨rfl,hkh⟩:=mvOf_ok hkey hi
      obtain ⟨rfl,hvh⟩:=mvOf_ok hval hy
      obtain ⟨es,clock,hh,hrow,hf⟩:=hR.mem.owns j _ hj
      have e1:=hx.rInv
      rw [hrow] at e1
      subst e1
      have hlt:E.blk j < W.heap.size:=(Array.getElem?_eq_some_iff.1 hh).1
      have fin:∀ (es' : Array MapEntry) (clock' : Nat),MapFits kk vk (msetF g ui uy) es' → (Instr.mapUpdate ty (.map (some (E.blk j))) ui uy).run P W = .ok () { W with heap:=W.heap.setIfInBounds (E.blk j) (.map es' clock') } →
        Does P W0 mine kn E a W o .any { σ with own:=σ.own.set j (.mp kk vk (std.mset g ui uy)) }:=by
       intro es' clock' hf' hrun
       refine ⟨undef,{ W with heap:=W.heap.setIfInBounds (E.blk j) (.map es' clock') },E,.inr ⟨?_,rfl⟩,rfl,⟨?_,hR.defs,hR.len,hR.tm,fun z hz=>by simpa using hR.wf z hz,St.set_wfo hR (fun cs ty e=>by cases e)⟩,.any _ _,.any⟩
       ·simp [execOp,ho,hex,hei,hey,hrun,Result.andThen]
       ·refine hR.mem.set hj rfl (fun _ _=>⟨rfl,rfl⟩) (fun _ _ _ _ _ _ _ _ h=>h) rfl rfl rfl (by simp) (fun b _ hb=>?_) ⟨es', clock', ?_,hrow,hf'⟩ (fun _=>.inl ⟨trivial,rfl⟩) (fun _=>⟨⟨rfl,rfl⟩,rfl⟩)
        ·exact Array.getElem?_setIfInBounds_ne (fun e=>hb trivial e.symm)
        ·simp [hlt]
      rcases findKey_ok hk1 hk2 hc3 hkh es.toList hf.keys W with ⟨h1,h2⟩|⟨n,ent,h1,h2,h3⟩
      ·refine fin _ (clock + 1) (hf.push (c:=clock) hkh hvh h2) ?_
       simp [Instr.mapUpdate,run_underlying hu,MapKept.run_getObj_map hh,checkKey_ok hk1 hk2 hkh,h1,MapKept.run_setObj_map _ hh,Result.andThen]
      ·refine fin _ clock (hf.modify hvh h2 h3) ?_
       have h2' : es[n]? = some ent:=by simpa using h2
       have hst:(Instr.keyThatStays ui ui).run P W = .ok ui W:=by
        cases kk <;> (obtain ⟨b,rfl⟩:=hkh; simp [Instr.keyThatStays,Instr.sameBits,beq_toListBytes])
       simp [Instr.mapUpdate,run_underlying hu,MapKept.run_getObj_map hh,checkKey_ok hk1 hk2 hkh,h1,h2', h3,hst,MapKept.run_setObj_map _ hh,Result.andThen]
     ·trivial
    ·trivial
   ·trivial
  ·trivial
 ·trivial
theorem opE_ok (hA:A = std) (hT:TabOK P T) (hR:Rel W0 mine kn E σ a W):EROK P W0 mine kn E a W o (opE A T σ o.op):=by
 generalize hop:o.op = op
 unfold opE
 split
 ·split
  ·rename_i hc; exact boxE_ok hR hop hc
  ·trivial
 ·split
  ·rename_i hi; exact allocE_ok hT hR hop hi
  ·trivial
 ·exact storeE_ok hA hT hR hop
 ·exact litE_ok hA hT hR hop
 ·exact makeE_ok hA hT hR hop
 ·rename_i args tys
  split
  ·rename_i h1 h2
   split
   ·rename_i ht; subst ht; exact appendE_ok hA hT hR hop h1 h2
   ·split
    ·rename_i h3; exact appendS_ok hA hT hR hop h1 h2 h3 rfl
    ·trivial
  ·trivial
 ·exact makeMapE_ok hA hR hop
 ·exact updateE_ok hA hT hR hop
 ·trivial
end
end Go.AE
