/- AE, part 3: the operations that only read: soundness. -/
import Derived.Test.YthadehkggddgoaaGreatDoorAE2
import Derived.Laws.Tables
import Derived.Laws.Small
set_option linter.unusedVariables false
set_option linter.unusedSimpArgs false
namespace Go.AE
open Go
def Reads (P:Program) (E:Env) (own:List OB) (W:World) (ev:Operand → Value) (o:Oper) (x:AV):Prop :=
 ∃ u,RAV E true x u ∧ ∀ W', Snap E own W W' → (execOp ev o).run P W' = .ok (.value u) W'
structure CutsAt (l h:Option Int) (a m n:Nat):Prop where
 lo:(l = none ∧ a = 0) ∨ l = some (a:Int)
 hi:(h = none ∧ a + m = n) ∨ h = some ((a + m:Nat):Int)
 le:a + m ≤ n
def RROK (P:Program) (E:Env) (own:List OB) (W:World) (ev:Operand → Value) (o:Oper):RR → Prop
 | .ok x=>Reads P E own W ev o x
 | .need p x=>p → Reads P E own W ev o x
 | .idx es n q=>∀ (i:Nat) (cells:List AV),es[i]? = some cells → n = i → Reads P E own W ev o (match q with|none=>.ip cells|some (k,sz)=>.q k sz i 0)
 | .ldq es i off size agg=>∀ cells,es[i]? = some cells → Reads P E own W ev o (mkA agg ((cells.drop off).take size)) ∧ Bl 0 (mkA agg ((cells.drop off).take size))
 | .str es=>∀ s,es = sbytes s → Reads P E own W ev o (.v (.string s))
 | .idxw k sz lo n z=>∀ i j:Nat,z = i → i < n → j = lo + i → Reads P E own W ev o (.q k sz j 0)
 | .cutr k sz es l h=>∀ a m:Nat,CutsAt l h a m es.length → Reads P E own W ev o (.w k sz a m)
 | .cutw k sz lo n l h=>∀ a m lo' : Nat,CutsAt l h a m n → lo' = lo + a → Reads P E own W ev o (.w k sz lo' m)
 | .coin neg es=>∃ b:Bool,(b = !neg → es = []) ∧ Reads P E own W ev o (.b b)
 | .ixa k off sz n z=>∀ i:Nat,z = i → i < n → Reads P E own W ev o (.p k (off + i * sz))
 | .no=>True
section
variable {P:Program} {A:Ari} {T:Tab} {E:Env} {own:List OB} {σ : St} {W W0:World} {mine:Nat → Prop} {kn:Kn} {ev:Operand → Value} {o:Oper}
theorem packN (a b:Nat) (h:a < 1000000):(a + 1000000 * b) % 1000000 = a ∧ (a + 1000000 * b) / 1000000 = b:=by omega
theorem isAgg_ok {t:Nat} {i:TI} (h:TypeOK P t i) (W:World):(isAgg t).run P W = .ok i.kind.agg W:=by
 have hk:=h.kind
 cases hi:i.kind <;> rw [hi] at hk <;> simp only [KindOK] at hk <;> simp only [TK.agg]
 case struct fs =>
  obtain ⟨fields,hf,_⟩:=hk
  simp [isAgg,underlying,hf,Result.andThen]
 case iface =>
  obtain ⟨ms,hf⟩:=hk
  simp [isAgg,underlying,hf,Result.andThen]
 case other=>exact hk W
 all_goals simp [isAgg,underlying,hk,Result.andThen]
theorem sizeOf_ok {t:Nat} {i:TI} (h:TypeOK P t i) (W:World):(sizeOf t).run P W = .ok i.size W:=by
 obtain ⟨f,hf,hs,_⟩:=h.info
 simp [sizeOf,typeInfo,hf,hs,Result.andThen]
theorem cell_of {W:World} {b off:Nat} {vals:Array Value} {ty:Nat} {fr:Nat × Nat} (h:W.heap[b]? = some (.cells vals ty fr)) (i:Nat) :
  W.cell? ⟨b,off + i,none⟩ = vals[off + i]?:=by simp [World.cell?,h]
theorem loadCells_ok {W:World} {b off n:Nat} {vals:Array Value} {ty:Nat} {fr:Nat × Nat} (h:W.heap[b]? = some (.cells vals ty fr)) (hn:off + n ≤ vals.size) :
  (loadCells ⟨b,off,none⟩ n).run P W = .ok ((vals.toList.drop off).take n).toArray W:=by
 have hl:((vals.toList.drop off).take n).length = n:=by simp; omega
 have:=run_loadCells_list (P:=P) W ⟨b,off,none⟩ ((vals.toList.drop off).take n) (fun j v hj=>by
  have hjn:j < n:=by have:=(List.getElem?_eq_some_iff.1 hj).1; rw [hl] at this; exact this
  rw [show (⟨b,off,none⟩:Addr).add j = ⟨b,off + j,none⟩ from Addr.add_lit _ _ _]
  rw [cell_of h j]
  rw [List.getElem?_take_of_lt hjn,List.getElem?_drop] at hj
  simpa using hj)
 rw [hl] at this
 exact this
theorem loadVar_agg {t:Nat} {i:TI} (h:TypeOK P t i) (ha:i.kind.agg = true) {W:World} {b off:Nat} {vals:Array Value} {ty:Nat} {fr:Nat × Nat}
  (hb:W.heap[b]? = some (.cells vals ty fr)) (hn:off + i.size ≤ vals.size):(loadVar t ⟨b,off,none⟩).run P W = .ok (.agg ((vals.toList.drop off).take i.size).toArray) W:=by
 simp [loadVar,isAgg_ok h,ha,sizeOf_ok h,loadCells_ok hb hn,Result.andThen]
theorem loadVar_one {t:Nat} {i:TI} (h:TypeOK P t i) (ha:i.kind.agg = false) {W:World} {b off:Nat} {vals:Array Value} {ty:Nat} {fr:Nat × Nat} {u:Value}
  (hb:W.heap[b]? = some (.cells vals ty fr)) (hn:vals[off]? = some u):(loadVar t ⟨b,off,none⟩).run P W = .ok u W:=by
 have:=cell_of (off:=off) hb 0
 simp only [Nat.add_zero] at this
 simp [loadVar,isAgg_ok h,ha,Result.andThen,this,hn]
theorem load_ok {t:Nat} {i:TI} (h:TypeOK P t i) {m:Bool} {cs:List AV} {b off:Nat} {vals:Array Value} (hl:off + i.size ≤ vals.size) (hc:i.size ≤ cs.length)
  (h1:∀ (j:Nat) (u:Value),j < cs.length → vals[off + j]? = some u → u.oneCell' = true)
  (hr:∀ (j:Nat) (c:AV) (u:Value),cs[j]? = some c → vals[off + j]? = some u → RAV E m c u) :
  ∃ u,RAV E m (mkA i.kind.agg (cs.take i.size)) u ∧ ∀ (W:World) (ty:Nat) (fr:Nat × Nat),W.heap[b]? = some (.cells vals ty fr) → (loadVar t ⟨b,off,none⟩).run P W = .ok u W:=by
 cases ha:i.kind.agg with
 | true =>
  refine ⟨_,.a m _ ((vals.toList.drop off).take i.size) (by simp; omega) ?_ ?_,fun W ty fr hb=>loadVar_agg h ha hb hl⟩
  ·intro x hx
   obtain ⟨j,hj,rfl⟩:=List.getElem_of_mem hx
   have hjn:j < i.size:=by simp at hj; omega
   refine h1 j _ (by omega) ?_
   rw [← List.getElem?_eq_getElem,List.getElem?_take_of_lt hjn,List.getElem?_drop]
   simp
  ·intro j c u hj hu
   have hjn:j < i.size:=by have:=(List.getElem?_eq_some_iff.1 hj).1; simp at this; omega
   rw [List.getElem?_take_of_lt hjn] at hj hu
   rw [List.getElem?_drop] at hu
   exact hr j c u hj (by simpa using hu)
 | false =>
  by_cases hs:i.size = 1
  ·obtain ⟨c,hc0⟩:∃ c,cs[0]? = some c:=⟨cs[0]'(by omega),List.getElem?_eq_getElem _⟩
   obtain ⟨u,hu⟩:∃ u,vals[off]? = some u:=⟨vals[off]'(by omega),Array.getElem?_eq_getElem _⟩
   have:cs.take i.size = [c]:=by
    rw [hs]; cases cs with
    | nil=>simp at hc0
    | cons x r=>simp at hc0; simp [hc0]
   refine ⟨u,?_,fun W ty fr hb=>loadVar_one h ha hb hu⟩
   rw [this]
   exact hr 0 c u hc0 (by simpa using hu)
  ·exact absurd (h.one1 ha) hs
theorem RAV.pInv {E:Env} {m:Bool} {k off:Nat} {u:Value} (h:RAV E m (.p k off) u):u = .pointer (some ⟨E.blk k,off,none⟩):=by cases h; rfl
theorem RAV.qInv {E:Env} {m:Bool} {k sz i off:Nat} {u:Value} (h:RAV E m (.q k sz i off) u):u = .pointer (some ⟨E.blk k,i * sz + off,none⟩):=by cases h; rfl
theorem RAV.vInv {E:Env} {m:Bool} {x u:Value} (h:RAV E m (.v x) u):u = x:=by cases h; rfl
theorem RAV.bInv {E:Env} {m x:Bool} {u:Value} (h:RAV E m (.b x) u):u = .bool x:=by cases h; rfl
theorem asB_val {E:Env} {m x:Bool} {y:AV} {u:Value} (h:RAV E m y u) (hy:asB y = some x):u = .bool x:=by
 unfold asB at hy
 split at hy
 ·simp at hy; subst hy; exact h.bInv
 ·simp at hy; subst hy; exact h.vInv
 ·cases hy
theorem RAV.rInv {E:Env} {m:Bool} {k:Nat} {u:Value} (h:RAV E m (.r k) u):u = E.row k:=by cases h; rfl
theorem list_flat_get {α : Type} {es:List (List α)} {sz:Nat} (hs:∀ e ∈ es,e.length = sz) {i:Nat} {cells:List α} (hi:es[i]? = some cells):cells.length = sz :=
 hs _ (List.mem_of_getElem? hi)
theorem loadAt_run {t:Nat} {a:Addr} {W:World}:(Instr.loadAt t (.pointer (some a))).run P W = (loadVar t a).run P W:=by
 simp [Instr.loadAt,Instr.sureAddr,Result.andThen]
theorem Mem.box (hm:Mem W0 mine kn E σ.own W) {k ty:Nat} {cs:List AV} (hk:σ.own[k]? = some (.box cs ty)):∃ vs:List Value,W.heap[E.blk k]? = some (.cells vs.toArray ty (0,0)) ∧ cs.length = vs.length ∧ (∀ x ∈ vs,x.oneCell' = true) ∧
   ∀ (i:Nat) (c:AV) (u:Value),cs[i]? = some c → vs[i]? = some u → RAV E true c u:=hm.owns k _ hk
theorem Snap.box {W' : World} (hs:Snap E σ.own W W') {k ty:Nat} {cs:List AV} (hk:σ.own[k]? = some (.box cs ty)):W'.heap[E.blk k]? = W.heap[E.blk k]?:=hs.owns k _ hk trivial
theorem exec_load {o:Oper} {t:Nat} {x:Operand} {a:Addr} (ho:o.op = .load t x) (he:ev x = .pointer (some a)) {W:World} {u:Value} (h:(loadVar t a).run P W = .ok u W) :
  (execOp ev o).run P W = .ok (.value u) W:=by
 simp [execOp,ho,he,loadAt_run,h,Result.andThen]
theorem loadA_ok (hT:TabOK P T) (hm:Mem W0 mine kn E σ.own W) {t:Nat} {x:Operand} {y:AV} (ho:o.op = .load t x) (hx:RAV E true y (ev x)):RROK P E σ.own W ev o (loadA T σ t y):=by
 generalize he:ev x = ux at hx
 unfold loadA
 split
 ·trivial
 ·rename_i i hi
  have hty:=hT _ _ hi
  split
  ·rename_i k off
   have hp:=hx.pInv
   subst hp
   split
   ·rename_i cs tb hk
    split
    ·rename_i hle
     obtain ⟨vs,hv,hl,h1,hr⟩:=hm.box hk
     obtain ⟨u,hu,hrun⟩:=load_ok (P:=P) (E:=E) hty (m:=true) (cs:=cs.drop off) (b:=E.blk k) (off:=off) (vals:=vs.toArray) (by simp; omega) (by simp; omega)
      (fun j u hj hu=>h1 u (by simp at hu; exact List.mem_of_getElem? hu))
      (fun j c u hc hu=>hr (off + j) c u (by simpa using hc) (by simpa using hu))
     exact ⟨u,hu,fun W' hs=>exec_load ho he (hrun W' tb (0,0) (by rw [hs.box hk]; exact hv))⟩
    ·trivial
   ·trivial
  ·rename_i cs
   split
   ·rename_i hle
    cases hx with
    | ip _ _ b off vals ty fr hb hl h1 hc =>
     obtain ⟨u,hu,hrun⟩:=load_ok (P:=P) (E:=E) hty (m:=true) (cs:=cs) (b:=b) (off:=off) (vals:=vals) (by omega) hle h1 (fun j c u hcj hu=>(hc j c u hcj hu).up)
     exact ⟨u,hu,fun W' hs=>exec_load ho he (hrun W' ty fr (hs.facts _ _ hb))⟩
   ·trivial
  ·rename_i k sz n off
   have hp:=hx.qInv
   subst hp
   split
   ·rename_i sz' es hk
    split
    ·rename_i hsz
     subst hsz
     split
     ·rename_i hle
      intro cells hcells
      unfold rowOf at hk
      split at hk
      ·rename_i ety sz es' hk'
       simp only [Option.some.injEq,Prod.mk.injEq] at hk
       obtain ⟨rfl,rfl⟩:=hk
       have hown:=hm.owns k _ hk'
       obtain ⟨xs,hrk⟩:=hown
       have hes:=hrk.len
       rcases hrk.shape with ⟨_,hn⟩|⟨cap,vals,hrow,hv,hec,hcm,hvl,hxl,hvx⟩
       ·subst hn; simp at hcells
       ·have hin:n < es'.length:=(List.getElem?_eq_some_iff.1 hcells).1
        have hcl:cells.length = sz:=list_flat_get hes hcells
        have hmul0:n * sz + sz ≤ es'.length * sz:=by
         have:(n + 1) * sz ≤ es'.length * sz:=Nat.mul_le_mul_right _ (by omega)
         rw [Nat.add_mul] at this; omega
        have hmul:n * sz + sz ≤ cap * sz:=Nat.le_trans hmul0 (Nat.mul_le_mul_right _ hec)
        have hx:∀ j u,j < sz - off → vals[n * sz + off + j]? = some u → xs[n * sz + off + j]? = some u:=fun j u hj hu=>by rw [← hvx _ (by omega)]; exact hu
        obtain ⟨u,hu,hrun⟩:=load_ok (P:=P) (E:=E) hty (m:=false) (cs:=cells.drop off) (b:=E.blk k) (off:=n * sz + off) (vals:=vals) (by omega) (by simp; omega)
         (fun j u hj hu=>hrk.one u (List.mem_of_getElem? (hx j u (by simp at hj; omega) hu)))
         (fun j c u hc hu=>(hrk.rav n (off + j) cells c u hcells (by simpa using hc) (by
          have hjl:j < (cells.drop off).length:=(List.getElem?_eq_some_iff.1 hc).1
          rw [← Nat.add_assoc]
          exact hx j u (by simp at hjl; omega) hu)))
        exact ⟨⟨u,hu.up,fun W' hs=>exec_load ho he (hrun W' (ety % 1000000) (0,0) (by rw [hs.owns k _ hk' (by show (E.row k).ownBlock = _; rw [hrow]; rfl)]; exact hv))⟩,(hu.bl rfl).mono fun _ h=>h.elim⟩
      ·cases hk
     ·trivial
    ·trivial
   ·trivial
  ·trivial
theorem part_ok {t:Nat} {g:Bool} {n:Nat} (ha:∀ W,(isAgg t).run P W = .ok g W) (hs:(P.info? t).map (·.size) = some n) (h1:g = false → n = 1) {m:Bool} {cs:List AV} {vs:List Value} {off:Nat}
  (hl:cs.length = vs.length) (hle:off + n ≤ cs.length) (hone:∀ x ∈ vs,x.oneCell' = true) (hr:∀ (i:Nat) (c:AV) (u:Value),cs[i]? = some c → vs[i]? = some u → RAV E m c u) :
  ∃ u,RAV E m (mkA g ((cs.drop off).take n)) u ∧ ∀ W,(part t vs.toArray off).run P W = .ok u W:=by
 obtain ⟨f,hf,hfs⟩:∃ f,P.info? t = some f ∧ f.size = n:=by
  cases h:P.info? t with
  | none=>rw [h] at hs; cases hs
  | some f=>rw [h] at hs; simp at hs; exact ⟨f,rfl,hs⟩
 cases g with
 | true =>
  refine ⟨_,.a m _ ((vs.drop off).take n) (by simp; omega) (fun x hx=>hone x (List.mem_of_mem_drop (List.mem_of_mem_take hx))) ?_,fun W=>?_⟩
  ·intro j c u hj hu
   have hjn:j < n:=by have:=(List.getElem?_eq_some_iff.1 hj).1; simp at this; omega
   rw [List.getElem?_take_of_lt hjn,List.getElem?_drop] at hj hu
   exact hr _ c u hj hu
  ·simp [part,ha,sizeOf,typeInfo,hf,hfs,Result.andThen]
 | false =>
  have hn:=h1 rfl
  subst hn
  obtain ⟨c,hc⟩:∃ c,cs[off]? = some c:=⟨cs[off]'(by omega),List.getElem?_eq_getElem _⟩
  obtain ⟨u,hu⟩:∃ u,vs[off]? = some u:=⟨vs[off]'(by omega),List.getElem?_eq_getElem _⟩
  have hd:(cs.drop off).take 1 = [c]:=by
   rw [List.drop_eq_getElem_cons (by omega)]
   have:=(List.getElem?_eq_some_iff.1 hc).2
   simp [this]
  refine ⟨u,by rw [hd]; exact hr off c u hc hu,fun W=>?_⟩
  simp [part,ha,Result.andThen,hu]
theorem fieldA_ok (hT:TabOK P T) {t f:Nat} {x:Operand} {y:AV} (ho:o.op = .field t x f) (hx:RAV E true y (ev x)):RROK P E σ.own W ev o (fieldA T t y f):=by
 generalize he:ev x = ux at hx
 unfold fieldA
 split
 ·rename_i fs _ _ _ _ cs hi
  have hty:=(hT _ _ hi).kind
  obtain ⟨fields,hu,hlen,hfs,_⟩:=hty
  split
  ·rename_i off size agg hf
   split
   ·rename_i hle
    have hff:f < fields.size:=by rw [← hlen]; exact (List.getElem?_eq_some_iff.1 hf).1
    obtain ⟨h1,h2,h3,hagg⟩:=hfs f fields[f] _ (Array.getElem?_eq_getElem hff) hf
    cases hx with
    | a _ _ vs hl hone hr =>
     obtain ⟨u,hu', hrun⟩:=part_ok (P:=P) (E:=E) h3 h2 hagg hl hle hone hr
     refine ⟨u,hu', fun W' _=>?_⟩
     have h1' : fields[f].offset = off:=h1
     simp [execOp,ho,he,Instr.field,underlying,hu,Result.andThen,hff,asAgg,h1', hrun]
   ·trivial
  ·trivial
 ·trivial
theorem fieldAddrA_ok (hT:TabOK P T) {t f:Nat} {x:Operand} {y:AV} (ho:o.op = .fieldAddr t x f) (hx:RAV E true y (ev x)):RROK P E σ.own W ev o (fieldAddrA T t y f):=by
 generalize he:ev x = ux at hx
 unfold fieldAddrA
 split
 ·rename_i fs _ _ _ _ hi
  obtain ⟨fields,hu,hlen,hfs,_⟩:=(hT _ _ hi).kind
  split
  ·rename_i off size agg hf
   split
   ·trivial
   ·rename_i hsz
    have hff:f < fields.size:=by rw [← hlen]; exact (List.getElem?_eq_some_iff.1 hf).1
    obtain ⟨h1,h2,h3,_⟩:=hfs f fields[f] _ (Array.getElem?_eq_getElem hff) hf
    have h1' : fields[f].offset = off:=h1
    have hrun:∀ (b o2:Nat) (W' : World),ux = .pointer (some ⟨b,o2,none⟩) → (execOp ev o).run P W' = .ok (.value (.pointer (some ⟨b,o2 + off,none⟩))) W' := by
     intro b o2 W' hux
     obtain ⟨fi,hfi,hfs'⟩:∃ fi,P.info? fields[f].type = some fi ∧ fi.size = size:=by
      cases h:P.info? fields[f].type with
      | none=>rw [h] at h2; cases h2
      | some fi=>rw [h] at h2; simp at h2; exact ⟨fi,rfl,h2⟩
     simp [execOp,ho,he,hux,Instr.fieldAt,Instr.sureAddr,underlying,hu,Result.andThen,hff,fieldPlace,sizeOf,typeInfo,hfi,hfs', hsz,h1', Addr.add_lit]
    split
    ·rename_i k o2
     have hp:=hx.pInv
     exact ⟨_,.p k (o2 + off),fun W' _=>hrun _ _ W' hp⟩
    ·rename_i cs
     split
     ·rename_i hle
      cases hx with
      | ip _ _ b o2 vals ty fr hb hl h1 hc =>
       refine ⟨_,.ip true (cs.drop off) b (o2 + off) vals ty fr hb (by simp; omega) (fun i u hi hu=>h1 (off + i) u (by simp at hi; omega) (by rw [← hu]; congr 1; omega)) (fun i c u hc' hu=>hc (off + i) c u (by simpa using hc') (by rw [← hu]; congr 1; omega)),fun W' _=>hrun _ _ W' rfl⟩
     ·trivial
    ·rename_i k sz n o2
     have hp:=hx.qInv
     exact ⟨_,.q k sz n (o2 + off),fun W' _=>by rw [hrun _ _ W' hp,Nat.add_assoc]⟩
    ·trivial
  ·trivial
 ·trivial
theorem extractA_ok {i:Nat} {x:Operand} {vs:List AV} {y:AV} (ho:o.op = .extract x i) (hx:RAV E true (.t vs) (ev x)) (hy:vs[i]? = some y):Reads P E σ.own W ev o y:=by
 generalize he:ev x = ux at hx
 cases hx with
 | t _ _ us hl hc =>
  obtain ⟨u,hu⟩:∃ u,us[i]? = some u:=⟨us[i]'(by rw [← hl]; exact (List.getElem?_eq_some_iff.1 hy).1),List.getElem?_eq_getElem _⟩
  exact ⟨u,hc i y u hy hu,fun W' _=>by simp [execOp,ho,he,Instr.extract,hu,Result.andThen]⟩
theorem cells_rav {E:Env} {m:Bool} {x:AV} {u:Value} (h:RAV E m x u) (hc:x.cells.all AV.cell = true):∃ vs:List Value,u.cells = vs.toArray ∧ x.cells.length = vs.length ∧ (∀ v ∈ vs,v.oneCell' = true) ∧
  ∀ (i:Nat) (c:AV) (v:Value),x.cells[i]? = some c → vs[i]? = some v → RAV E m c v:=by
 by_cases ha:∃ cs,x = .a cs
 ·obtain ⟨cs,rfl⟩:=ha
  cases h with
  | a _ _ vs hl h1 hc=>exact ⟨vs,rfl,hl,h1,hc⟩
 ·have hx:x.cells = [x]:=by cases x <;> first|rfl|(exact absurd ⟨_,rfl⟩ ha)
  rw [hx] at hc ⊢
  simp at hc
  have h1:=h.cell hc
  refine ⟨[u],?_,rfl,by simpa using h1,?_⟩
  ·cases u <;> first|rfl|(simp [Value.oneCell'] at h1)
  ·intro i c v hc hv
   cases i with
   | zero=>simp at hc hv; subst hc; subst hv; exact h
   | succ i=>simp at hc
theorem fold_set (off:Nat):∀ (l:List Value) (k:Nat) (vs:List Value),off + k + l.length ≤ vs.length →
  (l.zipIdx k).foldl (fun (cs:Array Value) (x:Value × Nat)=>cs.setIfInBounds (off + x.2) x.1) vs.toArray = (vs.take (off + k) ++ l ++ vs.drop (off + k + l.length)).toArray
 | [],k,vs,h=>by simp
 | v :: l,k,vs,h=>by
  simp only [List.length_cons] at h
  rw [List.zipIdx_cons,List.foldl_cons]
  have:(vs.toArray.setIfInBounds (off + k) v) = (vs.set (off + k) v).toArray:=by simp
  rw [this,fold_set off l (k + 1) (vs.set (off + k) v) (by simp; omega)]
  have:=list_seg_step vs (off + k) v l (by omega)
  simp only [List.length_cons]
  rw [← this]
  simp [Nat.add_assoc]
theorem seg_rav {m:Bool} {cs ds:List AV} {vs ws:List Value} {off size:Nat} (hcl:cs.length = vs.length) (hd:ds.length = size) (hw:ds.length = ws.length) (hle:off + size ≤ cs.length)
  (hr:∀ (i:Nat) (c:AV) (u:Value),cs[i]? = some c → vs[i]? = some u → RAV E m c u) (hwr:∀ (i:Nat) (c:AV) (u:Value),ds[i]? = some c → ws[i]? = some u → RAV E m c u) :
  ∀ (i:Nat) (c:AV) (u:Value),(cs.take off ++ ds ++ cs.drop (off + size))[i]? = some c → (vs.take off ++ ws ++ vs.drop (off + size))[i]? = some u → RAV E m c u:=by
 intro i c u hc hu
 have e1:(cs.take off).length = off:=by simp; omega
 have e2:(vs.take off).length = off:=by simp; omega
 by_cases h1:i < off
 ·rw [List.append_assoc,List.getElem?_append_left (by omega),List.getElem?_take_of_lt h1] at hc hu
  exact hr i c u hc hu
 ·by_cases h2:i < off + size
  ·rw [List.append_assoc,List.getElem?_append_right (by omega),List.getElem?_append_left (by omega)] at hc hu
   rw [e1] at hc; rw [e2] at hu
   exact hwr _ c u hc hu
  ·rw [List.getElem?_append_right (by simp; omega),List.getElem?_drop] at hc hu
   refine hr _ c u hc ?_
   rw [← hu]; congr 1; simp only [List.length_append,e1,e2]; omega
theorem fill_ok {fs:List (Nat × Nat × Bool)} {place:Nat → Option (Nat × Nat)} (hp:∀ (i off size:Nat) (g:Bool),fs[i]? = some (off,size,g) → place i = some (off,size)) :
  ∀ (ps:List (Nat × AV)) (us:List (Nat × Value)) (cs ds:List AV) (vs:List Value),fillA fs cs ps = some ds → ps.length = us.length →
   (∀ (j:Nat) (p:Nat × AV) (q:Nat × Value),ps[j]? = some p → us[j]? = some q → p.1 = q.1 ∧ RAV E true p.2 q.2) →
   cs.length = vs.length → (∀ x ∈ vs,x.oneCell' = true) → (∀ (i:Nat) (c:AV) (u:Value),cs[i]? = some c → vs[i]? = some u → RAV E true c u) →
   ∃ ws:List Value,Instr.fill place vs.toArray us = some ws.toArray ∧ ds.length = ws.length ∧ (∀ x ∈ ws,x.oneCell' = true) ∧ ∀ (i:Nat) (c:AV) (u:Value),ds[i]? = some c → ws[i]? = some u → RAV E true c u
 | [],us,cs,ds,vs,hf,hl,_,hcl,h1,hr=>by
  cases us with
  | nil=>simp [fillA] at hf; subst hf; exact ⟨vs,rfl,hcl,h1,hr⟩
  | cons _ _=>simp at hl
 | (i,x) :: ps,us,cs,ds,vs,hf,hl,hpq,hcl,h1,hr=>by
  cases us with
  | nil=>simp at hl
  | cons q us =>
   obtain ⟨j,u⟩:=q
   obtain ⟨hij,hxu⟩:=hpq 0 (i,x) (j,u) rfl rfl
   simp only at hij hxu
   subst hij
   simp only [fillA] at hf
   split at hf
   ·cases hf
   ·rename_i off size g hi
    split at hf
    ·rename_i hc
     obtain ⟨hc1,hc2,hc3⟩:=hc
     obtain ⟨ws,hw,hwl,hw1,hwr⟩:=cells_rav hxu hc3
     have hstep:(u.cells.zipIdx.foldl (fun cs (c,j)=>cs.setIfInBounds (off + j) c) vs.toArray) = (vs.take off ++ ws ++ vs.drop (off + size)).toArray:=by
      have:=fold_set off ws 0 vs (by omega)
      rw [hw]
      simp only [← Array.foldl_toList,Array.toList_zipIdx]
      simpa [← hwl,hc1] using this
     have ih:=fill_ok hp ps us (cs.take off ++ x.cells ++ cs.drop (off + size)) ds (vs.take off ++ ws ++ vs.drop (off + size)) hf (by simpa using hl)
      (fun j p q hp' hq=>hpq (j + 1) p q (by simpa using hp') (by simpa using hq))
      (by simp; omega)
      (fun y hy=>by
       simp only [List.append_assoc,List.mem_append] at hy
       rcases hy with hy|hy|hy
       ·exact h1 y (List.mem_of_mem_take hy)
       ·exact hw1 y hy
       ·exact h1 y (List.mem_of_mem_drop hy))
      (seg_rav hcl hc1 hwl hc2 hr hwr)
     obtain ⟨zs,hz,hrest⟩:=ih
     refine ⟨zs,?_,hrest⟩
     have hsz:u.cells.size = size:=by rw [hw]; simp; omega
     have hle:¬ (off + u.cells.size > vs.toArray.size):=by rw [hsz]; simp; omega
     simp only [Instr.fill,hp i off size g hi]
     rw [if_neg (by simp only [Bool.or_eq_true,bne_iff_ne,ne_eq,decide_eq_true_eq]; rintro (h|h); exact h hsz; exact hle h),hstep]
     exact hz
    ·cases hf
theorem places_ok:∀ (l:List Field) (fs:List (Nat × Nat × Bool)),fs.length = l.length →
  (∀ (i:Nat) (f:Field) (x:Nat × Nat × Bool),l[i]? = some f → fs[i]? = some x → f.offset = x.1 ∧ (P.info? f.type).map (·.size) = some x.2.1) →
  l.mapM (fun f=>(P.info? f.type).map fun i=>(f.offset,i.size)) = some (fs.map fun x=>(x.1,x.2.1))
 | [],fs,hl,_=>by cases fs with
  | nil=>rfl
  | cons _ _=>simp at hl
 | f :: l,fs,hl,h=>by cases fs with
  | nil=>simp at hl
  | cons x fs =>
   obtain ⟨h1,h2⟩:=h 0 f x rfl rfl
   have ih:=places_ok l fs (by simpa using hl) (fun i f x hi hx=>h (i + 1) f x (by simpa using hi) (by simpa using hx))
   cases hi:P.info? f.type with
   | none=>rw [hi] at h2; cases h2
   | some i =>
    rw [hi] at h2
    simp at h2
    simp [List.mapM_cons,hi,ih,h1,h2]
theorem buildA_ok (hA:A = std) (hT:TabOK P T) {t:Nat} {ps:Array (Nat × Operand)} (ho:o.op = .build t ps) (hg:∀ x,RAV E true (σ.get x) (ev x)) :
  RROK P E σ.own W ev o (buildA T t (ps.toList.map fun y=>(y.1,σ.get y.2))):=by
 unfold buildA
 split
 ·rename_i fs _ sz by_ z hi
  have hty:=hT _ _ hi
  obtain ⟨fields,hu,hlen,hfs,_⟩:=hty.kind
  obtain ⟨fi,hfi,hfsz,_,zv,hz,hzc⟩:=hty.info
  split
  ·rename_i cs hf
   let place:Nat → Option (Nat × Nat):=fun i=>(fs[i]?).map fun x=>(x.1,x.2.1)
   obtain ⟨ws,hw,hwl,hw1,hwr⟩:=fill_ok (E:=E) (place:=place) (fun i off size g h=>by simp [place,h]) _ (ps.toList.map fun y=>(y.1,ev y.2)) (z.map zeroA) cs z hf (by simp)
    (fun j p q hp hq=>by
     simp only [List.getElem?_map] at hp hq
     cases h:ps.toList[j]? with
     | none=>rw [h] at hp; cases hp
     | some y=>rw [h] at hp hq; simp at hp hq; subst hp; subst hq; exact ⟨rfl,hg _⟩)
    (by simp) (fun x hx=>hty.one x hx)
    (fun i c u hc hu=>by
     simp only [List.getElem?_map,hu] at hc
     simp at hc; subst hc
     exact zeroA_rav (hty.one u (List.mem_of_getElem? hu)))
   refine ⟨_,.a true cs ws hwl hw1 hwr,fun W' _=>?_⟩
   have hrun:P.built t (ps.toList.map fun y=>(y.1,ev y.2)) = some ws.toArray:=by
    have hpl:=places_ok (P:=P) fields.toList fs (by simpa using hlen) (fun i f x h1 h2=>by
     have:=hfs i f x (by simpa using h1) h2
     exact ⟨this.1,this.2.1⟩)
    simp only [Program.built,hfi,hu,hz,hpl]
    have hplace:(fun i=>(fs.map fun x=>(x.1,x.2.1)).toArray[i]?) = place:=by
     funext i; simp [place]
    rw [hzc,hplace]
    exact hw
   have:=run_build (P:=P) W' t ((ps.map fun y=>(y.1,ev y.2))) ws.toArray (by simpa using hrun)
   simp only [execOp,ho]
   simp [this,Result.andThen]
  ·trivial
 ·trivial
theorem exec_bin {op:BinOp} {t t' : Nat} {x y:Operand} (ho:o.op = .binOp op t x y t') {W' : World} {u:Value} (h1:(eqGuard op t x y (ev x) (ev y)).run P W' = .ok () W') (h2:(binOp op t (ev x) (ev y)).run P W' = .ok u W') :
  (execOp ev o).run P W' = .ok (.value u) W' := by
 simp [execOp,ho,h1,h2,Result.andThen]
theorem eqGo_ok {n d:Nat} (ih:∀ (t:Nat) (x y:AV) (u v:Value) (r:Bool),RAV E true x u → RAV E true y v → eqV std T n t x y = some r → ∀ W,(Op.equalIn d t u v).run P W = .ok r W) {cs ds:List AV} {us vs:List Value}
  (hcl:cs.length = us.length) (hdl:ds.length = vs.length) (hc1:∀ x ∈ us,x.oneCell' = true) (hd1:∀ x ∈ vs,x.oneCell' = true)
  (hcr:∀ (i:Nat) (c:AV) (u:Value),cs[i]? = some c → us[i]? = some u → RAV E true c u) (hdr:∀ (i:Nat) (c:AV) (u:Value),ds[i]? = some c → vs[i]? = some u → RAV E true c u) :
  ∀ (l:List Field) (fs:List (Nat × Nat × Bool)) (tys:List Nat) (r:Bool),fs.length = l.length → tys.length = l.length →
   (∀ (i:Nat) (f:Field) (x:Nat × Nat × Bool),l[i]? = some f → fs[i]? = some x → f.offset = x.1 ∧ (P.info? f.type).map (·.size) = some x.2.1 ∧ (∀ W,(isAgg f.type).run P W = .ok x.2.2 W) ∧ (x.2.2 = false → x.2.1 = 1)) →
   (∀ (i:Nat) (f:Field) (ty:Nat),l[i]? = some f → tys[i]? = some ty → f.type = ty ∧ f.name ≠ "_") → eqV.go std T n fs tys cs ds = some r → ∀ W,(Op.eqFields d us.toArray vs.toArray l).run P W = .ok r W
 | [],fs,tys,r,h1,h2,_,_,h,W=>by
  have e1:fs = []:=List.eq_nil_of_length_eq_zero h1
  subst e1
  simp [eqV.go] at h
 | f :: l,[],tys,r,h1,h2,_,_,h,W=>by simp at h1
 | f :: l,_ :: _,[],r,h1,h2,_,_,h,W=>by simp at h2
 | f :: l,(off,size,agg) :: fs,t :: tys,r,h1,h2,hf,ht,h,W=>by
  obtain ⟨ho,hs,ha,hone⟩:=hf 0 f (off,size,agg) rfl rfl
  obtain ⟨hty,hnm⟩:=ht 0 f t rfl rfl
  subst hty
  simp only at ho hs ha hone
  have step:∀ (b:Bool),off + size ≤ cs.length ∧ off + size ≤ ds.length → eqV std T n f.type (mkA agg ((cs.drop off).take size)) (mkA agg ((ds.drop off).take size)) = some b →
    (Op.eqFields d us.toArray vs.toArray (f :: l)).run P W = if b = false then .ok false W else (Op.eqFields d us.toArray vs.toArray l).run P W:=by
   intro b hle hb
   obtain ⟨u1,hu1,hp1⟩:=part_ok ha hs hone hcl hle.1 hc1 hcr
   obtain ⟨v1,hv1,hp2⟩:=part_ok ha hs hone hdl hle.2 hd1 hdr
   have:=ih f.type _ _ u1 v1 b hu1 hv1 hb W
   simp only [Op.eqFields,if_pos hnm,Sem.run_bind,ho,hp1,hp2,this,Result.andThen_ok]
   cases b <;> simp
  cases l with
  | nil =>
   have e1:fs = []:=List.eq_nil_of_length_eq_zero (by simpa using h1)
   have e2:tys = []:=List.eq_nil_of_length_eq_zero (by simpa using h2)
   subst e1; subst e2
   simp only [eqV.go] at h
   split at h
   ·rename_i hle
    rw [step r hle h]
    cases r <;> simp [Op.eqFields]
   ·cases h
  | cons f' l =>
   cases fs with
   | nil=>simp at h1
   | cons x' fs =>
    cases tys with
    | nil=>simp at h2
    | cons t' tys =>
     simp only [eqV.go] at h
     split at h
     ·rename_i hle
      split at h
      ·rename_i a b hea heb
       cases h
       rw [step a hle hea]
       have:=eqGo_ok ih hcl hdl hc1 hd1 hcr hdr (f' :: l) (x' :: fs) (t' :: tys) b (by simpa using h1) (by simpa using h2) (fun i g x h3 h4=>hf (i + 1) g x (by simpa using h3) (by simpa using h4))
        (fun i g x h3 h4=>ht (i + 1) g x (by simpa using h3) (by simpa using h4)) heb W
       rw [this]
       cases a <;> simp [std]
      ·cases h
     ·cases h
theorem eqV_ok (hT:TabOK P T):∀ (n d:Nat),n ≤ d → ∀ (t:Nat) (x y:AV) (u v:Value) (r:Bool),RAV E true x u → RAV E true y v → eqV std T n t x y = some r → ∀ W,(Op.equalIn d t u v).run P W = .ok r W:=by
 intro n
 induction n with
 | zero=>intro d _ t x y u v r _ _ h; simp [eqV] at h
 | succ n ih =>
  intro d hd t x y u v r hx hy h W
  obtain ⟨d,rfl⟩:∃ d', d = d' + 1:=⟨d - 1,by omega⟩
  have ih' := ih d (by omega)
  unfold eqV at h
  split at h
  ·rename_i k0 _ _ _ hi
   have hk:=(hT _ _ hi).kind
   simp only [KindOK] at hk
   split at h
   ·rename_i k a k' b
    have e1:=hx.vInv; have e2:=hy.vInv
    subst e1; subst e2
    split at h
    ·rename_i hkk; subst hkk; cases h
     rw [run_equalIn_int W d t k k0 a b hk]; rfl
    ·cases h
   ·cases h
  ·rename_i hi
   have hk:=(hT _ _ hi).kind
   simp only [KindOK] at hk
   split at h
   ·have e1:=hx.vInv; have e2:=hy.vInv
    subst e1; subst e2; cases h
    rw [run_equalIn_string W d t _ _ hk]; rfl
   ·cases h
  ·rename_i hi
   have hk:=(hT _ _ hi).kind
   simp only [KindOK] at hk
   split at h
   ·rename_i a b ha hb
    have e1:=asB_val hx ha; have e2:=asB_val hy hb
    subst e1; subst e2; cases h
    rw [run_equalIn_bool' W d t _ _ hk]; rfl
   ·cases h
  ·rename_i fs tys _ _ _ hi
   have hk:=(hT _ _ hi).kind
   obtain ⟨fields,hu,hlen,hfs,heq⟩:=hk
   obtain ⟨q1,q2,q3,q4⟩:=heq tys rfl
   split at h
   ·rename_i cs ds
    cases hx with
    | a _ _ us hcl hc1 hcr =>
    cases hy with
    | a _ _ vs hdl hd1 hdr =>
    have hfo:P.fieldsOf t = fields:=by simp [Program.fieldsOf,hu]
    rw [run_equalIn_struct W d t _ _ (by rw [hfo]; exact hu) q1,hfo]
    exact eqGo_ok ih' hcl hdl hc1 hd1 hcr hdr fields.toList fs tys r (by simpa using hlen) (by simpa using q3) (fun i f x h1 h2=>hfs i f x (by simpa using h1) h2) (fun i f x h1 h2=>q4 i f x (by simpa using h1) h2) h W
   ·cases h
  ·cases h
theorem eqPtr_nil (d:Nat) {t e:Nat} (h:P.underlying t = some (.pointer e)) (a:Option Addr) (W:World):(Op.equalIn (d + 1) t (.pointer none) (.pointer a)).run P W = .ok a.isNone W:=by
 simp [Op.equalIn,run_underlying h]
theorem eqPtr_some (d:Nat) {t e:Nat} (h:P.underlying t = some (.pointer e)) (a:Addr) (W:World):(Op.equalIn (d + 1) t (.pointer (some a)) (.pointer none)).run P W = .ok false W:=by
 simp [Op.equalIn,run_underlying h]
theorem eqPtr_same (d:Nat) {t e n:Nat} (h:P.underlying t = some (.pointer e)) (hs:∀ W,(sizeOf e).run P W = .ok n W) (hn:n ≠ 0) (b o o' : Nat) (W:World):(Op.equalIn (d + 1) t (.pointer (some ⟨b,o,none⟩)) (.pointer (some ⟨b,o', none⟩))).run P W = .ok (decide (o = o')) W:=by
 have:(({ block:=b,off:=o }:Addr) == { block:=b,off:=o' }) = decide (o = o'):=by
  by_cases h:o = o'
  ·subst h; simp
  ·simp [h]
 simp [Op.equalIn,run_underlying h,hs,hn,sameAddr,Result.andThen,this]
theorem eqP_ok (hT:TabOK P T) {t:Nat} {x y:AV} {u v:Value} {r:Bool} (hx:RAV E true x u) (hy:RAV E true y v) (h:eqP T t x y = some r) :
  (∃ p q,u = .pointer p ∧ v = .pointer q) ∧ ∀ W,(Op.equal t u v).run P W = .ok r W:=by
 unfold eqP at h
 split at h
 ·rename_i e _ _ _ hi
  have hk:=(hT _ _ hi).kind
  simp only [KindOK] at hk
  have hn:∀ a:Option Addr,∀ W,(Op.equal t (.pointer none) (.pointer a)).run P W = .ok a.isNone W:=fun a W=>eqPtr_nil 9999 hk a W
  have hs:∀ (a:Addr),∀ W,(Op.equal t (.pointer (some a)) (.pointer none)).run P W = .ok false W:=fun a W=>eqPtr_some 9999 hk a W
  split at h
  ·have e1:=hx.vInv; have e2:=hy.vInv
   subst e1; subst e2; cases h
   exact ⟨⟨_,_,rfl,rfl⟩,hn none⟩
  ·have e1:=hx.pInv; have e2:=hy.vInv
   subst e1; subst e2; cases h
   exact ⟨⟨_,_,rfl,rfl⟩,hs _⟩
  ·have e1:=hx.qInv; have e2:=hy.vInv
   subst e1; subst e2; cases h
   exact ⟨⟨_,_,rfl,rfl⟩,hs _⟩
  ·have e2:=hy.vInv
   subst e2; cases h; cases hx
   exact ⟨⟨_,_,rfl,rfl⟩,hs _⟩
  ·have e1:=hx.vInv; have e2:=hy.pInv
   subst e1; subst e2; cases h
   exact ⟨⟨_,_,rfl,rfl⟩,hn _⟩
  ·have e1:=hx.vInv; have e2:=hy.qInv
   subst e1; subst e2; cases h
   exact ⟨⟨_,_,rfl,rfl⟩,hn _⟩
  ·have e1:=hx.vInv
   subst e1; cases h; cases hy
   exact ⟨⟨_,_,rfl,rfl⟩,hn _⟩
  ·rename_i k o k' o'
   split at h
   ·rename_i hkk
    subst hkk
    split at h
    ·rename_i i hie
     split at h
     ·rename_i hsz
      cases h
      have e1:=hx.pInv; have e2:=hy.pInv
      subst e1; subst e2
      exact ⟨⟨_,_,rfl,rfl⟩,fun W=>eqPtr_same 9999 hk (fun W=>sizeOf_ok (hT _ _ hie) W) hsz _ _ _ W⟩
     ·cases h
    ·cases h
   ·cases h
  ·cases h
 ·cases h
theorem eqA_ok (hA:A = std) (hT:TabOK P T) {op:BinOp} {t t' : Nat} {x y:Operand} {a b:AV} (ho:o.op = .binOp op t x y t') (hx:RAV E true a (ev x)) (hy:RAV E true b (ev y)):RROK P E σ.own W ev o (eqA A T op t a b):=by
 generalize hex:ev x = ux at hx
 generalize hey:ev y = uy at hy
 subst hA
 have hgp:∀ (p q:Option Addr),ux = .pointer p → uy = .pointer q → ∀ W', (eqGuard op t x y (ev x) (ev y)).run P W' = .ok () W' := fun p q e1 e2 W' => by
  rw [hex,hey,e1,e2]; unfold eqGuard; split <;> simp
 have hga:∀ cs ds r,a = .a cs → b = .a ds → eqV std T 20 t (.a cs) (.a ds) = some r → (∃ us vs,ux = .agg us ∧ uy = .agg vs) ∧ P.eqGuardType P.depth t = false:=fun cs ds r e1 e2 h=>by
  subst e1; subst e2
  refine ⟨by cases hx; cases hy; exact ⟨_,_,rfl,rfl⟩,?_⟩
  unfold eqV at h
  split at h
  ·cases h
  ·cases h
  ·cases h
  ·rename_i hi
   obtain ⟨_,_,_,_,heq⟩:=(hT _ _ hi).kind
   exact (heq _ rfl).2.1
  ·cases h
 unfold eqA
 split
 ·split
  ·rename_i r h
   obtain ⟨⟨p,q,e1,e2⟩,hr⟩:=eqP_ok hT hx hy h
   refine ⟨_,.v _ _ rfl,fun W' _=>exec_bin ho (hgp p q e1 e2 W') ?_⟩
   rw [hex,hey]; subst e1; subst e2
   simp [binOp,hr,Result.andThen]
  ·split
   ·rename_i cs ds _
    split
    ·rename_i r h
     obtain ⟨⟨us,vs,e1,e2⟩,hg⟩:=hga cs ds r rfl rfl h
     have:=eqV_ok hT 20 10000 (by omega) t _ _ ux uy r hx hy h
     refine ⟨_,.b _ _,fun W' _=>exec_bin ho (by rw [hex,hey,e1,e2]; exact run_eqGuard_agg W' _ _ _ _ _ _ hg) ?_⟩
     rw [hex,hey]; subst e1; subst e2
     rw [run_eql_struct,this]; rfl
    ·trivial
   ·trivial
 ·split
  ·rename_i r h
   obtain ⟨⟨p,q,e1,e2⟩,hr⟩:=eqP_ok hT hx hy h
   refine ⟨_,.v _ _ rfl,fun W' _=>exec_bin ho (hgp p q e1 e2 W') ?_⟩
   rw [hex,hey]; subst e1; subst e2
   simp [binOp,hr,Result.andThen]
  ·split
   ·rename_i cs ds _
    split
    ·rename_i r h
     obtain ⟨⟨us,vs,e1,e2⟩,hg⟩:=hga cs ds r rfl rfl h
     have:=eqV_ok hT 20 10000 (by omega) t _ _ ux uy r hx hy h
     refine ⟨_,.b _ _,fun W' _=>exec_bin ho (by rw [hex,hey,e1,e2]; exact run_eqGuard_agg W' _ _ _ _ _ _ hg) ?_⟩
     rw [hex,hey]; subst e1; subst e2
     rw [run_neq_struct,this]; rfl
    ·trivial
   ·trivial
 ·trivial
theorem binA_ok (hA : A = std) (hT : TabOK P T) {op : BinOp} {t t' : Nat} {x y : Operand} {a b : AV} (ho : o.op = .binOp op t x y t') (hx : RAV E true a (ev x)) (hy : RAV E true b (ev y)) : RROK P E σ.own W ev o (binA A T op t a b) := by
  generalize hex : ev x = ux at hx
  generalize hey : ev y = uy at hy
  subst hA
  unfold binA
  split
  · rename_i k a k' b
    have e1 := hx.vInv
    have e2 := hy.vInv
    subst e1; subst e2
    have hg : ∀ W', (eqGuard op t x y (ev x) (ev y)).run P W' = .ok () W' := fun W' => by
      rw [hex, hey]; unfold eqGuard; split <;> simp
    split
    · intro h
      refine ⟨_, .v _ _ rfl, fun W' _ => exec_bin ho (hg W') ?_⟩
      rw [hex, hey]
      have : ¬ b < 0 := by omega
      simp [binOp, Op.shift, this, std, binI]
    · intro h
      refine ⟨_, .v _ _ rfl, fun W' _ => exec_bin ho (hg W') ?_⟩
      rw [hex, hey]
      have : ¬ b < 0 := by omega
      simp [binOp, Op.shift, this, std, binI]
    · rename_i hs1 hs2
      split
      · rename_i hkk
        subst hkk
        split
        all_goals first
          | trivial
          | (refine ⟨_, .v _ _ rfl, fun W' _ => exec_bin ho (hg W') ?_⟩
             rw [hex, hey]
             simp [binOp, Op.intArith, Op.intBits, Op.intCmp, std, binI, bitsI, cmpI]; done)
          | (refine ⟨_, .b _ _, fun W' _ => exec_bin ho (hg W') ?_⟩
             rw [hex, hey]
             simp [binOp, Op.intArith, Op.intBits, Op.intCmp, std, binI, bitsI, cmpI]; done)
          | (intro hb
             refine ⟨_, .v _ _ rfl, fun W' _ => exec_bin ho (hg W') ?_⟩
             rw [hex, hey]
             simp [binOp, Op.intDiv, hb, std, binI]; done)
      · trivial
  · rename_i a b
    have e1 := hx.vInv
    have e2 := hy.vInv
    subst e1; subst e2
    have hg : ∀ W', (eqGuard op t x y (ev x) (ev y)).run P W' = .ok () W' := fun W' => by
      rw [hex, hey]; unfold eqGuard; split <;> simp
    split
    · rintro ⟨h⟩
      refine ⟨_, .v _ _ rfl, fun W' _ => exec_bin ho (hg W') ?_⟩
      rw [hex, hey]
      have h' : ¬ (((a.size + b.size : Nat) : Int) > IntKind.i64.max) := by
        have : IntKind.i64.max = 9223372036854775807 := rfl
        simp only [std] at h
        omega
      simp only [binOp, Op.stringOp]
      rw [if_neg h']
      rfl
    all_goals first
      | trivial
      | (refine ⟨_, .b _ _, fun W' _ => exec_bin ho (hg W') ?_⟩
         rw [hex, hey]
         simp [binOp, Op.stringOp, std, cmpS]; done)
  · split
    · rename_i a b ha hb
      have e1 := asB_val hx ha
      have e2 := asB_val hy hb
      subst e1; subst e2
      have hg : ∀ W', (eqGuard op t x y (ev x) (ev y)).run P W' = .ok () W' := fun W' => by
        rw [hex, hey]; unfold eqGuard; split <;> simp
      split
      · rename_i hi
        have hu := (hT _ _ hi).kind
        simp only [KindOK] at hu
        have he : ∀ W', (Op.equal t (.bool a) (.bool b)).run P W' = .ok (a == b) W' := fun W' => run_equal_bool W' t a b hu
        split
        · refine ⟨_, .b _ _, fun W' _ => exec_bin ho (hg W') ?_⟩
          rw [hex, hey]
          simp [binOp, he, Result.andThen, std]
        · refine ⟨_, .b _ _, fun W' _ => exec_bin ho (hg W') ?_⟩
          rw [hex, hey]
          simp [binOp, he, Result.andThen, std, bne]
        · trivial
      · trivial
    · exact eqA_ok rfl hT ho (hex ▸ hx) (hey ▸ hy)
theorem unA_ok (hA:A = std) {op:UnOp} {t:Nat} {x:Operand} {a:AV} (ho:o.op = .unOp op t x) (hx:RAV E true a (ev x)):RROK P E σ.own W ev o (unA A op a):=by
 generalize hex:ev x = ux at hx
 subst hA
 unfold unA
 split
 ·have e1:=hx.vInv; subst e1
  exact ⟨_,.v _ _ rfl,fun W' _=>by simp [execOp,ho,hex,Op.unary,Result.andThen,std]⟩
 ·have e1:=hx.vInv; subst e1
  exact ⟨_,.v _ _ rfl,fun W' _=>by simp [execOp,ho,hex,Op.unary,Result.andThen,std]⟩
 ·have e1:=hx.bInv; subst e1
  exact ⟨_,.b _ _,fun W' _=>by simp [execOp,ho,hex,Op.unary,Result.andThen,std]⟩
 ·have e1:=hx.vInv; subst e1
  exact ⟨_,.v _ _ rfl,fun W' _=>by simp [execOp,ho,hex,Op.unary,Op.intArith,Result.andThen,std]⟩
 ·have e1:=hx.vInv; subst e1
  exact ⟨_,.v _ _ rfl,fun W' _=>by simp [execOp,ho,hex,Op.unary,Op.intBits,Result.andThen,std,bitsI]⟩
 ·trivial
theorem exec_len {x:Operand} {t:Nat} {args:Array Operand} {tys:Array TypeId} (ho:o.op = .call ⟨.builtin .len,args,tys⟩) (ha:args.toList = [x]) (ht:tys.toList = [t]) {W' : World} {u:Value}
  (h:∀ ty,(Builtin.len_ #[t] ty #[ev x]).run P W' = .ok u W'):(execOp ev o).run P W' = .ok (.value u) W' := by
 have ha' : args = #[x]:=by rw [← Array.toArray_toList (xs:=args),ha]
 have ht' : tys = #[t]:=by rw [← Array.toArray_toList (xs:=tys),ht]
 subst ha'; subst ht'
 simp [execOp,ho,resolve,invoke,builtin,h,Result.andThen]
theorem Mem.row (hm:Mem W0 mine kn E σ.own W) {k sz:Nat} {es:List (List AV)} (hk:rowOf σ k = some (sz,es)):∃ ety,σ.own[k]? = some (.row ety sz es) ∧ OBOK E k W (.row ety sz es):=by
 unfold rowOf at hk
 split at hk
 ·rename_i ety sz es' hk'
  simp only [Option.some.injEq,Prod.mk.injEq] at hk
  obtain ⟨rfl,rfl⟩:=hk
  exact ⟨ety,hk', hm.owns k _ hk'⟩
 ·cases hk
theorem OBOK.rowVal {k ety sz:Nat} {es:List (List AV)} (h:OBOK E k W (.row ety sz es)):∃ a c,E.row k = .slice a es.length c:=by
 obtain ⟨xs,h⟩:=h
 rcases h.shape with ⟨h2,h3⟩|⟨cap,vals,h2,_⟩
 ·subst h3; exact ⟨_,_,h2⟩
 ·exact ⟨_,_,h2⟩
theorem lVal {m:Bool} {sz:Nat} {es:List (List AV)} {u:Value} (h:RAV E m (.l sz es) u):∃ a c,u = .slice a es.length c:=by
 cases h <;> exact ⟨_,_,rfl⟩
theorem lenA_ok (hA:A = std) (hT:TabOK P T) (hm:Mem W0 mine kn E σ.own W) {x:Operand} {t:Nat} {args:Array Operand} {tys:Array TypeId} {a:AV} (ho:o.op = .call ⟨.builtin .len,args,tys⟩)
  (ha:args.toList = [x]) (ht:tys.toList = [t]) (hx:RAV E true a (ev x)):RROK P E σ.own W ev o (lenA A T σ t a):=by
 generalize hex:ev x = ux at hx
 subst hA
 unfold lenA
 split
 ·rename_i _ _ _ s hi
  have hu:=(hT _ _ hi).kind
  simp only [KindOK] at hu
  have e1:=hx.vInv; subst e1
  exact ⟨_,.v _ _ rfl,fun W' _=>exec_len ho ha ht fun ty=>by simp [Builtin.len_,hex,underlying,hu,Result.andThen,goInt,std]⟩
 ·rename_i e _ _ _ sz es hi
  have hu:=(hT _ _ hi).kind
  simp only [KindOK] at hu
  obtain ⟨b,c,rfl⟩:=lVal hx
  exact ⟨_,.v _ _ rfl,fun W' _=>exec_len ho ha ht fun ty=>by simp [Builtin.len_,hex,underlying,hu,Result.andThen,goInt,std]⟩
 ·rename_i e _ _ _ k hi
  have hu:=(hT _ _ hi).kind
  simp only [KindOK] at hu
  split
  ·rename_i sz es hk
   obtain ⟨ety,hk', hob⟩:=hm.row hk
   obtain ⟨b,c,hr⟩:=hob.rowVal
   have e1:=hx.rInv; rw [hr] at e1; subst e1
   exact ⟨_,.v _ _ rfl,fun W' _=>exec_len ho ha ht fun ty=>by simp [Builtin.len_,hex,underlying,hu,Result.andThen,goInt,std]⟩
  ·trivial
 ·rename_i e _ _ _ hi
  have hu:=(hT _ _ hi).kind
  simp only [KindOK] at hu
  have e1:=hx.vInv; subst e1
  exact ⟨_,.v _ _ rfl,fun W' _=>exec_len ho ha ht fun ty=>by simp [Builtin.len_,hex,underlying,hu,Result.andThen,goInt]⟩
 ·rename_i e _ _ _ _ _ _ n hi
  have hu:=(hT _ _ hi).kind
  simp only [KindOK] at hu
  obtain ⟨ad,c,e1⟩:∃ ad c,ux = .slice ad n c:=by cases hx <;> exact ⟨_,_,rfl⟩
  subst e1
  exact ⟨_,.v _ _ rfl,fun W' _=>exec_len ho ha ht fun ty=>by simp [Builtin.len_,hex,underlying,hu,Result.andThen,goInt]⟩
 ·trivial
theorem isSlice_ok (hT:TabOK P T) {t sz:Nat} (h:isSlice T t = some sz):∃ e,P.underlying t = some (.slice e) ∧ ∀ W,(sizeOf e).run P W = .ok sz W:=by
 unfold isSlice at h
 split at h
 ·rename_i e _ _ _ hi
  have hu:=(hT _ _ hi).kind
  simp only [KindOK] at hu
  cases he:look T e with
  | none=>rw [he] at h; cases h
  | some i =>
   rw [he] at h
   simp at h
   subst h
   exact ⟨e,hu,fun W=>sizeOf_ok (hT _ _ he) W⟩
 ·cases h
theorem exec_indexAddr {t sz n c b off i:Nat} {k:IntKind} {x y:Operand} {e:Nat} (ho:o.op = .indexAddr t x y) (hu:P.underlying t = some (.slice e)) (hs:∀ W,(sizeOf e).run P W = .ok sz W)
  (hx:ev x = .slice (some ⟨b,off,none⟩) n c) (hy:ev y = .int k i) (hi:i < n) (W' : World):(execOp ev o).run P W' = .ok (.value (.pointer (some ⟨b,off + i * sz,none⟩))) W' := by
 have h1:(0:Int) ≤ (i:Int) ∧ (i:Int) < (n:Int):=by omega
 simp [execOp,ho,hx,hy,Instr.indexAt,asIntOf,underlying,hu,Result.andThen,hs,hi,Addr.add_lit]
theorem indexAddrA_ok (hT:TabOK P T) (hm:Mem W0 mine kn E σ.own W) {t:Nat} {x y:Operand} {a b:AV} (ho:o.op = .indexAddr t x y) (hx:RAV E true a (ev x)) (hy:RAV E true b (ev y)) :
  RROK P E σ.own W ev o (indexAddrA T σ t a b):=by
 generalize hex:ev x = ux at hx
 generalize hey:ev y = uy at hy
 unfold indexAddrA
 split
 ·rename_i sz k n hsl
  obtain ⟨e,hu,hs⟩:=isSlice_ok hT hsl
  have e2:=hy.vInv; subst e2
  split
  ·rename_i sz' es
   split
   ·rename_i hsz; subst hsz
    intro i cells hc hn
    have hi:=(List.getElem?_eq_some_iff.1 hc).1
    cases hx with
    | lnil=>simp at hc
    | lzero=>simp at hc
    | l _ _ _ b off c vals ty fr hb hes hl hcc hcm h1 he =>
     subst hn
     have hcl:=list_flat_get hes hc
     have hmul:i * sz + sz ≤ es.length * sz:=by
      have:(i + 1) * sz ≤ es.length * sz:=Nat.mul_le_mul_right _ (by omega)
      rw [Nat.add_mul] at this; omega
     refine ⟨_,.ip true cells b (off + i * sz) vals ty fr hb (by omega) ?_ ?_,fun W' _=>exec_indexAddr ho hu hs hex hey hi W'⟩
     ·intro j u hj hu'
      exact h1 (i * sz + j) u (by omega) (by rw [← hu']; congr 1; omega)
     ·intro j x u hj hu'
      exact he i j cells x u hc hj hu'
   ·trivial
  ·rename_i k'
   split
   ·rename_i sz' es hk
    split
    ·rename_i hsz; subst hsz
     intro i cells hc hn
     have hi:=(List.getElem?_eq_some_iff.1 hc).1
     obtain ⟨ety,hk', hob⟩:=hm.row hk
     have e1:=hx.rInv; subst e1
     obtain ⟨xs,hrk⟩:=hob
     rcases hrk.shape with ⟨_,hnil⟩|⟨cap,vals,hrow,_⟩
     ·subst hnil; simp at hc
     ·subst hn
      exact ⟨_,.q k' sz i 0,fun W' _=>by rw [exec_indexAddr ho hu hs (hex.trans hrow) hey hi W']; simp⟩
    ·trivial
   ·trivial
  ·rename_i k' sz' lo m
   split
   ·rename_i hsz; subst hsz
    intro i j hn hi hj
    subst hn
    cases hx with
    | w _ _ _ _ c hnc hm =>
     refine ⟨_,.q k' sz j 0,fun W' _=>?_⟩
     rw [exec_indexAddr ho hu hs hex hey hi W', hj,Nat.add_mul]; rfl
    | w0=>omega
   ·trivial
  ·trivial
 ·rename_i k z _
  have e2:=hy.vInv; subst e2
  split
  ·rename_i n e _ _ _ hlk
   have hu:=(hT _ _ hlk).kind
   simp only [KindOK] at hu
   split
   ·rename_i k' off
    split
    ·rename_i ie hie
     intro i hz hi
     subst hz
     have e1:=hx.pInv; subst e1
     have hs:∀ W,(sizeOf e).run P W = .ok ie.size W:=fun W=>sizeOf_ok (hT _ _ hie) W
     refine ⟨_,.p k' (off + i * ie.size),fun W' _=>?_⟩
     have h1:(0:Int) ≤ (i:Int) ∧ (i:Int) < (n:Int):=by omega
     simp [execOp,ho,hex,hey,Instr.indexAt,asIntOf,underlying,hu,Result.andThen,hs,hi,Instr.sureAddr,Addr.add_lit]
    ·trivial
   ·trivial
  ·trivial
 ·trivial
theorem indexA_ok (hA:A = std) (hT:TabOK P T) {t:Nat} {x y:Operand} {a b:AV} (ho:o.op = .index t x y) (hx:RAV E true a (ev x)) (hy:RAV E true b (ev y)) :
  RROK P E σ.own W ev o (indexA A T t a b):=by
 generalize hex:ev x = ux at hx
 generalize hey:ev y = uy at hy
 subst hA
 unfold indexA
 split
 ·rename_i _ _ _ s k n hi
  have hu:=(hT _ _ hi).kind
  simp only [KindOK] at hu
  have e1:=hx.vInv; subst e1
  have e2:=hy.vInv; subst e2
  rintro ⟨h0,h1⟩
  simp only [std] at h1
  have hlt:n.toNat < s.size:=by omega
  refine ⟨_,.v _ _ rfl,fun W' _=>?_⟩
  have hget:s[n.toNat]? = some s[n.toNat]:=getElem?_pos s n.toNat hlt
  have hb:bAt s n = (s[n.toNat].toNat:Int):=by
   unfold bAt
   have:s.data.toList[n.toNat]? = some s[n.toNat]:=by
    rw [List.getElem?_eq_getElem (by simpa using hlt)]; rfl
   rw [this]; rfl
  simp [execOp,ho,hex,hey,Instr.index,asIntOf,underlying,hu,Result.andThen,h0,hget,std,hb]
 ·trivial
theorem sliceBounds_ok {isS:Bool} {len cap:Nat} (hlc:len ≤ cap) {lo hi:Option Value} {l h:Nat} (hlo:(lo = none ∧ l = 0) ∨ ∃ k,lo = some (.int k l)) (hhi:(hi = none ∧ h = len) ∨ ∃ k,hi = some (.int k h)) (hlh:l ≤ h) (hhl:h ≤ cap) (W:World) :
  (Instr.sliceBounds isS len cap lo hi none).run P W = .ok (l,h,cap) W:=by
 have e1:(l:Int) ≤ (h:Int):=by omega
 have e2:(h:Int) ≤ (cap:Int):=by omega
 rcases hlo with ⟨rfl,rfl⟩|⟨k,rfl⟩ <;> rcases hhi with ⟨rfl,rfl⟩|⟨k', rfl⟩ <;> simp [Instr.sliceBounds,Instr.sliceBound,asIntOf,Result.andThen,hlh,hhl]
theorem l_sub {m:Bool} {sz:Nat} {es:List (List AV)} {a:Option Addr} {c lo hi:Nat} (h:RAV E m (.l sz es) (.slice a es.length c)) (h1:lo ≤ hi) (h2:hi ≤ es.length) :
  es.length ≤ c ∧ RAV E m (.l sz ((es.take hi).drop lo)) (.slice (if c = lo then a else a.map (·.add (lo * sz))) (hi - lo) (c - lo)):=by
 generalize hn:es.length = n at h h2
 have hz:hi - lo = ((es.take hi).drop lo).length:=by simp; omega
 cases h with
 | lnil =>
  have:hi = 0:=by omega
  subst this
  have:lo = 0:=by omega
  subst this
  exact ⟨Nat.zero_le _,.lnil _ _⟩
 | lzero _ _ a c hm =>
  have:hi = 0:=by omega
  subst this
  have:lo = 0:=by omega
  subst this
  refine ⟨Nat.zero_le _,?_⟩
  simp only [List.take_zero,List.drop_zero,Nat.sub_zero]
  split
  ·exact .lzero _ _ _ _ hm
  ·exact .lzero _ _ _ _ hm
 | l _ _ _ b off c vals ty fr hb hes hl hcc hcm h1' he =>
  refine ⟨hcc,?_⟩
  by_cases hlh:lo = hi
  ·subst hlh
   have:(es.take lo).drop lo = []:=by simp
   rw [this,Nat.sub_self]
   split
   ·exact .lzero _ _ _ _ (by omega)
   ·exact .lzero _ _ _ _ (by omega)
  ·have hcl:c ≠ lo:=by omega
   rw [if_neg hcl]
   simp only [Option.map_some,Addr.add_lit]
   rw [hz]
   have hm1:(hi - lo) * sz + lo * sz ≤ es.length * sz:=by rw [← Nat.add_mul]; exact Nat.mul_le_mul_right _ (by omega)
   rw [hz] at hm1
   refine .l m sz _ b (off + lo * sz) (c - lo) vals ty fr hb (fun e he=>hes e (List.mem_of_mem_take (List.mem_of_mem_drop he))) (by omega) (by omega) (by omega) ?_ ?_
   ·intro i u hi' hu
    exact h1' (lo * sz + i) u (by omega) (by rw [← hu]; congr 1; omega)
   ·intro i j e x u hie hj hu
    have hi' : i < ((es.take hi).drop lo).length:=(List.getElem?_eq_some_iff.1 hie).1
    rw [List.getElem?_drop,List.getElem?_take_of_lt (by omega)] at hie
    refine he (lo + i) j e x u hie hj ?_
    rw [← hu,Nat.add_mul]; congr 1; omega
theorem exec_slice {t:Nat} {x:Operand} {lo hi:Option Operand} (ho:o.op = .slice t x lo hi none) {W' : World} {u:Value} (hna:∀ n e,P.underlying t ≠ some (.array n e)) {d:TypeDesc} (hd:P.underlying t = some d)
  (h:(Instr.slice t (ev x) (lo.map ev) (hi.map ev) none).run P W' = .ok u W'):(execOp ev o).run P W' = .ok (.value u) W' := by
 have:(Instr.sliceAt t (ev x) (lo.map ev) (hi.map ev) none).run P W' = .ok u W' := by
  cases d with
  | array n e=>exact absurd hd (hna n e)
  | _=>simp [Instr.sliceAt,underlying,hd,Result.andThen,h]
 simp [execOp,ho,this,Result.andThen]
theorem sliceRun_ok {lo hi:Option AV} {ulo uhi:Option Value} (hlo:∀ a,lo = some a → ∃ u,ulo = some u ∧ RAV E true a u) (hlo' : lo = none → ulo = none) (hhi:∀ a,hi = some a → ∃ u,uhi = some u ∧ RAV E true a u) (hhi' : hi = none → uhi = none)
  {len:Nat} {f:Int → Int → AV} (h:∀ l r:Nat,l ≤ r → r ≤ len → ((ulo = none ∧ l = 0) ∨ ∃ k,ulo = some (.int k l)) → ((uhi = none ∧ r = len) ∨ ∃ k,uhi = some (.int k r)) → Reads P E own W ev o (f l r)) :
  RROK P E own W ev o (bndA lo hi len f):=by
 unfold bndA
 split
 ·exact h 0 len (Nat.zero_le _) (Nat.le_refl _) (.inl ⟨hlo' rfl,rfl⟩) (.inl ⟨hhi' rfl,rfl⟩)
 ·rename_i k l
  rintro ⟨h0,h1⟩
  obtain ⟨u,hu,hr⟩:=hlo _ rfl
  have:=hr.vInv; subst this
  obtain ⟨n,rfl⟩:=Int.eq_ofNat_of_zero_le h0
  exact h n len (by omega) (Nat.le_refl _) (.inr ⟨k,hu⟩) (.inl ⟨hhi' rfl,rfl⟩)
 ·rename_i k r
  rintro ⟨h0,h1⟩
  obtain ⟨u,hu,hr⟩:=hhi _ rfl
  have:=hr.vInv; subst this
  obtain ⟨n,rfl⟩:=Int.eq_ofNat_of_zero_le h0
  exact h 0 n (Nat.zero_le _) (by omega) (.inl ⟨hlo' rfl,rfl⟩) (.inr ⟨k,hu⟩)
 ·rename_i k l k' r
  rintro ⟨h0,h1,h2⟩
  obtain ⟨u,hu,hr⟩:=hlo _ rfl
  have:=hr.vInv; subst this
  obtain ⟨u', hu', hr'⟩:=hhi _ rfl
  have:=hr'.vInv; subst this
  obtain ⟨n,rfl⟩:=Int.eq_ofNat_of_zero_le h0
  obtain ⟨n', rfl⟩:=Int.eq_ofNat_of_zero_le (Int.le_trans h0 h1)
  exact h n n' (by omega) (by omega) (.inr ⟨k,hu⟩) (.inr ⟨k', hu'⟩)
 ·trivial
theorem OBOK.rowW {k ety sz:Nat} {es:List (List AV)} (h:OBOK E k W (.row ety sz es)):∃ ad c,E.row k = .slice ad es.length c ∧ RAV E true (.w k sz 0 es.length) (.slice ad es.length c):=by
 obtain ⟨xs,h⟩:=h
 rcases h.shape with ⟨h2,h3⟩|⟨cap,vals,h2,_,h4,h5,_⟩
 ·subst h3; exact ⟨_,_,h2,.w0 _ _ _ _ _ (Nat.zero_le _)⟩
 ·exact ⟨_,_,h2,by simpa using RAV.w (E:=E) k sz 0 es.length cap h4 h5⟩
theorem w_cut {k sz lo n a m c:Nat} {ad:Option Addr} (h:RAV E true (.w k sz lo n) (.slice ad n c)) (h1:a + m ≤ n) :
  n ≤ c ∧ RAV E true (.w k sz (lo + a) m) (.slice (if c = a then ad else ad.map (·.add (a * sz))) m (c - a)):=by
 cases h with
 | w _ _ _ _ _ hn hm =>
  refine ⟨hn,?_⟩
  by_cases hz:m = 0
  ·subst hz; exact .w0 _ _ _ _ _ (by omega)
  ·rw [if_neg (by omega)]
   simp only [Option.map_some,Addr.add_lit]
   rw [← Nat.add_mul]
   exact .w _ _ _ _ _ (by omega) (by omega)
 | w0 _ _ _ _ _ hm =>
  have h2:m = 0:=by omega
  have h3:a = 0:=by omega
  subst h2; subst h3
  exact ⟨Nat.zero_le _,.w0 _ _ _ _ _ (by omega)⟩
theorem cutB_ok {lo hi:Option AV} {ulo uhi:Option Value} (hlo:∀ a,lo = some a → ∃ u,ulo = some u ∧ RAV E true a u) (hlo' : lo = none → ulo = none) (hhi:∀ a,hi = some a → ∃ u,uhi = some u ∧ RAV E true a u) (hhi' : hi = none → uhi = none)
  {n:Nat} {f:Option Int → Option Int → RR} (h:∀ l r:Option Int,(∀ a m:Nat,CutsAt l r a m n → ((ulo = none ∧ a = 0) ∨ ∃ k,ulo = some (.int k a)) ∧ ((uhi = none ∧ a + m = n) ∨ ∃ k,uhi = some (.int k ((a + m:Nat):Int)))) → RROK P E own W ev o (f l r)) :
  RROK P E own W ev o (cutB lo hi f):=by
 unfold cutB
 split
 ·refine h _ _ fun a m hc=>?_
  rcases hc.lo with ⟨_,h1⟩|h1
  ·rcases hc.hi with ⟨_,h2⟩|h2
   ·exact ⟨.inl ⟨hlo' rfl,h1⟩,.inl ⟨hhi' rfl,h2⟩⟩
   ·cases h2
  ·cases h1
 ·rename_i k l
  obtain ⟨u,hu,hr⟩:=hlo _ rfl
  have:=hr.vInv; subst this
  refine h _ _ fun a m hc=>?_
  rcases hc.lo with ⟨h1,_⟩|h1
  ·cases h1
  ·cases h1
   rcases hc.hi with ⟨_,h2⟩|h2
   ·exact ⟨.inr ⟨k,hu⟩,.inl ⟨hhi' rfl,h2⟩⟩
   ·cases h2
 ·rename_i k r
  obtain ⟨u,hu,hr⟩:=hhi _ rfl
  have:=hr.vInv; subst this
  refine h _ _ fun a m hc=>?_
  rcases hc.lo with ⟨_,h1⟩|h1
  ·rcases hc.hi with ⟨h2,_⟩|h2
   ·cases h2
   ·cases h2; exact ⟨.inl ⟨hlo' rfl,h1⟩,.inr ⟨k,hu⟩⟩
  ·cases h1
 ·rename_i k l k' r
  obtain ⟨u,hu,hr⟩:=hlo _ rfl
  have:=hr.vInv; subst this
  obtain ⟨u', hu', hr'⟩:=hhi _ rfl
  have:=hr'.vInv; subst this
  refine h _ _ fun a m hc=>?_
  rcases hc.lo with ⟨h1,_⟩|h1
  ·cases h1
  ·cases h1
   rcases hc.hi with ⟨h2,_⟩|h2
   ·cases h2
   ·cases h2; exact ⟨.inr ⟨k,hu⟩,.inr ⟨k', hu'⟩⟩
 ·trivial
theorem chunks_get {sz:Nat}:∀ (n:Nat) (cs:List AV) (i:Nat),i < n → (chunks sz n cs)[i]? = some ((cs.drop (i * sz)).take sz)
 | 0,_,i,h=>by omega
 | n + 1,cs,0,_=>by simp [chunks]
 | n + 1,cs,i + 1,h=>by
  rw [chunks,List.getElem?_cons_succ,chunks_get n _ i (by omega),List.drop_drop]
  congr 3
  rw [Nat.add_mul]; omega
theorem chunks_len {sz:Nat}:∀ (n:Nat) (cs:List AV),(chunks sz n cs).length = n
 | 0,_=>rfl
 | n + 1,cs=>by simp [chunks,chunks_len n]
theorem chunks_rav {m:Bool} {cs:List AV} {u:Value} {n sz:Nat} (h:RAV E m (.ip cs) u) (h0:0 < n) (hl:n * sz ≤ cs.length) (hm:n ≤ maxLen):∃ b off,u = .pointer (some ⟨b,off,none⟩) ∧ RAV E true (.l sz (chunks sz n cs)) (.slice (some ⟨b,off,none⟩) n n):=by
 cases h with
 | ip _ _ b off vals ty fr hb hl' h1 hc =>
  refine ⟨_,_,rfl,?_⟩
  have hlen:(chunks sz n cs).length = n:=chunks_len n cs
  have key:=RAV.l (E:=E) true sz (chunks sz n cs) b off n vals ty fr hb (fun e he=>by
   obtain ⟨i,hi,rfl⟩:=List.getElem_of_mem he
   have h2:=chunks_get (sz:=sz) n cs i (by rw [hlen] at hi; exact hi)
   rw [List.getElem?_eq_getElem hi] at h2
   rw [Option.some.inj h2,List.length_take,List.length_drop]
   have:(i + 1) * sz ≤ n * sz:=Nat.mul_le_mul_right _ (by rw [hlen] at hi; omega)
   rw [Nat.add_mul] at this
   omega) (by rw [hlen]; omega) (by rw [hlen]; exact Nat.le_refl _) hm (fun i u hi hu=>h1 i u (by rw [hlen] at hi; omega) hu) (fun i j e x u hie hj hu=>by
   have hi:i < n:=by have:=(List.getElem?_eq_some_iff.1 hie).1; rw [hlen] at this; exact this
   rw [chunks_get n cs i hi] at hie
   cases hie
   have hjs:j < sz:=by
    have:=(List.getElem?_eq_some_iff.1 hj).1
    rw [List.length_take] at this; omega
   rw [List.getElem?_take_of_lt hjs,List.getElem?_drop] at hj
   exact hc (i * sz + j) x u hj (by rw [← hu]; congr 1; omega))
  rw [hlen] at key
  exact key
theorem sliceA_ok (hA:A = std) (hT:TabOK P T) (hm:Mem W0 mine kn E σ.own W) {t:Nat} {x:Operand} {lo hi:Option Operand} {a:AV} (ho:o.op = .slice t x lo hi none) (hg:∀ x,RAV E true (σ.get x) (ev x)) (hx:RAV E true a (ev x)) :
  RROK P E σ.own W ev o (sliceA A T σ t a (lo.map σ.get) (hi.map σ.get)):=by
 generalize hex:ev x = ux at hx
 subst hA
 have b1:∀ (q:Option Operand) (a:AV),q.map σ.get = some a → ∃ u,q.map ev = some u ∧ RAV E true a u:=by
  intro q a h
  cases q with
  | none=>cases h
  | some q=>simp at h; subst h; exact ⟨_,rfl,hg q⟩
 have b2:∀ (q:Option Operand),q.map σ.get = none → q.map ev = none:=by
  intro q h
  cases q with
  | none=>rfl
  | some q=>cases h
 have hsz' : ∀ (e sz:Nat),(look T e).map (·.size) = some sz → ∀ W,(sizeOf e).run P W = .ok sz W:=fun e sz hsz W=>by
  cases he:look T e with
  | none=>rw [he] at hsz; cases hsz
  | some i=>rw [he] at hsz; simp at hsz; subst hsz; exact sizeOf_ok (hT _ _ he) W
 have hcut:∀ (e k sz l0 n c a m:Nat) (ad:Option Addr),P.underlying t = some (.slice e) → (∀ W,(sizeOf e).run P W = .ok sz W) → ev x = .slice ad n c → RAV E true (.w k sz l0 n) (.slice ad n c) → a + m ≤ n →
   ((lo.map ev = none ∧ a = 0) ∨ ∃ k,lo.map ev = some (.int k a)) → ((hi.map ev = none ∧ a + m = n) ∨ ∃ k,hi.map ev = some (.int k ((a + m:Nat):Int))) → Reads P E σ.own W ev o (.w k sz (l0 + a) m):=by
  intro e k sz l0 n c a m ad hu hs hv hw hle h1 h2
  obtain ⟨hnc,hsub⟩:=w_cut hw hle
  refine ⟨_,hsub,fun W' _=>exec_slice ho (fun n e=>by rw [hu]; simp) hu ?_⟩
  rw [hv]
  have hb:=sliceBounds_ok (P:=P) (isS:=true) hnc h1 h2 (Nat.le_add_right a m) (by omega) W'
  simp [Instr.slice,underlying,hu,Result.andThen,hb,hs]
 unfold sliceA
 split
 ·rename_i e _ _ _ k hi'
  have hu:=(hT _ _ hi').kind
  simp only [KindOK] at hu
  split
  ·rename_i sz es hk
   split
   ·rename_i hsz
    obtain ⟨ety,_,hob⟩:=hm.row hk
    obtain ⟨ad,c,hrow,hw⟩:=hob.rowW
    have e1:=hx.rInv; rw [hrow] at e1
    refine cutB_ok (n:=es.length) (b1 lo) (b2 lo) (b1 hi) (b2 hi) fun l r hb a m hc=>?_
    obtain ⟨h1,h2⟩:=hb a m hc
    have:=hcut e k sz 0 es.length c a m ad hu (hsz' e sz hsz) (hex.trans e1) hw hc.le h1 h2
    rwa [Nat.zero_add] at this
   ·trivial
  ·trivial
 ·rename_i e _ _ _ k sz l0 n hi'
  have hu:=(hT _ _ hi').kind
  simp only [KindOK] at hu
  split
  ·rename_i hsz
   obtain ⟨ad,c,e1⟩:∃ ad c,ux = .slice ad n c:=by cases hx <;> exact ⟨_,_,rfl⟩
   subst e1
   refine cutB_ok (n:=n) (b1 lo) (b2 lo) (b1 hi) (b2 hi) fun l r hb a m lo' hc hlo' => ?_
   obtain ⟨h1,h2⟩:=hb a m hc
   rw [hlo']
   exact hcut e k sz l0 n c a m ad hu (hsz' e sz hsz) hex hx hc.le h1 h2
  ·trivial
 ·rename_i n e _ _ _ cs hi'
  have hu:=(hT _ _ hi').kind
  simp only [KindOK] at hu
  split
  ·rename_i hlo hhi
   split
   ·rename_i ie hie
    split
    ·rename_i hc
     obtain ⟨b,off,rfl,hl⟩:=chunks_rav hx hc.1 hc.2.1 hc.2.2
     have hs:=sizeOf_ok (hT _ _ hie)
     refine ⟨_,hl,fun W' _=>?_⟩
     have hb:=sliceBounds_ok (P:=P) (isS:=false) (Nat.le_refl n) (.inl ⟨b2 lo hlo,rfl⟩) (.inl ⟨b2 hi hhi,rfl⟩) (Nat.zero_le n) (Nat.le_refl n) W'
     have hne:¬ n = 0:=by omega
     have:(Instr.sliceAt t (ev x) (lo.map ev) (hi.map ev) none).run P W' = .ok (.slice (some ⟨b,off,none⟩) n n) W' := by
      rw [hex]
      simp [Instr.sliceAt,underlying,hu,Result.andThen,Instr.sureAddr,hb,hs,hne,Addr.add_lit]
     simp [execOp,ho,this,Result.andThen]
    ·trivial
   ·trivial
  ·trivial
 ·rename_i _ _ _ s hi'
  have hu:=(hT _ _ hi').kind
  simp only [KindOK] at hu
  have e1:=hx.vInv; subst e1
  refine sliceRun_ok (len:=s.size) (f:=fun l h=>.v (.string (std.ssub s l h))) (b1 lo) (b2 lo) (b1 hi) (b2 hi) fun l r hl hr hlo hhi=>?_
  refine ⟨_,.v _ _ rfl,fun W' _=>exec_slice ho (fun n e=>by rw [hu]; simp) hu ?_⟩
  rw [hex]
  simp [Instr.slice,underlying,hu,Result.andThen,sliceBounds_ok (P:=P) (isS:=false) (Nat.le_refl s.size) hlo hhi hl hr W', std]
 ·rename_i e _ _ _ sz es hi'
  have hu:=(hT _ _ hi').kind
  simp only [KindOK] at hu
  split
  ·rename_i hsz
   obtain ⟨b,c,rfl⟩:=lVal hx
   have hs:∀ W,(sizeOf e).run P W = .ok sz W:=fun W=>by
    cases he:look T e with
    | none=>rw [he] at hsz; cases hsz
    | some i=>rw [he] at hsz; simp at hsz; subst hsz; exact sizeOf_ok (hT _ _ he) W
   refine sliceRun_ok (len:=es.length) (f:=fun l h=>.l sz (std.lsub es l h)) (b1 lo) (b2 lo) (b1 hi) (b2 hi) fun l r hl hr hlo hhi=>?_
   obtain ⟨hlc,hsub⟩:=l_sub hx hl hr
   refine ⟨_,by simpa [std] using hsub,fun W' _=>exec_slice ho (fun n e=>by rw [hu]; simp) hu ?_⟩
   rw [hex]
   simp [Instr.slice,underlying,hu,Result.andThen,sliceBounds_ok (P:=P) (isS:=true) hlc hlo hhi hl (by omega) W', hs]
  ·trivial
 ·trivial
def SrcAt (E:Env) (W:World) (u:Value) (sz:Nat) (ds:List (List AV)):Prop :=
 (∀ e ∈ ds,e.length = sz) ∧ ((u = .slice none 0 0 ∧ ds = []) ∨ ∃ (ad:Addr) (c:Nat) (news:List Value),u = .slice (some ad) ds.length c ∧ news.length = ds.length * sz ∧ (∀ (j:Nat) (v:Value),news[j]? = some v → W.cell? (ad.add j) = some v) ∧ (∀ v ∈ news,v.oneCell' = true) ∧
   ∀ (i j:Nat) (e:List AV) (x:AV) (v:Value),ds[i]? = some e → e[j]? = some x → news[i * sz + j]? = some v → RAV E false x v)
theorem src_at (hfacts:∀ b o,E.h b = some o → W.heap[b]? = some o) (hrows:∀ k sz es,rowOf σ k = some (sz,es) → ∃ ety xs,RowOK E k W ety sz es xs) {x:AV} {u:Value} (hx:RAV E true x u) {sz:Nat} {ds:List (List AV)} (hs:srcOf σ x = some (sz,ds)):SrcAt E W u sz ds:=by
 unfold srcOf at hs
 split at hs
 ·rename_i sz' es'
  simp only [Option.some.injEq,Prod.mk.injEq] at hs
  obtain ⟨e1,e2⟩:=hs
  subst e1
  subst e2
  cases hx with
  | lnil=>exact ⟨by simp,.inl ⟨rfl,rfl⟩⟩
  | lzero _ _ ad c=>exact ⟨by simp,.inr ⟨ad,c,[],rfl,by simp,by simp,by simp,by simp⟩⟩
  | l _ _ es b off c vals ty fr hb hes hl hc hm h1 he =>
   refine ⟨hes,.inr ⟨⟨b,off,none⟩,c,(vals.toList.drop off).take (es'.length * sz'),rfl,by simp; omega,?_,?_,?_⟩⟩
   ·intro j v hj
    have hjl:j < es'.length * sz' := by have:=(List.getElem?_eq_some_iff.1 hj).1; simp at this; omega
    rw [List.getElem?_take_of_lt hjl,List.getElem?_drop] at hj
    rw [Addr.add_lit,cell_of (hfacts _ _ hb)]
    simpa using hj
   ·intro v hv
    obtain ⟨j,hj,rfl⟩:=List.getElem_of_mem hv
    have hjl:j < es'.length * sz' := by simp at hj; omega
    refine h1 j _ hjl ?_
    rw [← List.getElem?_eq_getElem,List.getElem?_take_of_lt hjl,List.getElem?_drop]
    simp
   ·intro i j e x v hi hj hv
    have hjl:i * sz' + j < es'.length * sz' := by have:=(List.getElem?_eq_some_iff.1 hv).1; simp at this; omega
    rw [List.getElem?_take_of_lt hjl,List.getElem?_drop] at hv
    exact he i j e x v hi hj (by rw [Nat.add_assoc]; simpa using hv)
 ·rename_i k
  obtain ⟨ety,xs,hrow⟩:=hrows _ _ _ hs
  have:=hx.rInv; subst this
  rcases hrow.shape with ⟨h1,h2⟩|⟨cap,cur,hv,hg,hnc,hcm,hcs,hxl,hxx⟩
  ·exact ⟨hrow.len,.inl ⟨h1,h2⟩⟩
  ·have hmul:ds.length * sz ≤ cap * sz:=Nat.mul_le_mul_right _ hnc
   refine ⟨hrow.len,.inr ⟨⟨E.blk k,0,none⟩,cap,xs,hv,hxl,?_,hrow.one,hrow.rav⟩⟩
   intro j v hj
   have hjl:j < xs.length:=(List.getElem?_eq_some_iff.1 hj).1
   rw [Addr.add_lit,cell_of hg,Nat.zero_add,hxx j (by omega)]
   exact hj
 ·cases hs
theorem conv_src {src dst e:Nat} (hs:P.underlying src = some (.slice e)) (he:P.underlying e = some (.int .u8)) (hd:P.underlying dst = some .string) {u:Value} {s:ByteArray} (h:SrcAt E W u 1 (sbytes s)):(convert src dst u).run P W = .ok (.string s) W:=by
 have hsl:(sbytes s).length = s.data.toList.length:=by rw [sbytes_eq,List.length_map]
 obtain ⟨_,⟨rfl,h0⟩|⟨ad,c,news,rfl,hnl,hcell,_,hr⟩⟩:=h
 ·have h1:s.data.toList = []:=List.eq_nil_of_length_eq_zero (by rw [← hsl,h0]; rfl)
  have h2:s = ByteArray.empty:=by cases s with|mk d=>cases d; simp at h1; subst h1; rfl
  rw [h2]
  exact run_convert_bytes_nil W src e hs he 0 0 dst hd
 ·have hnews:news = (s.data.toList.map fun b=>(b.toNat:Int)).map (Value.int .u8):=by
   apply List.ext_getElem?
   intro i
   by_cases hi:i < s.data.toList.length
   ·have hi' : i < news.length:=by rw [hnl,hsl]; omega
    have h1:(sbytes s)[i]? = some [.v (.int .u8 (s.data.toList[i]).toNat)]:=by
     rw [sbytes_eq,List.getElem?_map,List.getElem?_eq_getElem hi]; rfl
    have:=hr i 0 _ _ news[i] h1 rfl (by rw [Nat.mul_one,Nat.add_zero,List.getElem?_eq_getElem hi'])
    have h2:=this.vInv
    rw [List.getElem?_eq_getElem hi', h2,List.getElem?_map,List.getElem?_map,List.getElem?_eq_getElem hi]
    rfl
   ·rw [List.getElem?_eq_none (by omega),List.getElem?_eq_none (by rw [List.length_map,List.length_map]; omega)]
  have hl:(loadCells ad (sbytes s).length).run P W = .ok ((s.data.toList.map fun b=>(b.toNat:Int)).map (Value.int .u8)).toArray W:=by
   have:=run_loadCells_list (P:=P) W ad news hcell
   rw [hnl,Nat.mul_one] at this
   rw [← hnews]; exact this
  rw [run_convert_bytes_string W src dst e _ _ c hs he hd,run_bytesToString W _ _ c _ hl,foldl_push_bytes]
  congr 2
  have h3:(List.map (fun n:Int=>UInt8.ofNat n.toNat) (s.data.toList.map fun b=>(b.toNat:Int))) = s.data.toList:=by
   rw [List.map_map]
   conv=>rhs; rw [← List.map_id s.data.toList]
   apply List.map_congr_left
   intro b _
   simp
  rw [h3]
  cases s
  simp [ByteArray.empty,ByteArray.emptyWithCapacity]
  rfl
theorem isU8_ok (hT:TabOK P T) {t:Nat} (h:isU8 T t = true):∃ e,P.underlying t = some (.slice e) ∧ P.underlying e = some (.int .u8):=by
 unfold isU8 at h
 split at h
 ·rename_i e _ _ _ h1
  split at h
  ·rename_i h2
   have a1:=(hT _ _ h1).kind
   have a2:=(hT _ _ h2).kind
   simp only [KindOK] at a1 a2
   exact ⟨e,a1,a2⟩
  ·cases h
 ·cases h
theorem convA_ok (hA:A = std) (hT:TabOK P T) (hm:Mem W0 mine kn E σ.own W) {s d:Nat} {x:Operand} {a:AV} (ho:o.op = .convert s d x) (hx:RAV E true a (ev x)):RROK P E σ.own W ev o (convA A T σ s d a):=by
 generalize hex:ev x = ux at hx
 subst hA
 have hsrc:∀ (sz:Nat) (es:List (List AV)),srcOf σ a = some (sz,es) → sz = 1 → isU8 T s = true → (∃ i,look T d = some i ∧ i.kind = .str) → RROK P E σ.own W ev o (.str es):=by
  rintro sz es hs rfl hu ⟨i,hi,hik⟩ str hstr
  subst hstr
  obtain ⟨e,h1,h2⟩:=isU8_ok hT hu
  have hd:=(hT _ _ hi).kind
  rw [hik] at hd
  simp only [KindOK] at hd
  refine ⟨_,.v _ _ rfl,fun W' hW' => ?_⟩
  have:=src_at (W:=W') (E:=E) (σ:=σ) hW'.facts (fun k sz es h=>by
   obtain ⟨ety,hk,hob⟩:=hm.row h
   have:=hob.snap (W' := W') (hW'.owns k _ hk)
   obtain ⟨xs,h⟩:=this
   exact ⟨_,xs,h⟩) hx hs
  simp [execOp,ho,hex,conv_src h1 h2 hd this,Result.andThen]
 unfold convA
 split
 ·rename_i k _ _ _ h2
  split
  ·rename_i _ _ _ _ _ n h1
   have hu:=(hT _ _ h1).kind
   have hv:=(hT _ _ h2).kind
   simp only [KindOK] at hu hv
   have e1:=hx.vInv; subst e1
   exact ⟨_,.v _ _ rfl,fun W' _=>by simp [execOp,ho,hex,convert,underlying,hu,hv,Result.andThen,Conv.intToInt,std]⟩
  ·trivial
 ·rename_i _ _ _ h2
  split
  ·split
   ·rename_i _ _ _ h1
    have hu:=(hT _ _ h1).kind
    have hv:=(hT _ _ h2).kind
    simp only [KindOK] at hu hv
    have e1:=hx.vInv; subst e1
    exact ⟨_,.v _ _ rfl,fun W' _=>by simp [execOp,ho,hex,convert,underlying,hu,hv,Result.andThen]⟩
   ·trivial
  ·split
   ·rename_i h1
    obtain ⟨e,h1,h3⟩:=isU8_ok hT h1
    have hv:=(hT _ _ h2).kind
    simp only [KindOK] at hv
    have e1:=hx.vInv; subst e1
    exact ⟨_,.v _ _ rfl,fun W' _=>by simp [execOp,ho,hex,run_convert_bytes_nil W' s e h1 h3 0 0 d hv,Result.andThen]⟩
   ·trivial
  ·split
   ·rename_i hu
    split
    ·rename_i hsz; exact hsrc _ _ rfl hsz hu ⟨_,h2,rfl⟩
    ·trivial
   ·trivial
  ·split
   ·rename_i hu
    split
    ·rename_i sz es hr
     split
     ·rename_i hsz; exact hsrc sz es hr hsz hu ⟨_,h2,rfl⟩
     ·trivial
    ·trivial
   ·trivial
  ·trivial
 ·trivial
theorem eqIf_nil (d:Nat) {t:Nat} {ms} (h:P.underlying t = some (.interface ms)) (W:World):(Op.equalIn (d + 1) t .nilIface .nilIface).run P W = .ok true W:=by
 simp [Op.equalIn,run_underlying h]
theorem eqIf_some (d:Nat) {t u:Nat} {x:Value} {ms} (h:P.underlying t = some (.interface ms)) (W:World):(Op.equalIn (d + 1) t (.iface u x) .nilIface).run P W = .ok false W:=by
 simp [Op.equalIn,run_underlying h]
theorem nilIfA_ok (hT:TabOK P T) {op:BinOp} {t t' : Nat} {x:Operand} {a:AV} (ho:o.op = .binOp op t x (.const .nilIface) t') (hx:RAV E true a (ev x)) (hy:RAV E true (.v .nilIface) (ev (.const .nilIface))):RROK P E σ.own W ev o (nilIfA T op t a):=by
 have hey:=hy.vInv
 generalize hex:ev x = ux at hx
 unfold nilIfA
 split
 ·rename_i hi
  obtain ⟨ms,hk⟩:=(hT _ _ hi).kind
  have hgn:∀ W', (eqGuard op t x (.const .nilIface) .nilIface .nilIface).run P W' = .ok () W' := fun W' => by
   unfold eqGuard; split <;> simp
  have hgs:∀ (u:Nat) (y:Value) W', (eqGuard op t x (.const .nilIface) (.iface u y) .nilIface).run P W' = .ok () W' := fun u y W' => by
   unfold eqGuard; split <;> simp
  split
  ·have e1:=hx.vInv; subst e1
   refine ⟨_,.v _ _ rfl,fun W' _=>exec_bin ho (by rw [hex,hey]; exact hgn W') ?_⟩
   rw [hex,hey]
   simp [binOp,Op.equal,Op.maxDepth,eqIf_nil 9999 hk W', Result.andThen]
  ·cases hx
   refine ⟨_,.v _ _ rfl,fun W' _=>exec_bin ho (by rw [hex,hey]; exact hgs _ _ W') ?_⟩
   rw [hex,hey]
   simp [binOp,Op.equal,Op.maxDepth,eqIf_some 9999 hk W', Result.andThen]
  ·have e1:=hx.vInv; subst e1
   refine ⟨_,.v _ _ rfl,fun W' _=>exec_bin ho (by rw [hex,hey]; exact hgn W') ?_⟩
   rw [hex,hey]
   simp [binOp,Op.equal,Op.maxDepth,eqIf_nil 9999 hk W', Result.andThen]
  ·cases hx
   refine ⟨_,.v _ _ rfl,fun W' _=>exec_bin ho (by rw [hex,hey]; exact hgs _ _ W') ?_⟩
   rw [hex,hey]
   simp [binOp,Op.equal,Op.maxDepth,eqIf_some 9999 hk W', Result.andThen]
  ·trivial
 ·trivial
theorem eqSlice_nil {t e:TypeId} (h:P.underlying t = some (.slice e)) (a:Option Addr) (l c:Nat) (w:World):(Op.equal t (.slice a l c) (.slice none 0 0)).run P w = .ok a.isNone w:=by
 have:∀ d,(Op.equalIn (d + 1) t (.slice a l c) (.slice none 0 0)).run P w = .ok a.isNone w:=fun d=>by
  cases a <;> simp [Op.equalIn,run_underlying h]
 exact this 9999
theorem nilSlA_ok (hT:TabOK P T) (hm:Mem W0 mine kn E σ.own W) {op:BinOp} {t t' : Nat} {x:Operand} {a:AV} (ho:o.op = .binOp op t x (.const (.slice none 0 0)) t') (hx:RAV E true a (ev x)) (hy:ev (.const (.slice none 0 0)) = .slice none 0 0):RROK P E σ.own W ev o (nilSlA T σ op t a):=by
 generalize hex:ev x = ux at hx
 unfold nilSlA
 split
 ·rename_i e _ _ _ hi
  have hu:=(hT _ _ hi).kind
  simp only [KindOK] at hu
  have hgs:∀ (ad:Option Addr) (n c:Nat) W', (eqGuard op t x (.const (.slice none 0 0)) (.slice ad n c) (.slice none 0 0)).run P W' = .ok () W' := fun ad n c W' => by
   unfold eqGuard; split <;> simp
  have hq:∀ (ad:Option Addr) (n c:Nat) W', (binOp .eql t (.slice ad n c) (.slice none 0 0)).run P W' = .ok (.bool ad.isNone) W' := fun ad n c W' => by
   simp [binOp,eqSlice_nil hu ad n c W']
  have hq' : ∀ (ad:Option Addr) (n c:Nat) W', (binOp .neq t (.slice ad n c) (.slice none 0 0)).run P W' = .ok (.bool (!ad.isNone)) W' := fun ad n c W' => by
   simp [binOp,eqSlice_nil hu ad n c W']
  have run1:∀ (ad:Option Addr) (n c:Nat),op = .eql → ux = .slice ad n c → Reads P E σ.own W ev o (.b ad.isNone):=fun ad n c h1 h2=>by
   subst h1; subst h2
   exact ⟨_,.b _ _,fun W' _=>exec_bin ho (by rw [hex,hy]; exact hgs ad n c W') (by rw [hex,hy]; exact hq ad n c W')⟩
  have run2:∀ (ad:Option Addr) (n c:Nat),op = .neq → ux = .slice ad n c → Reads P E σ.own W ev o (.b (!ad.isNone)):=fun ad n c h1 h2=>by
   subst h1; subst h2
   exact ⟨_,.b _ _,fun W' _=>exec_bin ho (by rw [hex,hy]; exact hgs ad n c W') (by rw [hex,hy]; exact hq' ad n c W')⟩
  have vOf:∀ b:Bool,Reads P E σ.own W ev o (.b b) → Reads P E σ.own W ev o (.v (.bool b)):=fun b ⟨u,h1,h2⟩=>⟨u,by cases h1; exact .v _ _ rfl,h2⟩
  have lof:∀ (sz:Nat) (es:List (List AV)),RAV E true (.l sz es) ux → ∃ ad n c,ux = .slice ad n c ∧ (ad.isNone = true → es = []):=fun sz es h=>by
   cases h with
   | lnil=>exact ⟨_,_,_,rfl,fun _=>rfl⟩
   | lzero=>exact ⟨_,_,_,rfl,fun _=>rfl⟩
   | l=>exact ⟨_,_,_,rfl,fun h=>by cases h⟩
  have rof:∀ (k sz:Nat) (es:List (List AV)),rowOf σ k = some (sz,es) → RAV E true (.r k) ux → ∃ ad n c,ux = .slice ad n c ∧ (ad.isNone = true → es = []):=fun k sz es hk h=>by
   obtain ⟨ety,_,xs,hob⟩:=hm.row hk
   have e1:=h.rInv
   rcases hob.shape with ⟨h2,h3⟩|⟨cap,vals,h2,_⟩
   ·exact ⟨_,_,_,e1.trans h2,fun _=>h3⟩
   ·exact ⟨_,_,_,e1.trans h2,fun h=>by cases h⟩
  split
  ·split
   ·have e1:=hx.vInv
    exact vOf true (run1 none 0 0 rfl e1)
   ·rename_i sz es
    obtain ⟨ad,n,c,h1,h2⟩:=lof sz es hx
    exact ⟨_,fun h=>h2 h,run1 ad n c rfl h1⟩
   ·rename_i k
    split
    ·rename_i sz es hk
     obtain ⟨ad,n,c,h1,h2⟩:=rof k sz es hk hx
     exact ⟨_,fun h=>h2 h,run1 ad n c rfl h1⟩
    ·trivial
   ·trivial
  ·split
   ·have e1:=hx.vInv
    exact vOf false (run2 none 0 0 rfl e1)
   ·rename_i sz es
    obtain ⟨ad,n,c,h1,h2⟩:=lof sz es hx
    exact ⟨_,fun h=>h2 (by simpa using h),run2 ad n c rfl h1⟩
   ·rename_i k
    split
    ·rename_i sz es hk
     obtain ⟨ad,n,c,h1,h2⟩:=rof k sz es hk hx
     exact ⟨_,fun h=>h2 (by simpa using h),run2 ad n c rfl h1⟩
    ·trivial
   ·trivial
  ·trivial
 ·trivial
theorem maxA_ok (hA:A = std) (mx:Bool) {args:Array Operand} {tys:Array TypeId} (ho:o.op = .call ⟨.builtin (match mx with|true=>.max|false=>.min),args,tys⟩) (hg:∀ x,RAV E true (σ.get x) (ev x)) :
  RROK P E σ.own W ev o (maxA A mx (args.toList.map σ.get)):=by
 subst hA
 generalize hl:args.toList.map σ.get = l
 unfold maxA
 split
 ·rename_i k a k' b
  obtain ⟨x,y,hargs,h1,h2⟩:∃ x y,args.toList = [x,y] ∧ σ.get x = .v (.int k a) ∧ σ.get y = .v (.int k' b):=by
   match hq:args.toList,hl with
   | [x,y],hl=>simp at hl; exact ⟨x,y,rfl,hl.1,hl.2⟩
   | [],hl=>simp [hq] at hl
   | [_],hl=>simp at hl
   | _ :: _ :: _ :: _,hl=>simp at hl
  have ha' : args = #[x,y]:=by rw [← Array.toArray_toList (xs:=args),hargs]
  have e1:=(h1 ▸ hg x).vInv
  have e2:=(h2 ▸ hg y).vInv
  subst ha'
  refine ⟨_,.v _ _ rfl,fun W' _=>?_⟩
  cases mx <;> simp [execOp,ho,resolve,invoke,builtin,e1,e2,Result.andThen,std,run_max_int2,run_min_int2]
 ·trivial
def MK.isK:MK → TypeDesc → Prop
 | .int q,kd=>∃ q', kd = .int q'
 | .str,kd=>kd = .string
 | .bool,_=>False
def MK.is:MK → TypeDesc → Prop
 | .int q,kd=>kd = .int q
 | .str,kd=>kd = .string
 | .bool,kd=>kd = .bool
def MK.zero:MK → Value
 | .int q=>.int q 0
 | .str=>.string ByteArray.empty
 | .bool=>.bool false
theorem sameNow_ok {kk:MK} {kd:TypeDesc} (hkd:kk.isK kd) {x y:Value} (hx:kk.has x) (hy:kk.has y) :
  (Instr.sameNow kd x y = some true ∧ y = x) ∨ (Instr.sameNow kd x y = some false ∧ y ≠ x):=by
 cases kk with
 | int q =>
  obtain ⟨q', rfl⟩:=hkd
  obtain ⟨a,rfl⟩:=hx
  obtain ⟨b,rfl⟩:=hy
  by_cases h:a = b
  ·subst h; left; simp [Instr.sameNow]
  ·right; simp [Instr.sameNow,h]; exact fun e=>h e.symm
 | str =>
  subst hkd
  obtain ⟨a,rfl⟩:=hx
  obtain ⟨b,rfl⟩:=hy
  by_cases h:a = b
  ·subst h; left; simp [Instr.sameNow,beq_toListBytes]
  ·right
   have:a.toList ≠ b.toList:=fun e=>h (by
    rw [ByteArray.toList_eq,ByteArray.toList_eq] at e
    exact ByteArray.ext (Array.toList_inj.1 e))
   refine ⟨by simp [Instr.sameNow,beq_toListBytes,this],fun e=>h ?_⟩
   cases e; rfl
 | bool=>exact hkd.elim
theorem findNow_ok {kk:MK} {kd:TypeDesc} (hkd:kk.isK kd) {x:Value} (hx:kk.has x):∀ (es:List MapEntry) (i:Nat),(∀ e ∈ es,kk.has e.key) →
  (Instr.findNow kd x es i = some none ∧ ∀ e ∈ es,e.key ≠ x) ∨ ∃ j e,Instr.findNow kd x es i = some (some (i + j,e.val)) ∧ es[j]? = some e ∧ e.key = x
 | [],i,_=>.inl ⟨rfl,by simp⟩
 | e :: es,i,h=>by
  rcases sameNow_ok hkd hx (h e (by simp)) with ⟨h1,h2⟩|⟨h1,h2⟩
  ·exact .inr ⟨0,e,by simp [Instr.findNow,h1],rfl,h2⟩
  ·rcases findNow_ok hkd hx es (i + 1) (fun e he=>h e (by simp [he])) with ⟨h3,h4⟩|⟨j,e', h3,h4,h5⟩
   ·exact .inl ⟨by simp [Instr.findNow,h1,h3],fun e' he=>by rcases List.mem_cons.1 he with rfl|he; exact h2; exact h4 e' he⟩
   ·exact .inr ⟨j + 1,e', by simp [Instr.findNow,h1,h3]; omega,by simpa using h4,h5⟩
theorem mkOf_kind (hT:TabOK P T) {t:Nat} {kk:MK} (h:mkOf T t = some kk):∃ kd,P.underlying t = some kd ∧ kk.is kd ∧
  ∃ z,(P.info? t).bind (·.zero) = some z ∧ z.cells = #[kk.zero]:=by
 unfold mkOf at h
 split at h
 ·rename_i k _ _ k' hi
  split at h
  ·rename_i hkk; subst hkk; cases h
   have ht:=hT _ _ hi
   obtain ⟨f,hf,_,_,z,hz,hzc⟩:=ht.info
   exact ⟨_,ht.kind,rfl,z,by rw [hf]; exact hz,hzc.trans rfl⟩
  ·cases h
 ·rename_i s hi
  split at h
  ·rename_i hs; cases h
   have ht:=hT _ _ hi
   obtain ⟨f,hf,_,_,z,hz,hzc⟩:=ht.info
   have:s = ByteArray.empty:=by
    obtain ⟨⟨l⟩⟩:=s
    cases l with
    | nil=>rfl
    | cons a l=>simp [ByteArray.size] at hs
   subst this
   exact ⟨_,ht.kind,rfl,z,by rw [hf]; exact hz,hzc.trans rfl⟩
  ·cases h
 ·rename_i hi
  cases h
  have ht:=hT _ _ hi
  obtain ⟨f,hf,_,_,z,hz,hzc⟩:=ht.info
  exact ⟨_,ht.kind,rfl,z,by rw [hf]; exact hz,hzc.trans rfl⟩
 ·cases h
theorem mvOf_ok {m:MK} {x:AV} {u key:Value} (h:mvOf m x = some key) (hx:RAV E true x u):u = key ∧ m.has key:=by
 unfold mvOf at h
 split at h
 ·have:=hx.vInv; subst this
  split at h
  ·rename_i hk; subst hk; cases h; exact ⟨rfl,_,rfl⟩
  ·cases h
 ·have:=hx.vInv; subst this; cases h; exact ⟨rfl,_,rfl⟩
 ·have:=hx.bInv; subst this; cases h; exact ⟨rfl,_,rfl⟩
 ·have:=hx.vInv; subst this; cases h; exact ⟨rfl,_,rfl⟩
 ·cases h
theorem checkKey_at (n:Nat) {kk:MK} {k:Nat} {kd:TypeDesc} (hk:P.underlying k = some kd) (hkd:kk.is kd) {x:Value} (hx:kk.has x) (em:Bool) (W:World) :
  (Instr.checkKey em (n + 1) k x).run P W = .ok () W:=by
 cases kk <;> (obtain ⟨a,rfl⟩:=hx; cases hkd; simp [Instr.checkKey,run_underlying hk,Result.andThen])
theorem checkKey_ok {kk:MK} {k:Nat} {kd:TypeDesc} (hk:P.underlying k = some kd) (hkd:kk.is kd) {x:Value} (hx:kk.has x) (em:Bool) (W:World) :
  (Instr.checkKey em 10000 k x).run P W = .ok () W:=by
 exact checkKey_at 9999 hk hkd hx em W
theorem findKey_ok {kk:MK} {k:Nat} {kd:TypeDesc} (hk:P.underlying k = some kd) (hkd:kk.is kd) (hnb:kk ≠ .bool) {x:Value} (hx:kk.has x) (es:List MapEntry) (h:∀ e ∈ es,kk.has e.key) (W:World) :
  ((Instr.findKey k x es).run P W = .ok none W ∧ ∀ e ∈ es,e.key ≠ x) ∨ ∃ j e,(Instr.findKey k x es).run P W = .ok (some (j,e.val)) W ∧ es[j]? = some e ∧ e.key = x:=by
 have hkd' : kk.isK kd:=by
  cases kk with
  | int q=>exact ⟨q,hkd⟩
  | str=>exact hkd
  | bool=>exact absurd rfl hnb
 rcases findNow_ok hkd' hx es 0 h with ⟨h1,h2⟩|⟨j,e,h1,h2,h3⟩
 ·exact .inl ⟨by simp [Instr.findKey,run_underlying hk,h1,Result.andThen],h2⟩
 ·exact .inr ⟨j,e,by simp [Instr.findKey,run_underlying hk,h1,Result.andThen],h2,h3⟩
theorem mgetA_rav {vk:MK} {g:Value → Option Value} {key v:Value} (hv:vk.has v) (h:g key = some v):RAV E true (mgetA std vk g key) v:=by
 cases vk <;> (obtain ⟨a,rfl⟩:=hv; simp only [mgetA,std,h]; first|exact .v _ _ rfl|exact .b _ _)
theorem mgetA_zero {vk:MK} {g:Value → Option Value} {key z:Value} (hz:z.oneCell' = true) (hc:z.cells = #[vk.zero]) (h:g key = none):RAV E true (mgetA std vk g key) z:=by
 have:z = vk.zero:=by
  cases z <;> simp [Value.oneCell'] at hz <;> simpa [Value.cells] using hc
 subst this
 cases vk <;> (simp only [mgetA,std,h]; first|exact .v _ _ rfl|exact .b _ _)
theorem lookupA_ok (hA:A = std) (hT:TabOK P T) (hm:Mem W0 mine kn E σ.own W) {t:Nat} {x i:Operand} {ok:Bool} {a b:AV} (ho:o.op = .lookup t x i ok) (hx:RAV E true a (ev x)) (hi:RAV E true b (ev i)) :
  RROK P E σ.own W ev o (lookupA A T σ t a b ok):=by
 generalize hex:ev x = ux at hx
 generalize hei:ev i = ui at hi
 subst hA
 unfold lookupA
 split
 ·rename_i k e _ _ _ hlk
  obtain ⟨hu,z,hz,hz1⟩:=(hT _ _ hlk).kind
  split
  ·rename_i j
   split
   ·rename_i kk vk g hj
    split
    ·rename_i key hkey
     split
     ·rename_i hc
      obtain ⟨hc1,hc2,hc3⟩:=hc
      obtain ⟨kd,hk1,hk2,_⟩:=mkOf_kind hT hc1
      obtain ⟨_,_,_,z', hz', hzc⟩:=mkOf_kind hT hc2
      rw [hz] at hz'; cases hz'
      obtain ⟨rfl,hkh⟩:=mvOf_ok hkey hi
      obtain ⟨es,clock,hh,hrow,hf⟩:=hm.owns j _ hj
      have e1:=hx.rInv
      rw [hrow] at e1
      subst e1
      have hrun:∀ W', Snap E σ.own W W' → ∃ u,RAV E true (mgetA std vk g ui) u ∧ (Instr.lookup t (.map (some (E.blk j))) ui ok).run P W' = .ok (if ok = true then .tuple #[u,.bool (std.mhas g ui)] else u) W' := by
       intro W' hs
       have hb:W'.heap[E.blk j]? = some (.map es clock):=by rw [hs.owns j _ hj trivial]; exact hh
       rcases findKey_ok hk1 hk2 hc3 hkh es.toList hf.keys W' with ⟨h1,h2⟩|⟨n,ent,h1,h2,h3⟩
       ·have hg:g ui = none:=by
         cases hq:g ui with
         | none=>rfl
         | some v=>obtain ⟨e', he', h4,_⟩:=(hf.get _ _).1 hq; exact absurd h4 (h2 e' he')
        refine ⟨z,mgetA_zero hz1 hzc hg,?_⟩
        have hzr:∀ W,(zeroValue e).run P W = .ok z W:=fun W=>by
         cases hq:P.info? e with
         | none=>rw [hq] at hz; cases hz
         | some f=>rw [hq] at hz; simp at hz; simp [zeroValue,typeInfo,hq,hz,Result.andThen]
        simp [Instr.lookup,run_underlying hu,MapKept.run_getObj_map hb,checkKey_ok hk1 hk2 hkh,h1,hzr,Result.andThen,std,hg]
       ·have hmem:=List.mem_of_getElem? h2
        have hg:g ui = some ent.val:=(hf.get _ _).2 ⟨ent,hmem,h3,rfl⟩
        refine ⟨ent.val,mgetA_rav (hf.vals ent hmem) hg,?_⟩
        simp [Instr.lookup,run_underlying hu,MapKept.run_getObj_map hb,checkKey_ok hk1 hk2 hkh,h1,Result.andThen,std,hg]
      obtain ⟨u,hu1,hu2⟩:=hrun W hm.snap
      have hsame:∀ W', Snap E σ.own W W' → (Instr.lookup t (.map (some (E.blk j))) ui ok).run P W' = .ok (if ok = true then .tuple #[u,.bool (std.mhas g ui)] else u) W' := by
       intro W' hs
       obtain ⟨u', hu1', hu2'⟩:=hrun W' hs
       rw [hu2']
       have:u' = u:=by
        cases hq:g ui with
        | none =>
         cases vk <;> simp only [mgetA] at hu1 hu1' <;> first|(rw [hu1.vInv,hu1'.vInv])|(rw [hu1.bInv,hu1'.bInv])
        | some v =>
         cases vk <;> simp only [mgetA] at hu1 hu1' <;> first|(rw [hu1.vInv,hu1'.vInv])|(rw [hu1.bInv,hu1'.bInv])
       rw [this]
      cases ok with
      | true =>
       refine ⟨.tuple #[u,.bool (std.mhas g ui)],.t _ _ [u,.bool (std.mhas g ui)] rfl ?_,fun W' hs=>?_⟩
       ·intro n c v hn hv
        match n with
        | 0=>simp at hn hv; subst hn; subst hv; exact hu1
        | 1=>simp at hn hv; subst hn; subst hv; exact .b _ _
        | n + 2=>simp at hn
       ·simp [execOp,ho,hex,hei,hsame W' hs,Result.andThen]
      | false =>
       refine ⟨u,hu1,fun W' hs=>?_⟩
       simp [execOp,ho,hex,hei,hsame W' hs,Result.andThen]
     ·trivial
    ·trivial
   ·trivial
  ·trivial
 ·trivial
theorem opR_ok (hA:A = std) (hT:TabOK P T) (hm:Mem W0 mine kn E σ.own W) (hg:∀ x,RAV E true (σ.get x) (ev x)):RROK P E σ.own W ev o (opR A T σ o.op):=by
 generalize hop:o.op = op
 unfold opR
 split
 ·exact ⟨_,hg _,fun W' _=>by simp [execOp,hop]⟩
 ·exact ⟨_,hg _,fun W' _=>by simp [execOp,hop]⟩
 ·rename_i c x y
  have hc:=hg c
  split
  ·rename_i h; rw [h] at hc; have:=hc.vInv
   exact ⟨_,hg x,fun W' _=>by simp [execOp,hop,this,asBool,Result.andThen]⟩
  ·rename_i h; rw [h] at hc; have:=hc.vInv
   exact ⟨_,hg y,fun W' _=>by simp [execOp,hop,this,asBool,Result.andThen]⟩
  ·trivial
 ·exact loadA_ok hT hm hop (hg _)
 ·exact fieldAddrA_ok hT hop (hg _)
 ·exact fieldA_ok hT hop (hg _)
 ·exact buildA_ok hA hT hop hg
 ·rename_i x i
  have hx:=hg x
  split
  ·rename_i vs h; rw [h] at hx
   split
   ·rename_i y hy; exact extractA_ok hop hx hy
   ·trivial
  ·trivial
 ·rename_i x
  have hx:=hg x
  split
  ·rename_i k off h; rw [h] at hx
   generalize he:ev x = ux at hx
   have:=hx.pInv; subst this
   exact ⟨_,.p k off,fun W' _=>by simp [execOp,hop,he]⟩
  ·rename_i k sz i off h; rw [h] at hx
   generalize he:ev x = ux at hx
   have:=hx.qInv; subst this
   exact ⟨_,.q k sz i off,fun W' _=>by simp [execOp,hop,he]⟩
  ·rename_i cs h; rw [h] at hx
   generalize he:ev x = ux at hx
   refine ⟨ux,hx,fun W' _=>?_⟩
   cases hx
   simp [execOp,hop,he]
  ·rename_i fn cs h; rw [h] at hx
   generalize he:ev x = ux at hx
   refine ⟨ux,hx,fun W' _=>?_⟩
   cases hx
   simp [execOp,hop,he]
  ·trivial
 ·rename_i fn first cap
  split
  ·rename_i h
   have hf:fn < 1000000:=of_decide_eq_true h
   refine ⟨_,.f true (fn + 1000000 * first.size) (first.toList.map σ.get ++ cap.toList.map σ.get) (first.toList.map ev ++ cap.toList.map ev) (by simp) (fun i c u hc hu=>?_),fun W' _=>?_⟩
   ·rw [← List.map_append,List.getElem?_map] at hc hu
    cases hq:(first.toList ++ cap.toList)[i]? with
    | none=>rw [hq] at hc; cases hc
    | some y=>rw [hq] at hc hu; simp at hc hu; subst hc; subst hu; exact hg _
   ·have e1:(fn + 1000000 * first.size) % 1000000 = fn:=(packN fn first.size hf).1
    have e2:(fn + 1000000 * first.size) / 1000000 = (List.map ev first.toList).length:=by rw [List.length_map,Array.length_toList]; exact (packN fn first.size hf).2
    have he:Array.map ev cap = (List.map ev cap.toList).toArray:=by apply Array.ext'; simp
    have he' : Array.map ev first = (List.map ev first.toList).toArray:=by apply Array.ext'; simp
    rw [e1,e2,List.take_left,List.drop_left]
    simp [execOp,hop,Instr.makeFunc,Result.andThen,he,he']
  ·trivial
 ·exact unA_ok hA hop (hg _)
 ·exact nilIfA_ok hT hop (hg _) (hg (.const .nilIface))
 ·exact nilSlA_ok hT hm hop (hg _) (hg (.const (.slice none 0 0))).vInv
 ·exact binA_ok hA hT hop (hg _) (hg _)
 ·exact convA_ok hA hT hm hop (hg _)
 ·exact indexA_ok hA hT hop (hg _) (hg _)
 ·exact indexAddrA_ok hT hm hop (hg _) (hg _)
 ·exact sliceA_ok hA hT hm hop hg (hg _)
 ·rename_i args tys
  split
  ·rename_i x ty h1 h2
   exact lenA_ok hA hT hm hop h1 h2 (hg _)
  ·trivial
 ·exact maxA_ok hA true hop hg
 ·exact maxA_ok hA false hop hg
 ·exact lookupA_ok hA hT hm hop (hg _) (hg _)
 ·trivial
end
end Go.AE
