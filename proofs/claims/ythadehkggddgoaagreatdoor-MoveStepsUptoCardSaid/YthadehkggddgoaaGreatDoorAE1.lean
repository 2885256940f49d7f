/- AE, part 1: abstract values, own memory, and what it means that a machine's memory realizes them. -/
import GoSem.ClaimData
import Derived.Calls
import Derived.Below
import Derived.Orders
import Derived.OrdersHeld
import Derived.Tactics
import Derived.Laws.Rows
import Derived.Laws.CopyRow
import Derived.Laws.Entries
import Derived.Laws.NewBlocks
import Derived.Laws.AppendOwn
import Derived.Laws.OwnMore
import Derived.Laws.BytesArg
import Derived.Laws.StructEq
import Derived.MapKept
set_option linter.unusedVariables false
set_option linter.unusedSimpArgs false
namespace Go.AE
inductive AV where
 | any
 | v (x:Value)
 | b (x:Bool)
 | p (k off:Nat)
 | q (k sz i off:Nat)
 | r (k:Nat)
 | l (sz:Nat) (es:List (List AV))
 | ip (cs:List AV)
 | a (cs:List AV)
 | t (vs:List AV)
 | f (fn:Nat) (caps:List AV)
 | ni
 | w (k sz lo n:Nat)
inductive MK where
 | int (k:IntKind)|str|bool
 deriving DecidableEq
inductive OB where
 | box (cs:List AV) (ty:Nat)
 | row (ety sz:Nat) (es:List (List AV))
 | dead
 | mp (kk vk:MK) (g:Value → Option Value)
structure St where
 tm:List AV
 own:List OB
structure Env where
 h:Nat → Option Obj
 blk:Nat → Nat
 row:Nat → Value
inductive RAV (E:Env):Bool → AV → Value → Prop where
 | any (m:Bool) (u:Value):RAV E m .any u
 | v (m:Bool) (x:Value) (h1:x.oneCell' = true):RAV E m (.v x) x
 | b (m:Bool) (x:Bool):RAV E m (.b x) (.bool x)
 | p (k off:Nat):RAV E true (.p k off) (.pointer (some ⟨E.blk k,off,none⟩))
 | q (k sz i off:Nat):RAV E true (.q k sz i off) (.pointer (some ⟨E.blk k,i * sz + off,none⟩))
 | r (k:Nat) (h1:(E.row k).oneCell' = true):RAV E true (.r k) (E.row k)
 | a (m:Bool) (cs:List AV) (vs:List Value) (hl:cs.length = vs.length) (h1:∀ x ∈ vs,x.oneCell' = true)
   (hc:∀ (i:Nat) (c:AV) (u:Value),cs[i]? = some c → vs[i]? = some u → RAV E m c u):RAV E m (.a cs) (.agg vs.toArray)
 | t (m:Bool) (cs:List AV) (vs:List Value) (hl:cs.length = vs.length)
   (hc:∀ (i:Nat) (c:AV) (u:Value),cs[i]? = some c → vs[i]? = some u → RAV E m c u):RAV E m (.t cs) (.tuple vs.toArray)
 | f (m:Bool) (fn:Nat) (cs:List AV) (vs:List Value) (hl:cs.length = vs.length)
   (hc:∀ (i:Nat) (c:AV) (u:Value),cs[i]? = some c → vs[i]? = some u → RAV E m c u):RAV E m (.f fn cs) (.func (.func (fn % 1000000)) (vs.take (fn / 1000000)).toArray (vs.drop (fn / 1000000)).toArray)
 | ip (m:Bool) (cs:List AV) (b off:Nat) (vals:Array Value) (ty:Nat) (fr:Nat × Nat) (hb:E.h b = some (.cells vals ty fr)) (hl:off + cs.length ≤ vals.size)
   (h1:∀ (i:Nat) (u:Value),i < cs.length → vals[off + i]? = some u → u.oneCell' = true)
   (hc:∀ (i:Nat) (c:AV) (u:Value),cs[i]? = some c → vals[off + i]? = some u → RAV E false c u):RAV E m (.ip cs) (.pointer (some ⟨b,off,none⟩))
 | ni (m:Bool) (t:TypeId) (x:Value):RAV E m .ni (.iface t x)
 | w (k sz lo n c:Nat) (hn:n ≤ c) (hm:c ≤ maxLen):RAV E true (.w k sz lo n) (.slice (some ⟨E.blk k,lo * sz,none⟩) n c)
 | w0 (k sz lo c:Nat) (a:Option Addr) (hm:c ≤ maxLen):RAV E true (.w k sz lo 0) (.slice a 0 c)
 | lnil (m:Bool) (sz:Nat):RAV E m (.l sz []) (.slice none 0 0)
 | lzero (m:Bool) (sz:Nat) (a:Addr) (c:Nat) (hm:c ≤ maxLen):RAV E m (.l sz []) (.slice (some a) 0 c)
 | l (m:Bool) (sz:Nat) (es:List (List AV)) (b off c:Nat) (vals:Array Value) (ty:Nat) (fr:Nat × Nat) (hb:E.h b = some (.cells vals ty fr)) (hs:∀ e ∈ es,e.length = sz)
   (hl:off + es.length * sz ≤ vals.size) (hc:es.length ≤ c) (hm:c ≤ maxLen)
   (h1:∀ (i:Nat) (u:Value),i < es.length * sz → vals[off + i]? = some u → u.oneCell' = true)
   (he:∀ (i j:Nat) (e:List AV) (x:AV) (u:Value),es[i]? = some e → e[j]? = some x → vals[off + i * sz + j]? = some u → RAV E false x u):RAV E m (.l sz es) (.slice (some ⟨b,off,none⟩) es.length c)
inductive Ment (S:Nat → Prop):AV → Prop where
 | any:Ment S .any
 | v (x:Value):Ment S (.v x)
 | b (x:Bool):Ment S (.b x)
 | p (k off:Nat) (h:S k):Ment S (.p k off)
 | q (k sz i off:Nat) (h:S k):Ment S (.q k sz i off)
 | r (k:Nat) (h:S k):Ment S (.r k)
 | l (sz:Nat) (es:List (List AV)):Ment S (.l sz es)
 | ip (cs:List AV):Ment S (.ip cs)
 | ni:Ment S .ni
 | w (k sz lo n:Nat) (h:S k):Ment S (.w k sz lo n)
 | a (cs:List AV) (h:∀ c ∈ cs,Ment S c):Ment S (.a cs)
 | t (cs:List AV) (h:∀ c ∈ cs,Ment S c):Ment S (.t cs)
 | f (fn:Nat) (cs:List AV) (h:∀ c ∈ cs,Ment S c):Ment S (.f fn cs)
theorem Ment.mono {S S' : Nat → Prop} {x:AV} (h:Ment S x) (hn:∀ k,S k → S' k):Ment S' x:=by
 induction h with
 | any=>exact .any
 | v x=>exact .v x
 | b x=>exact .b x
 | p k off h=>exact .p k off (hn k h)
 | q k sz i off h=>exact .q k sz i off (hn k h)
 | r k h=>exact .r k (hn k h)
 | l sz es=>exact .l sz es
 | ip cs=>exact .ip cs
 | ni=>exact .ni
 | w k sz lo n h=>exact .w k sz lo n (hn k h)
 | a cs _ ih=>exact .a cs ih
 | t cs _ ih=>exact .t cs ih
 | f fn cs _ ih=>exact .f fn cs ih
abbrev Bl (n:Nat):AV → Prop:=Ment (· < n)
theorem Bl.mono {n m:Nat} {x:AV} (h:Bl n x) (hn:n ≤ m):Bl m x:=Ment.mono h fun k hk=>Nat.lt_of_lt_of_le hk hn
theorem RAV.mono {E E' : Env} {S:Nat → Prop} {m:Bool} {x:AV} {u:Value} (h:RAV E m x u) (hh:∀ b o,E.h b = some o → E'.h b = some o)
  (hk:m = true → Ment S x ∧ ∀ k,S k → E'.blk k = E.blk k ∧ E'.row k = E.row k):RAV E' m x u:=by
 induction h with
 | any m u=>exact .any m u
 | v m x h1=>exact .v m x h1
 | b m x=>exact .b m x
 | p k off =>
  obtain ⟨hb,hkk⟩:=hk rfl
  cases hb with
  | p _ _ hlt=>rw [← (hkk k hlt).1]; exact .p k off
 | q k sz i off =>
  obtain ⟨hb,hkk⟩:=hk rfl
  cases hb with
  | q _ _ _ _ hlt=>rw [← (hkk k hlt).1]; exact .q k sz i off
 | r k h1 =>
  obtain ⟨hb,hkk⟩:=hk rfl
  cases hb with
  | r _ hlt=>rw [← (hkk k hlt).2] at h1 ⊢; exact .r k h1
 | a m cs vs hl h1 _ ih =>
  refine .a m cs vs hl h1 fun i c u hc hu=>ih i c u hc hu fun hm=>?_
  obtain ⟨hb,hkk⟩:=hk hm
  cases hb with
  | a _ hb=>exact ⟨hb c (List.mem_of_getElem? hc),hkk⟩
 | t m cs vs hl _ ih =>
  refine .t m cs vs hl fun i c u hc hu=>ih i c u hc hu fun hm=>?_
  obtain ⟨hb,hkk⟩:=hk hm
  cases hb with
  | t _ hb=>exact ⟨hb c (List.mem_of_getElem? hc),hkk⟩
 | f m fn cs vs hl _ ih =>
  refine .f m fn cs vs hl fun i c u hc hu=>ih i c u hc hu fun hm=>?_
  obtain ⟨hb,hkk⟩:=hk hm
  cases hb with
  | f _ _ hb=>exact ⟨hb c (List.mem_of_getElem? hc),hkk⟩
 | ip m cs b off vals ty fr hb hl h1 _ ih=>exact .ip m cs b off vals ty fr (hh _ _ hb) hl h1 fun i c u hc hu=>ih i c u hc hu (fun h=>by cases h)
 | ni m t x=>exact .ni m t x
 | w k sz lo n c hn hm =>
  obtain ⟨hb,hkk⟩:=hk rfl
  cases hb with
  | w _ _ _ _ hlt=>rw [← (hkk k hlt).1]; exact .w k sz lo n c hn hm
 | w0 k sz lo c a hm=>exact .w0 k sz lo c a hm
 | lnil m sz=>exact .lnil m sz
 | lzero m sz a c hm=>exact .lzero m sz a c hm
 | l m sz es b off c vals ty fr hb hs hl hc hm h1 _ ih=>exact .l m sz es b off c vals ty fr (hh _ _ hb) hs hl hc hm h1 fun i j e x u h2 h3 h4=>ih i j e x u h2 h3 h4 (fun h=>by cases h)
theorem RAV.imm {E E' : Env} {x:AV} {u:Value} (h:RAV E false x u) (hh:∀ b o,E.h b = some o → E'.h b = some o):RAV E' false x u :=
 h.mono (S:=fun _=>True) hh (fun h=>by cases h)
theorem RAV.up {E:Env} {m:Bool} {x:AV} {u:Value} (h:RAV E m x u):RAV E true x u:=by
 induction h with
 | any m u=>exact .any _ u
 | v m x h1=>exact .v _ x h1
 | b m x=>exact .b _ x
 | p k off=>exact .p k off
 | q k sz i off=>exact .q k sz i off
 | r k h1=>exact .r k h1
 | a m cs vs hl h1 _ ih=>exact .a _ cs vs hl h1 ih
 | t m cs vs hl _ ih=>exact .t _ cs vs hl ih
 | f m fn cs vs hl _ ih=>exact .f _ fn cs vs hl ih
 | ip m cs b off vals ty fr hb hl h1 hc _=>exact .ip _ cs b off vals ty fr hb hl h1 hc
 | ni m t x=>exact .ni _ t x
 | w k sz lo n c hn hm=>exact .w k sz lo n c hn hm
 | w0 k sz lo c a hm=>exact .w0 k sz lo c a hm
 | lnil m sz=>exact .lnil _ sz
 | lzero m sz a c hm=>exact .lzero _ sz a c hm
 | l m sz es b off c vals ty fr hb hs hl hc hm h1 he _=>exact .l _ sz es b off c vals ty fr hb hs hl hc hm h1 he
theorem RAV.bl {E:Env} {m:Bool} {x:AV} {u:Value} (h:RAV E m x u) (hm:m = false):Ment (fun _=>False) x:=by
 induction h with
 | any m u=>exact .any
 | v m x h1=>exact .v x
 | b m x=>exact .b x
 | p k off=>cases hm
 | q k sz i off=>cases hm
 | r k h1=>cases hm
 | a m cs vs hl h1 _ ih =>
  refine .a cs fun c hc=>?_
  obtain ⟨i,hi,rfl⟩:=List.getElem_of_mem hc
  exact ih i _ (vs[i]'(hl ▸ hi)) (List.getElem?_eq_getElem hi) (List.getElem?_eq_getElem _) hm
 | t m cs vs hl _ ih =>
  refine .t cs fun c hc=>?_
  obtain ⟨i,hi,rfl⟩:=List.getElem_of_mem hc
  exact ih i _ (vs[i]'(hl ▸ hi)) (List.getElem?_eq_getElem hi) (List.getElem?_eq_getElem _) hm
 | f m fn cs vs hl _ ih =>
  refine .f fn cs fun c hc=>?_
  obtain ⟨i,hi,rfl⟩:=List.getElem_of_mem hc
  exact ih i _ (vs[i]'(hl ▸ hi)) (List.getElem?_eq_getElem hi) (List.getElem?_eq_getElem _) hm
 | ip m cs b off vals ty fr hb hl h1 hc _=>exact .ip cs
 | ni m t x=>exact .ni
 | w=>cases hm
 | w0=>cases hm
 | lnil m sz=>exact .l _ _
 | lzero m sz a c=>exact .l _ _
 | l m sz es b off c vals ty fr hb hs hl hc hm h1 he _=>exact .l _ _
def AV.cell:AV → Bool
 | .v _ | .b _ | .p _ _ | .q _ _ _ _ | .r _ | .l _ _ | .ip _ | .f _ _ | .ni | .w _ _ _ _=>true
 | _=>false
theorem RAV.cell {E:Env} {m:Bool} {x:AV} {u:Value} (h:RAV E m x u) (hx:x.cell = true):u.oneCell' = true:=by
 cases h <;> first|assumption|rfl|(simp [AV.cell] at hx)
def Occ (E:Env) (k:Nat):OB → Prop
 | .box _ _=>True
 | .row _ _ _=>(E.row k).ownBlock = some (E.blk k)
 | .dead=>False
 | .mp _ _ _=>True
def MK.has:MK → Value → Prop
 | .int k,v=>∃ n,v = .int k n
 | .str,v=>∃ s,v = .string s
 | .bool,v=>∃ b,v = .bool b
structure MapFits (kk vk:MK) (g:Value → Option Value) (es:Array MapEntry):Prop where
 keys:∀ e ∈ es.toList,kk.has e.key
 vals:∀ e ∈ es.toList,vk.has e.val
 uniq:∀ (i j:Nat) (e e' : MapEntry),es.toList[i]? = some e → es.toList[j]? = some e' → e.key = e'.key → i = j
 get:∀ x v,g x = some v ↔ ∃ e ∈ es.toList,e.key = x ∧ e.val = v
structure RowOK (E:Env) (k:Nat) (W:World) (ety sz:Nat) (es:List (List AV)) (xs:List Value):Prop where
 owns:W.ownsRow 0 ety sz (E.row k) es.length xs
 len:∀ e ∈ es,e.length = sz
 one:∀ x ∈ xs,x.oneCell' = true
 rav:∀ (i j:Nat) (e:List AV) (x:AV) (u:Value),es[i]? = some e → e[j]? = some x → xs[i * sz + j]? = some u → RAV E false x u
 blk:∀ g,(E.row k).ownBlock = some g → g = E.blk k
def OBOK (E:Env) (k:Nat) (W:World):OB → Prop
 | .box cs ty=>∃ vs:List Value,W.heap[E.blk k]? = some (.cells vs.toArray ty (0,0)) ∧ cs.length = vs.length ∧ (∀ x ∈ vs,x.oneCell' = true) ∧
   ∀ (i:Nat) (c:AV) (u:Value),cs[i]? = some c → vs[i]? = some u → RAV E true c u
 | .row ety sz es=>∃ xs:List Value,RowOK E k W (ety % 1000000) sz es xs
 | .dead=>True
 | .mp kk vk g=>∃ (es:Array MapEntry) (clock:Nat),W.heap[E.blk k]? = some (.map es clock) ∧ E.row k = .map (some (E.blk k)) ∧ MapFits kk vk g es
def isBox:Option OB → Bool
 | some (.box _ _)=>true
 | some (.mp _ _ _)=>true
 | some (.row ety _ _)=>decide (1000000 ≤ ety)
 | _=>false
theorem RowOK.shape {E:Env} {k:Nat} {W:World} {ety sz:Nat} {es:List (List AV)} {xs:List Value} (h:RowOK E k W ety sz es xs) :
  (E.row k = .slice none 0 0 ∧ es = []) ∨ ∃ (cap:Nat) (cur:Array Value),E.row k = .slice (some ⟨E.blk k,0,none⟩) es.length cap ∧ W.heap[E.blk k]? = some (.cells cur ety (0,0)) ∧ es.length ≤ cap ∧ cap ≤ maxLen ∧
   cur.size = cap * sz ∧ xs.length = es.length * sz ∧ ∀ i,i < es.length * sz → cur[i]? = xs[i]?:=by
 obtain ⟨hl,h'⟩:=h.owns
 rcases h' with ⟨h1,h2⟩|⟨g,cap,cur,hv,_,hg,hn,hc,hs,ht⟩
 ·exact .inl ⟨h1,List.eq_nil_of_length_eq_zero h2⟩
 ·have:=h.blk g (by rw [hv]; rfl)
  subst this
  refine .inr ⟨cap,cur,hv,hg,hn,hc,hs,hl,fun i hi=>?_⟩
  rw [← ht,List.getElem?_take_of_lt hi]
  simp
structure Kn where
 is:Nat → Prop
 an:Nat → Option (Nat × Value)
 gl:Nat → Option Obj
structure Mem (W0:World) (mine:Nat → Prop) (kn:Kn) (E:Env) (own:List OB) (W:World):Prop where
 os:W.os = W0.os
 tape:W.tape = W0.tape
 output:W.output = W0.output
 size:W0.heap.size ≤ W.heap.size
 keep:∀ b,b < W0.heap.size → ¬ mine b → W.heap[b]? = W0.heap[b]?
 facts:∀ b o,E.h b = some o → W.heap[b]? = some o
 old:∀ b o,E.h b = some o → kn.is b ∨ mine b ∨ W0.heap.size ≤ b
 owns:∀ (k:Nat) (ob:OB),own[k]? = some ob → OBOK E k W ob
 disj:∀ (k k' : Nat) (ob ob' : OB),own[k]? = some ob → own[k']? = some ob' → k ≠ k' → Occ E k ob → Occ E k' ob' → E.blk k ≠ E.blk k'
 sep:∀ (k:Nat) (ob:OB),own[k]? = some ob → Occ E k ob → E.h (E.blk k) = none ∧ (W0.heap.size ≤ E.blk k ∨ mine (E.blk k))
 anch:∀ k b,kn.an k = some b → (E.blk k = b.1 ∧ E.row k = b.2) ∧ isBox own[k]? = true
 glob:∀ b o,kn.gl b = some o → E.h b = some o
structure Rel (W0:World) (mine:Nat → Prop) (kn:Kn) (E:Env) (σ : St) (a:Act) (W:World):Prop where
 mem:Mem W0 mine kn E σ.own W
 defs:a.defers = []
 len:a.tmps.size = σ.tm.length
 tm:∀ (i:Nat) (x:AV),σ.tm[i]? = some x → RAV E true x (a.tmps.getD i undef)
 wf:∀ x ∈ σ.tm,Bl σ.own.length x
 wfo:∀ (k:Nat) (cs:List AV) (ty:Nat),σ.own[k]? = some (OB.box cs ty) → ∀ x ∈ cs,Bl σ.own.length x
structure Snap (E:Env) (own:List OB) (W W' : World):Prop where
 facts:∀ b o,E.h b = some o → W'.heap[b]? = some o
 owns:∀ (k:Nat) (ob:OB),own[k]? = some ob → Occ E k ob → W'.heap[E.blk k]? = W.heap[E.blk k]?
theorem Mem.snap {W0 W:World} {mine:Nat → Prop} {kn:Kn} {E:Env} {own:List OB} (h:Mem W0 mine kn E own W):Snap E own W W:=⟨h.facts,fun _ _ _ _=>rfl⟩
theorem isBox_lt {own:List OB} {k:Nat} (h:isBox own[k]? = true):k < own.length:=by
 cases hq:own[k]? with
 | none=>rw [hq] at h; cases h
 | some ob=>exact (List.getElem?_eq_some_iff.1 hq).1
theorem Occ.lt {E:Env} {k:Nat} {W:World} {ob:OB} (ho:Occ E k ob) (h:OBOK E k W ob):E.blk k < W.heap.size:=by
 cases ob with
 | box cs ty=>obtain ⟨vs,hv,_⟩:=h; exact (Array.getElem?_eq_some_iff.1 hv).1
 | row ety sz es =>
  obtain ⟨xs,h⟩:=h
  rcases h.shape with ⟨hn,_⟩|⟨cap,cur,_,hv,_⟩
  ·simp [Occ,hn,Value.ownBlock] at ho
  ·exact (Array.getElem?_eq_some_iff.1 hv).1
 | dead=>exact ho.elim
 | mp kk vk g=>obtain ⟨es,c,hv,_⟩:=h; exact (Array.getElem?_eq_some_iff.1 hv).1
theorem ownsRow_of_block {w w' : World} {base e size n:Nat} {v:Value} {xs:List Value} (h:w.ownsRow base e size v n xs) (hw:∀ g,v.ownBlock = some g → w'.heap[g]? = w.heap[g]?):w'.ownsRow base e size v n xs:=by
 refine ⟨h.1,?_⟩
 rcases h.2 with hn|⟨g,cap,cur,rfl,hb,hg,rest⟩
 ·exact .inl hn
 ·exact .inr ⟨g,cap,cur,rfl,hb,by rw [hw g rfl]; exact hg,rest⟩
theorem OBOK.snap {E:Env} {k:Nat} {W W' : World} {ob:OB} (h:OBOK E k W ob) (hw:Occ E k ob → W'.heap[E.blk k]? = W.heap[E.blk k]?):OBOK E k W' ob:=by
 cases ob with
 | box cs ty=>obtain ⟨vs,hv,r⟩:=h; exact ⟨vs,by rw [hw trivial]; exact hv,r⟩
 | row ety sz es =>
  obtain ⟨xs,h⟩:=h
  exact ⟨xs,ownsRow_of_block h.owns fun g hg=>by
   have:=h.blk g hg
   subst this
   exact hw hg,h.len,h.one,h.rav,h.blk⟩
 | dead=>trivial
 | mp kk vk g=>obtain ⟨es,c,hv,r⟩:=h; exact ⟨es,c,by rw [hw trivial]; exact hv,r⟩
inductive Wk:AV → AV → Prop where
 | any (x:AV):Wk x .any
 | refl (x:AV):Wk x x
 | nil (sz:Nat):Wk (.v (.slice none 0 0)) (.l sz [])
 | vb (x:Bool):Wk (.v (.bool x)) (.b x)
 | bv (x:Bool):Wk (.b x) (.v (.bool x))
 | a (cs ds:List AV) (hl:cs.length = ds.length) (h:∀ (i:Nat) (c d:AV),cs[i]? = some c → ds[i]? = some d → Wk c d):Wk (.a cs) (.a ds)
 | t (cs ds:List AV) (hl:cs.length = ds.length) (h:∀ (i:Nat) (c d:AV),cs[i]? = some c → ds[i]? = some d → Wk c d):Wk (.t cs) (.t ds)
theorem Wk.rav {E:Env} {x y:AV} (h:Wk x y):∀ {m:Bool} {u:Value},RAV E m x u → RAV E m y u:=by
 induction h with
 | any x=>exact fun _=>.any _ _
 | refl x=>exact fun h=>h
 | nil sz=>intro m u h; cases h; exact .lnil _ _
 | vb x=>intro m u h; cases h; exact .b _ _
 | bv x=>intro m u h; cases h; exact .v _ _ rfl
 | a cs ds hl _ ih =>
  intro m u h
  cases h with
  | a _ _ vs hl' h1 hc =>
   refine .a _ ds vs (hl ▸ hl') h1 fun i d u hd hu=>?_
   have hi:i < cs.length:=by rw [hl]; exact (List.getElem?_eq_some_iff.1 hd).1
   exact ih i _ d (List.getElem?_eq_getElem hi) hd (hc i _ u (List.getElem?_eq_getElem hi) hu)
 | t cs ds hl _ ih =>
  intro m u h
  cases h with
  | t _ _ vs hl' hc =>
   refine .t _ ds vs (hl ▸ hl') fun i d u hd hu=>?_
   have hi:i < cs.length:=by rw [hl]; exact (List.getElem?_eq_some_iff.1 hd).1
   exact ih i _ d (List.getElem?_eq_getElem hi) hd (hc i _ u (List.getElem?_eq_getElem hi) hu)
end Go.AE
