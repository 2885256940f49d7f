/- AE, part 9: calls: contracts with own blocks handed over; what the caller has after them. AE, part 13 (between 9 and 10): a variable that is only read from now on; the nil slice as an own row. -/
import Derived.Test.YthadehkggddgoaaGreatDoorAE8
section
set_option linter.unusedVariables false
set_option linter.unusedSimpArgs false
namespace Go.AE
open Go
def renP (g:Nat → Option Nat):AV → AV
 | .r k=>match g k with|some j=>.r j|none=>.any
 | .q k sz i o=>match g k with|some j=>.q j sz i o|none=>.any
 | .w k sz lo n=>match g k with|some j=>.w j sz lo n|none=>.any
 | .p k o=>match g k with|some j=>.p j o|none=>.any
 | .v x=>.v x
 | .b x=>.b x
 | .l sz es=>.l sz es
 | .ip cs=>.ip cs
 | .ni=>.ni
 | .f _ _=>.any
 | .a _=>.any
 | .t _=>.any
 | .any=>.any
def renC (g:Nat → Option Nat):AV → AV
 | .f fn caps=>.f fn (caps.map (renP g))
 | x=>renP g x
def renM (g:Nat → Option Nat):AV → AV
 | .a cs=>.a (cs.map (renC g))
 | x=>renC g x
def renT (g:Nat → Option Nat):AV → AV
 | .t vs=>.t (vs.map (renM g))
 | x=>renM g x
structure Ren (E E' : Env) (g:Nat → Option Nat):Prop where
 facts:∀ b o,E.h b = some o → E'.h b = some o
 same:∀ k j,g k = some j → E'.blk j = E.blk k ∧ E'.row j = E.row k
section
variable {P:Program} {E E' : Env} {own:List OB} {σ : St} {W W0:World} {mine:Nat → Prop} {kn:Kn} {a:Act} {k:Nat} {g:Nat → Option Nat}
theorem renP_rav (hg:Ren E E' g) {m:Bool} {x:AV} {u:Value} (h:RAV E m x u):RAV E' m (renP g x) u:=by
 have h0:=h
 cases h with
 | p k o =>
  simp only [renP]; split
  ·rename_i j hj; rw [← (hg.same k j hj).1]; exact .p j o
  ·exact .any _ _
 | q k sz i o =>
  simp only [renP]; split
  ·rename_i j hj; rw [← (hg.same k j hj).1]; exact .q j sz i o
  ·exact .any _ _
 | w k sz lo n c hn hm =>
  simp only [renP]; split
  ·rename_i j hj; rw [← (hg.same k j hj).1]; exact .w j sz lo n c hn hm
  ·exact .any _ _
 | w0 k sz lo c a hm =>
  simp only [renP]; split
  ·exact .w0 _ _ _ _ _ hm
  ·exact .any _ _
 | r k h1 =>
  simp only [renP]; split
  ·rename_i j hj; rw [← (hg.same k j hj).2] at h1 ⊢; exact .r j h1
  ·exact .any _ _
 | v _ _ h1=>exact .v _ _ h1
 | b _ x=>exact .b _ x
 | ni _ t x=>exact .ni _ t x
 | ip=>exact h0.mono (S:=fun _=>False) hg.facts fun _=>⟨.ip _,fun _ h=>h.elim⟩
 | lnil=>exact .lnil _ _
 | lzero _ _ a c hm=>exact .lzero _ _ a c hm
 | l=>exact h0.mono (S:=fun _=>False) hg.facts fun _=>⟨.l _ _,fun _ h=>h.elim⟩
 | any=>exact .any _ _
 | a=>exact .any _ _
 | t=>exact .any _ _
 | f=>exact .any _ _
theorem renC_rav (hg:Ren E E' g) {m:Bool} {x:AV} {u:Value} (h:RAV E m x u):RAV E' m (renC g x) u:=by
 have h0:=h
 cases h with
 | f _ fn cs vs hl hc =>
  refine .f _ fn _ vs (by simpa using hl) fun i c u hi hu=>?_
  rw [List.getElem?_map] at hi
  cases hq:cs[i]? with
  | none=>rw [hq] at hi; cases hi
  | some d=>rw [hq] at hi; cases hi; exact renP_rav hg (hc i d u hq hu)
 | _=>exact renP_rav hg h0
theorem renM_rav (hg:Ren E E' g) {m:Bool} {x:AV} {u:Value} (h:RAV E m x u):RAV E' m (renM g x) u:=by
 have h0:=h
 cases h with
 | a _ cs vs hl h1 hc =>
  refine .a _ _ vs (by simpa using hl) h1 fun i c u hi hu=>?_
  rw [List.getElem?_map] at hi
  cases hq:cs[i]? with
  | none=>rw [hq] at hi; cases hi
  | some d=>rw [hq] at hi; cases hi; exact renC_rav hg (hc i d u hq hu)
 | _=>exact renC_rav hg h0
theorem renT_rav (hg:Ren E E' g) {m:Bool} {x:AV} {u:Value} (h:RAV E m x u):RAV E' m (renT g x) u:=by
 have h0:=h
 cases h with
 | t _ cs vs hl hc =>
  refine .t _ _ vs (by simpa using hl) fun i c u hi hu=>?_
  rw [List.getElem?_map] at hi
  cases hq:cs[i]? with
  | none=>rw [hq] at hi; cases hi
  | some d=>rw [hq] at hi; cases hi; exact renM_rav hg (hc i d u hq hu)
 | _=>exact renM_rav hg h0
variable {S S' : Nat → Prop}
theorem renP_ment {x:AV} (h:Ment S x) (hg:∀ k j,S k → g k = some j → S' j):Ment S' (renP g x):=by
 cases h with
 | p k o h=>simp only [renP]; split; exact .p _ o (hg _ _ h ‹_›); exact .any
 | q k sz i o h=>simp only [renP]; split; exact .q _ sz i o (hg _ _ h ‹_›); exact .any
 | w k sz lo n h=>simp only [renP]; split; exact .w _ sz lo n (hg _ _ h ‹_›); exact .any
 | r k h=>simp only [renP]; split; exact .r _ (hg _ _ h ‹_›); exact .any
 | v x=>exact .v x
 | b x=>exact .b x
 | l sz es=>exact .l sz es
 | ip cs=>exact .ip cs
 | ni=>exact .ni
 | _=>exact .any
theorem renC_ment {x:AV} (h:Ment S x) (hg:∀ k j,S k → g k = some j → S' j):Ment S' (renC g x):=by
 have h0:=h
 cases h with
 | f fn cs h=>exact .f fn _ fun c hc=>by obtain ⟨d,hd,rfl⟩:=List.mem_map.1 hc; exact renP_ment (h d hd) hg
 | _=>exact renP_ment h0 hg
theorem renM_ment {x:AV} (h:Ment S x) (hg:∀ k j,S k → g k = some j → S' j):Ment S' (renM g x):=by
 have h0:=h
 cases h with
 | a cs h=>exact .a _ fun c hc=>by obtain ⟨d,hd,rfl⟩:=List.mem_map.1 hc; exact renC_ment (h d hd) hg
 | _=>exact renC_ment h0 hg
theorem renT_ment {x:AV} (h:Ment S x) (hg:∀ k j,S k → g k = some j → S' j):Ment S' (renT g x):=by
 have h0:=h
 cases h with
 | t cs h=>exact .t _ fun c hc=>by obtain ⟨d,hd,rfl⟩:=List.mem_map.1 hc; exact renM_ment (h d hd) hg
 | _=>exact renM_ment h0 hg
theorem OBOK.ren {j j' : Nat} {ob:OB} (hg:Ren E E' g) (hj:E'.blk j' = E.blk j ∧ E'.row j' = E.row j) (h:OBOK E j W ob):OBOK E' j' W (ob.map (renC g)):=by
 cases ob with
 | box cs ty =>
  obtain ⟨vs,hv,hl,h1,hr⟩:=h
  refine ⟨vs,by rw [hj.1]; exact hv,by simpa using hl,h1,fun i c u hi hu=>?_⟩
  rw [List.getElem?_map] at hi
  cases hq:cs[i]? with
  | none=>rw [hq] at hi; cases hi
  | some d=>rw [hq] at hi; cases hi; exact renC_rav hg (hr i d u hq hu)
 | row ety sz es =>
  obtain ⟨xs,h⟩:=h
  exact ⟨xs,by rw [hj.2]; exact h.owns,h.len,h.one,fun i j e x u h1 h2 h3=>(h.rav i j e x u h1 h2 h3).imm hg.facts,by rw [hj.1,hj.2]; exact h.blk⟩
 | dead=>trivial
 | mp kk vk f =>
  obtain ⟨es,c,hv,hr,hf⟩:=h
  exact ⟨es,c,by rw [hj.1]; exact hv,by rw [hj.1,hj.2]; exact hr,hf⟩
theorem Occ.ren {j j' : Nat} {ob:OB} (hj:E'.blk j' = E.blk j ∧ E'.row j' = E.row j):Occ E' j' (ob.map (renC g)) ↔ Occ E j ob:=by
 cases ob <;> simp [OB.map,Occ,hj.1,hj.2]
end
def posOf:List Nat → Nat → Option Nat
 | [],_=>none
 | j :: js,k=>if j = k then some 0 else match posOf js k with|some i=>some (i + 1)|none=>none
theorem posOf_some:∀ {js:List Nat} {k i:Nat},posOf js k = some i → js[i]? = some k
 | [],_,_,h=>by cases h
 | j :: js,k,i,h=>by
  simp only [posOf] at h
  split at h
  ·rename_i e; cases h; simp [e]
  ·split at h
   ·rename_i q hq; cases h; simpa using posOf_some hq
   ·cases h
theorem posOf_get:∀ {js:List Nat} {k i:Nat},js.Nodup → js[i]? = some k → posOf js k = some i
 | [],_,_,_,h=>by simp at h
 | j :: js,k,0,_,h=>by simp at h; simp [posOf,h]
 | j :: js,k,i + 1,hn,h=>by
  have h' : js[i]? = some k:=by simpa using h
  have hne:j ≠ k:=fun e=>(List.nodup_cons.1 hn).1 (e ▸ List.mem_of_getElem? h')
  simp [posOf,hne,posOf_get (List.nodup_cons.1 hn).2 h']
def gout (n:Nat) (js:List Nat) (i:Nat):Option Nat :=
 match js[i]? with
 | some k=>some k
 | none=>some (n + (i - js.length))
def gkeep (own:List OB) (js:List Nat) (k:Nat):Option Nat :=
 match posOf js k with
 | none=>match own[k]? with
  | some _=>some k
  | none=>none
 | some _=>match isBox own[k]? with
  | true=>some k
  | false=>none
def ownIn (own:List OB) (js:List Nat):List OB:=js.map fun k=>((own[k]?).getD .dead).map (renC (posOf js))
def ownRest (js:List Nat) (own' : List OB) (gk go:Nat → Option Nat):Nat → List OB → List OB
 | _,[]=>[]
 | k,ob :: l=>(match posOf js k with
  | none=>ob.map (renC gk)
  | some i=>((own'[i]?).getD .dead).map (renC go)) :: ownRest js own' gk go (k + 1) l
def callSt (σ : St) (js:List Nat) (own' : List OB):St :=
 {tm:=σ.tm.map (renT (gkeep σ.own js)),
  own:=ownRest js own' (gkeep σ.own js) (gout σ.own.length js) 0 σ.own ++ (own'.drop js.length).map (OB.map (renC (gout σ.own.length js))) }
theorem ownRest_get {js:List Nat} {own' : List OB} {gk go:Nat → Option Nat}:∀ (l:List OB) (n k:Nat),(ownRest js own' gk go n l)[k]? = (l[k]?).map fun ob=>match posOf js (n + k) with
  | none=>ob.map (renC gk)
  | some i=>((own'[i]?).getD .dead).map (renC go)
 | [],_,k=>by simp [ownRest]
 | ob :: l,n,0=>by simp [ownRest]
 | ob :: l,n,k + 1=>by
  simp only [ownRest,List.getElem?_cons_succ]
  rw [ownRest_get l (n + 1) k]
  rw [show n + 1 + k = n + (k + 1) by omega]
theorem ownRest_len {js:List Nat} {own' : List OB} {gk go:Nat → Option Nat}:∀ (l:List OB) (n:Nat),(ownRest js own' gk go n l).length = l.length
 | [],_=>rfl
 | ob :: l,n=>by simp [ownRest,ownRest_len l (n + 1)]
def mineOf (E:Env) (own:List OB) (b:Nat):Prop:=∃ i ob,own[i]? = some ob ∧ Occ E i ob ∧ b = E.blk i
def knOf (E:Env) (own:List OB):Kn:={ is:=fun b=>E.h b ≠ none,an:=fun i=>if isBox own[i]? = true then some (E.blk i,E.row i) else none,gl:=E.h }
def Wfo (own:List OB):Prop:=∀ (k:Nat) (cs:List AV) (ty:Nat),own[k]? = some (OB.box cs ty) → ∀ x ∈ cs,Bl own.length x
def ACall (P:Program) (f:Nat) (own:List OB) (args:List AV) (own' : List OB) (res:AV):Prop :=
 ∀ (E:Env) (W:World) (vs:List Value),Mem W (mineOf E own) (knOf E own) E own W → Wfo own → args.length = vs.length →
  (∀ (i:Nat) (x:AV) (u:Value),args[i]? = some x → vs[i]? = some u → RAV E true x u ∧ Bl own.length x) →
  CallT P f vs.toArray W fun v W' => ∃ E', Mem W (mineOf E own) (knOf E own) E' own' W' ∧ Wfo own' ∧ RAV E' true res v ∧ Bl own'.length res
def ACallG (G:(Nat → Option Obj) → Prop) (P:Program) (f:Nat) (own:List OB) (args:List AV) (own' : List OB) (res:AV):Prop :=
 ∀ (E:Env) (W:World) (vs:List Value),G E.h → Mem W (mineOf E own) (knOf E own) E own W → Wfo own → args.length = vs.length →
  (∀ (i:Nat) (x:AV) (u:Value),args[i]? = some x → vs[i]? = some u → RAV E true x u ∧ Bl own.length x) →
  CallT P f vs.toArray W fun v W' => ∃ E', Mem W (mineOf E own) (knOf E own) E' own' W' ∧ Wfo own' ∧ RAV E' true res v ∧ Bl own'.length res
theorem ACall.g {G:(Nat → Option Obj) → Prop} {P:Program} {f:Nat} {own own' : List OB} {args:List AV} {res:AV} (h:ACall P f own args own' res):ACallG G P f own args own' res:=fun E W vs _=>h E W vs
def Stays (G:(Nat → Option Obj) → Prop):Prop:=∀ h h', (∀ b o,h b = some o → h' b = some o) → G h → G h'
section
variable {P:Program} {E E' : Env} {own:List OB} {σ : St} {W W' W0:World} {mine:Nat → Prop} {kn:Kn} {a:Act} {js:List Nat} {own' : List OB}
theorem OB.map_box {g:AV → AV} {ob:OB} {cs:List AV} {ty:Nat} (h:ob.map g = .box cs ty):∃ cs0,ob = .box cs0 ty ∧ cs = cs0.map g:=by
 cases ob <;> simp only [OB.map] at h <;> cases h
 exact ⟨_,rfl,rfl⟩
theorem ownIn_get {own:List OB} {js:List Nat} {i:Nat} {ob:OB} (h:(ownIn own js)[i]? = some ob):∃ k,js[i]? = some k ∧ ob = ((own[k]?).getD .dead).map (renC (posOf js)):=by
 unfold ownIn at h
 rw [List.getElem?_map] at h
 cases hq:js[i]? with
 | none=>rw [hq] at h; cases h
 | some k=>rw [hq] at h; cases h; exact ⟨k,rfl,rfl⟩
def envIn (E:Env) (js:List Nat):Env:={ h:=E.h,blk:=fun i=>E.blk ((js[i]?).getD 0),row:=fun i=>E.row ((js[i]?).getD 0) }
theorem renIn (E:Env) (js:List Nat):Ren E (envIn E js) (posOf js) :=
 ⟨fun _ _ h=>h,fun k j h=>by have:=posOf_some h; simp [envIn,this]⟩
theorem ownIn_src (hlt:∀ k ∈ js,k < own.length) {i:Nat} {ob:OB} (h:(ownIn own js)[i]? = some ob) :
  ∃ k ob0,js[i]? = some k ∧ own[k]? = some ob0 ∧ ob = ob0.map (renC (posOf js)) ∧ (envIn E js).blk i = E.blk k ∧ (envIn E js).row i = E.row k:=by
 obtain ⟨k,hk,rfl⟩:=ownIn_get h
 have:=hlt k (List.mem_of_getElem? hk)
 exact ⟨k,own[k],hk,List.getElem?_eq_getElem this,by rw [List.getElem?_eq_getElem this]; rfl,by simp [envIn,hk],by simp [envIn,hk]⟩
theorem Mem.inn (hM:Mem W0 mine kn E own W) (hnd:js.Nodup) (hlt:∀ k ∈ js,k < own.length) :
  Mem W (mineOf (envIn E js) (ownIn own js)) (knOf (envIn E js) (ownIn own js)) (envIn E js) (ownIn own js) W:=by
 refine ⟨rfl,rfl,rfl,Nat.le_refl _,fun _ _ _=>rfl,hM.facts,fun b o h=>.inl (by simp only [knOf]; rw [h]; simp),?_,?_,?_,?_,fun b o h=>h⟩
 ·intro i ob h
  obtain ⟨k,ob0,hk,h0,rfl,hb,hr⟩:=ownIn_src (E:=E) hlt h
  exact (hM.owns k ob0 h0).ren (renIn E js) ⟨hb,hr⟩
 ·intro i i' ob ob' h h' hne ho ho'
  obtain ⟨k,ob0,hk,h0,rfl,hb,hr⟩:=ownIn_src (E:=E) hlt h
  obtain ⟨k', ob0', hk', h0', rfl,hb', hr'⟩:=ownIn_src (E:=E) hlt h'
  rw [hb,hb']
  refine hM.disj k k' ob0 ob0' h0 h0' (fun e=>hne ?_) ((Occ.ren ⟨hb,hr⟩).1 ho) ((Occ.ren ⟨hb', hr'⟩).1 ho')
  subst e
  have h1:=posOf_get hnd hk
  have h2:=posOf_get hnd hk'
  rw [h1] at h2
  exact Option.some.inj h2
 ·intro i ob h ho
  obtain ⟨k,ob0,hk,h0,rfl,hb,hr⟩:=ownIn_src (E:=E) hlt h
  have:=hM.sep k ob0 h0 ((Occ.ren ⟨hb,hr⟩).1 ho)
  exact ⟨by rw [hb]; exact this.1,.inr ⟨i,_,h,ho,rfl⟩⟩
 ·intro i b h
  simp only [knOf] at h
  split at h
  ·rename_i hbx
   cases h
   refine ⟨⟨rfl,rfl⟩,?_⟩
   cases hq:(ownIn own js)[i]? with
   | none=>rw [hq] at hbx; cases hbx
   | some ob=>rw [hq] at hbx; exact hbx
  ·cases h
theorem Wfo.inn (hw:Wfo own) (hlt:∀ k ∈ js,k < own.length):Wfo (ownIn own js):=by
 intro i cs ty h x hx
 obtain ⟨k,hk,he⟩:=ownIn_get h
 obtain ⟨cs0,h0,rfl⟩:=OB.map_box he.symm
 obtain ⟨d,hd,rfl⟩:=List.mem_map.1 hx
 have hk' : own[k]? = some (.box cs0 ty):=by
  rw [List.getElem?_eq_getElem (hlt k (List.mem_of_getElem? hk))] at h0 ⊢; exact congrArg some h0
 refine renC_ment (hw k cs0 ty hk' d hd) fun k' j _ hj=>?_
 have:=(List.getElem?_eq_some_iff.1 (posOf_some hj)).1
 simpa [ownIn] using this
def envOut (E E' : Env) (n:Nat) (js:List Nat):Env :=
 {h:=fun b=>match E.h b with|some o=>some o|none=>E'.h b
  blk:=fun k=>match posOf js k with|some i=>E'.blk i|none=>if k < n then E.blk k else E'.blk (js.length + (k - n))
  row:=fun k=>match posOf js k with|some i=>E'.row i|none=>if k < n then E.row k else E'.row (js.length + (k - n)) }
theorem envOut_gout {n:Nat} (hnd:js.Nodup) (hlt:∀ k ∈ js,k < n) {i k:Nat} (h:gout n js i = some k):(envOut E E' n js).blk k = E'.blk i ∧ (envOut E E' n js).row k = E'.row i:=by
 unfold gout at h
 split at h
 ·rename_i q hq
  cases h
  simp [envOut,posOf_get hnd hq]
 ·rename_i hq
  cases h
  have h1:=List.getElem?_eq_none_iff.1 hq
  have:posOf js (n + (i - js.length)) = none:=by
   cases hp:posOf js (n + (i - js.length)) with
   | none=>rfl
   | some j=>have:=hlt _ (List.mem_of_getElem? (posOf_some hp)); omega
  simp only [envOut,this]
  rw [if_neg (by omega),if_neg (by omega),show js.length + (n + (i - js.length) - n) = i by omega]
  exact ⟨rfl,rfl⟩
theorem callSt_get {k:Nat} {ob:OB} (hlen:js.length ≤ own'.length) (hlt:∀ k ∈ js,k < σ.own.length) (h:(callSt σ js own').own[k]? = some ob) :
  (∃ ob0,k < σ.own.length ∧ posOf js k = none ∧ σ.own[k]? = some ob0 ∧ ob = ob0.map (renC (gkeep σ.own js))) ∨
  (∃ i ob0,own'[i]? = some ob0 ∧ gout σ.own.length js i = some k ∧ ob = ob0.map (renC (gout σ.own.length js))):=by
 simp only [callSt] at h
 by_cases hk:k < σ.own.length
 ·rw [List.getElem?_append_left (by rw [ownRest_len]; exact hk),ownRest_get,List.getElem?_eq_getElem hk,Nat.zero_add] at h
  simp only [Option.map_some,Option.some.injEq] at h
  cases hp:posOf js k with
  | none=>rw [hp] at h; exact .inl ⟨_,hk,rfl,List.getElem?_eq_getElem hk,h.symm⟩
  | some i =>
   rw [hp] at h
   have hi:=posOf_some hp
   have hil:i < own'.length:=Nat.lt_of_lt_of_le (List.getElem?_eq_some_iff.1 hi).1 hlen
   refine .inr ⟨i,own'[i],List.getElem?_eq_getElem hil,by simp [gout,hi],?_⟩
   have h:((own'[i]?).getD .dead).map (renC (gout σ.own.length js)) = ob:=h
   rw [List.getElem?_eq_getElem hil] at h
   exact h.symm
 ·rw [List.getElem?_append_right (by rw [ownRest_len]; omega),ownRest_len,List.getElem?_map,List.getElem?_drop] at h
  cases hq:own'[js.length + (k - σ.own.length)]? with
  | none=>rw [hq] at h; cases h
  | some o =>
   rw [hq] at h; cases h
   refine .inr ⟨_,o,hq,?_,rfl⟩
   unfold gout
   rw [List.getElem?_eq_none_iff.2 (by omega)]
   simp only [Option.some.injEq]; omega
theorem callSt_len:(callSt σ js own').own.length = σ.own.length + (own'.length - js.length):=by simp [callSt,ownRest_len]
theorem gout_lt {n i k:Nat} (hlt:∀ k ∈ js,k < n) (hlen:js.length ≤ own'.length) (hi:i < own'.length) (h:gout n js i = some k):k < n + (own'.length - js.length):=by
 unfold gout at h
 split at h
 ·rename_i q hq; cases h; have:=hlt _ (List.mem_of_getElem? hq); omega
 ·rename_i hq; cases h; have:=List.getElem?_eq_none_iff.1 hq; omega
theorem gkeep_some {own:List OB} {k j:Nat} (h:gkeep own js k = some j):j = k ∧ k < own.length ∧ (posOf js k = none ∨ ∃ i,posOf js k = some i ∧ isBox own[k]? = true):=by
 unfold gkeep at h
 cases hp:posOf js k with
 | none =>
  rw [hp] at h
  cases hq:own[k]? with
  | none=>rw [hq] at h; cases h
  | some ob=>rw [hq] at h; cases h; exact ⟨rfl,(List.getElem?_eq_some_iff.1 hq).1,.inl rfl⟩
 | some i =>
  rw [hp] at h
  simp only at h
  split at h
  ·rename_i hb
   cases h
   cases hq:own[k]? with
   | none=>rw [hq] at hb; cases hb
   | some ob=>rw [hq] at hb; exact ⟨rfl,(List.getElem?_eq_some_iff.1 hq).1,.inr ⟨i,rfl,hb⟩⟩
  ·cases h
theorem map_isBox {g:AV → AV} {ob:OB} (h:isBox (some ob) = true):isBox (some (ob.map g)) = true:=by cases ob <;> first|rfl|exact h|cases h
theorem Rel.call (hR:Rel W0 mine kn E σ a W) (hnd:js.Nodup) (hlt:∀ k ∈ js,k < σ.own.length) (hlen:js.length ≤ own'.length)
  (hC:Mem W (mineOf (envIn E js) (ownIn σ.own js)) (knOf (envIn E js) (ownIn σ.own js)) E' own' W') (hw:Wfo own') {dst:Option Nat} {res:AV} {v:Value} (hres:RAV E' true res v) (hb:Bl own'.length res) :
  ∃ E2,Rel W0 mine kn E2 ((callSt σ js own').put dst (renT (gout σ.own.length js) res)) (a.put dst v) W' ∧ (∀ b o,E.h b = some o → E2.h b = some o):=by
 have hM:=hR.mem
 let E2:=envOut E E' σ.own.length js
 have hmine:∀ b,mineOf (envIn E js) (ownIn σ.own js) b → ∃ k ob,posOf js k ≠ none ∧ σ.own[k]? = some ob ∧ Occ E k ob ∧ b = E.blk k:=by
  rintro b ⟨i,ob,h,ho,rfl⟩
  obtain ⟨k,ob0,hk,h0,rfl,hb,hr⟩:=ownIn_src (E:=E) hlt h
  exact ⟨k,ob0,by rw [posOf_get hnd hk]; simp,h0,(Occ.ren ⟨hb,hr⟩).1 ho,hb⟩
 have hmsep:∀ b,mineOf (envIn E js) (ownIn σ.own js) b → E.h b = none ∧ (W0.heap.size ≤ b ∨ mine b) ∧ b < W.heap.size:=by
  intro b h
  obtain ⟨k,ob,_,h0,ho,rfl⟩:=hmine b h
  have:=hM.sep k ob h0 ho
  exact ⟨this.1,this.2,ho.lt (hM.owns k ob h0)⟩
 have hfl:∀ b o,E.h b = some o → b < W.heap.size:=fun b o h=>(Array.getElem?_eq_some_iff.1 (hM.facts b o h)).1
 have hfresh:∀ b,W.heap.size ≤ b → E.h b = none:=by
  intro b hb
  cases hq:E.h b with
  | none=>rfl
  | some o=>have:=hfl b o hq; omega
 have hfacts:∀ b o,E.h b = some o → E2.h b = some o:=fun b o h=>by simp [E2,envOut,h]
 have hanch:∀ (k i:Nat),posOf js k = some i → isBox σ.own[k]? = true → E'.blk i = E.blk k ∧ E'.row i = E.row k ∧ isBox own'[i]? = true:=by
  intro k i hp h0
  have hk:=posOf_some hp
  obtain ⟨ob,hob⟩:∃ ob,σ.own[k]? = some ob:=⟨_,List.getElem?_eq_getElem (isBox_lt h0)⟩
  rw [hob] at h0
  have hin:(ownIn σ.own js)[i]? = some (ob.map (renC (posOf js))):=by
   unfold ownIn; rw [List.getElem?_map,hk]; simp [hob]
  have:=hC.anch i ((envIn E js).blk i,(envIn E js).row i) (by simp only [knOf]; rw [hin,if_pos (map_isBox h0)])
  refine ⟨this.1.1.trans ?_,this.1.2.trans ?_,this.2⟩ <;> simp [envIn,hk]
 have hrk:Ren E E2 (gkeep σ.own js):=by
  refine ⟨hfacts,fun k j h=>?_⟩
  obtain ⟨rfl,hkn,hp|⟨i,hp,h0⟩⟩:=gkeep_some h
  ·simp [E2,envOut,hp,hkn]
  ·obtain ⟨h1,h2,_⟩:=hanch j i hp h0
   simp [E2,envOut,hp,h1,h2]
 have hro:Ren E' E2 (gout σ.own.length js):=by
  refine ⟨fun b o h=>?_,fun i k h=>envOut_gout hnd hlt h⟩
  simp only [E2,envOut]
  cases hq:E.h b with
  | none=>simp [h]
  | some o' =>
   simp only
   have h1:=hC.facts b o h
   have h2:=hC.keep b (hfl b o' hq) (fun hm=>by have:=(hmsep b hm).1; rw [hq] at this; cases this)
   rw [h2,hM.facts b o' hq] at h1
   exact h1
 have hsame:∀ (k:Nat),k < σ.own.length → posOf js k = none → E2.blk k = E.blk k ∧ E2.row k = E.row k:=fun k hk hp=>by simp [E2,envOut,hp,hk]
 have hnotmine:∀ (k:Nat) (ob:OB),posOf js k = none → σ.own[k]? = some ob → Occ E k ob → ¬ mineOf (envIn E js) (ownIn σ.own js) (E.blk k):=by
  intro k ob hp h0 ho hm
  obtain ⟨k', ob', hp', h0', ho', e⟩:=hmine _ hm
  exact hM.disj k k' ob ob' h0 h0' (fun e=>hp' (e ▸ hp)) ho ho' e
 have hold:∀ b,b < W.heap.size → ¬ mineOf (envIn E js) (ownIn σ.own js) b → W'.heap[b]? = W.heap[b]?:=hC.keep
 have hout:∀ (i k:Nat) (ob:OB),own'[i]? = some ob → gout σ.own.length js i = some k → Occ E2 k (ob.map (renC (gout σ.own.length js))) → Occ E' i ob ∧ E2.blk k = E'.blk i ∧ (W.heap.size ≤ E'.blk i ∨ mineOf (envIn E js) (ownIn σ.own js) (E'.blk i)) ∧ E'.h (E'.blk i) = none:=by
  intro i k ob h hg ho
  have hb:=hro.same i k hg
  have ho' := (Occ.ren hb).1 ho
  have:=hC.sep i ob h ho'
  exact ⟨ho', hb.1,this.2,this.1⟩
 have hin:∀ (k:Nat) (ob:OB),k < σ.own.length → posOf js k = none → σ.own[k]? = some ob → Occ E2 k (ob.map (renC (gkeep σ.own js))) → Occ E k ob ∧ E2.blk k = E.blk k ∧ E.blk k < W.heap.size:=by
  intro k ob hk hp h0 ho
  have hb:=hsame k hk hp
  have ho' := (Occ.ren hb).1 ho
  exact ⟨ho', hb.1,ho'.lt (hM.owns k ob h0)⟩
 have hcross:∀ (i k k' : Nat) (ob ob' : OB),own'[i]? = some ob → gout σ.own.length js i = some k → Occ E2 k (ob.map (renC (gout σ.own.length js))) → k' < σ.own.length → posOf js k' = none → σ.own[k']? = some ob' →
   Occ E2 k' (ob'.map (renC (gkeep σ.own js))) → E2.blk k ≠ E2.blk k' := by
  intro i k k' ob ob' h hg ho hk' hp' h0' ho'
  obtain ⟨_,e1,hs,_⟩:=hout i k ob h hg ho
  obtain ⟨o1,e2,hl⟩:=hin k' ob' hk' hp' h0' ho'
  rw [e1,e2]
  intro e
  rcases hs with hs|hs
  ·omega
  ·exact hnotmine k' ob' hp' h0' o1 (e ▸ hs)
 have hmem:Mem W0 mine kn E2 (callSt σ js own').own W' := by
  refine ⟨hC.os.trans hM.os,hC.tape.trans hM.tape,hC.output.trans hM.output,Nat.le_trans hM.size hC.size,?_,?_,?_,?_,?_,?_,?_,fun b o hb=>hfacts b o (hM.glob b o hb)⟩
  ·intro b hb hmi
   refine (hold b (Nat.lt_of_lt_of_le hb hM.size) fun hm=>?_).trans (hM.keep b hb hmi)
   rcases (hmsep b hm).2.1 with h|h
   ·omega
   ·exact hmi h
  ·intro b o h
   simp only [E2,envOut] at h
   cases hq:E.h b with
   | none=>rw [hq] at h; exact hC.facts b o h
   | some o' =>
    rw [hq] at h; cases h
    rw [hold b (hfl b o hq) (fun hm=>by have:=(hmsep b hm).1; rw [hq] at this; cases this)]
    exact hM.facts b o hq
  ·intro b o h
   simp only [E2,envOut] at h
   cases hq:E.h b with
   | some o' => exact hM.old b o' hq
   | none =>
    rw [hq] at h
    rcases hC.old b o h with h1|h1|h1
    ·exact absurd hq h1
    ·exact .inr ((hmsep b h1).2.1.symm)
    ·exact .inr (.inr (Nat.le_trans hM.size h1))
  ·intro k ob h
   rcases callSt_get hlen hlt h with ⟨ob0,hk,hp,h0,rfl⟩|⟨i,ob0,h0,hg,rfl⟩
   ·have h1:=(hM.owns k ob0 h0).ren hrk (hsame k hk hp)
    refine h1.snap fun ho=>?_
    obtain ⟨o1,e,hl⟩:=hin k ob0 hk hp h0 ho
    rw [e]
    exact hold _ hl (hnotmine k ob0 hp h0 o1)
   ·exact (hC.owns i ob0 h0).ren hro (hro.same i k hg)
  ·intro k k' ob ob' h h' hne ho ho'
   rcases callSt_get hlen hlt h with ⟨ob0,hk,hp,h0,rfl⟩|⟨i,ob0,h0,hg,rfl⟩ <;> rcases callSt_get hlen hlt h' with ⟨ob0', hk', hp', h0', rfl⟩|⟨i', ob0', h0', hg', rfl⟩
   ·obtain ⟨o1,e1,_⟩:=hin k ob0 hk hp h0 ho
    obtain ⟨o2,e2,_⟩:=hin k' ob0' hk' hp' h0' ho'
    rw [e1,e2]; exact hM.disj k k' ob0 ob0' h0 h0' hne o1 o2
   ·exact (hcross i' k' k ob0' ob0 h0' hg' ho' hk hp h0 ho).symm
   ·exact hcross i k k' ob0 ob0' h0 hg ho hk' hp' h0' ho'
   ·obtain ⟨o1,e1,_⟩:=hout i k ob0 h0 hg ho
    obtain ⟨o2,e2,_⟩:=hout i' k' ob0' h0' hg' ho'
    rw [e1,e2]
    refine hC.disj i i' ob0 ob0' h0 h0' (fun e=>hne ?_) o1 o2
    subst e; rw [hg] at hg'; exact Option.some.inj hg'
  ·intro k ob h ho
   rcases callSt_get hlen hlt h with ⟨ob0,hk,hp,h0,rfl⟩|⟨i,ob0,h0,hg,rfl⟩
   ·obtain ⟨o1,e1,hl⟩:=hin k ob0 hk hp h0 ho
    have hs:=hM.sep k ob0 h0 o1
    rw [e1]
    refine ⟨?_,hs.2⟩
    simp only [E2,envOut,hs.1]
    cases hq:E'.h (E.blk k) with
    | none=>rfl
    | some o =>
     rcases hC.old _ o hq with h1|h1|h1
     ·exact absurd hs.1 h1
     ·exact absurd h1 (hnotmine k ob0 hp h0 o1)
     ·omega
   ·obtain ⟨o1,e1,hs,hn⟩:=hout i k ob0 h0 hg ho
    rw [e1]
    rcases hs with hs|hs
    ·exact ⟨by simp [E2,envOut,hfresh _ hs,hn],.inl (Nat.le_trans hM.size hs)⟩
    ·have:=hmsep _ hs
     exact ⟨by simp [E2,envOut,this.1,hn],this.2.1⟩
  ·intro k b hkb
   obtain ⟨⟨h1,h2⟩,h0⟩:=hM.anch k b hkb
   have hkl:k < σ.own.length:=isBox_lt h0
   obtain ⟨ob,hob⟩:∃ ob,σ.own[k]? = some ob:=⟨_,List.getElem?_eq_getElem hkl⟩
   simp only [callSt]
   rw [List.getElem?_append_left (by rw [ownRest_len]; exact hkl),ownRest_get,hob,Nat.zero_add]
   cases hp:posOf js k with
   | none =>
    refine ⟨⟨(hsame k hkl hp).1.trans h1,(hsame k hkl hp).2.trans h2⟩,map_isBox (hob ▸ h0)⟩
   | some i =>
    obtain ⟨g1,g2,g3⟩:=hanch k i hp h0
    have hg:gout σ.own.length js i = some k:=by simp [gout,posOf_some hp]
    refine ⟨⟨(hro.same i k hg).1.trans (g1.trans h1),(hro.same i k hg).2.trans (g2.trans h2)⟩,?_⟩
    cases hq:own'[i]? with
    | none=>rw [hq] at g3; cases g3
    | some ob' => rw [hq] at g3; simp [hq]; exact map_isBox g3
 have hll:σ.own.length ≤ (callSt σ js own').own.length:=by rw [callSt_len]; omega
 have hR2:Rel W0 mine kn E2 (callSt σ js own') a W' := by
  refine ⟨hmem,hR.defs,by simp [callSt,hR.len],?_,?_,?_⟩
  ·intro i x hx
   simp only [callSt,List.getElem?_map] at hx
   cases hq:σ.tm[i]? with
   | none=>rw [hq] at hx; cases hx
   | some y=>rw [hq] at hx; cases hx; exact renT_rav hrk (hR.tm i y hq)
  ·intro x hx
   simp only [callSt] at hx
   obtain ⟨y,hy,rfl⟩:=List.mem_map.1 hx
   refine renT_ment (hR.wf y hy) fun k j hk hj=>?_
   obtain ⟨rfl,h,_⟩:=gkeep_some hj
   omega
  ·intro k cs ty h x hx
   rcases callSt_get hlen hlt h with ⟨ob0,hk,hp,h0,he⟩|⟨i,ob0,h0,hg,he⟩
   ·obtain ⟨cs0,rfl,rfl⟩:=OB.map_box he.symm
    obtain ⟨y,hy,rfl⟩:=List.mem_map.1 hx
    refine renC_ment (hR.wfo k cs0 ty h0 y hy) fun k j hk hj=>?_
    obtain ⟨rfl,h,_⟩:=gkeep_some hj
    omega
   ·obtain ⟨cs0,rfl,rfl⟩:=OB.map_box he.symm
    obtain ⟨y,hy,rfl⟩:=List.mem_map.1 hx
    refine renC_ment (hw i cs0 ty h0 y hy) fun k j hk hj=>?_
    rw [callSt_len]
    exact gout_lt hlt hlen hk hj
 refine ⟨E2,hR2.put (renT_rav hro hres) (renT_ment hb fun k j hk hj=>?_),hfacts⟩
 rw [callSt_len]
 exact gout_lt hlt hlen hk hj
end
end Go.AE
end
section
set_option linter.unusedVariables false
set_option linter.unusedSimpArgs false
namespace Go.AE
open Go
def gC (φ : AV → AV):AV → AV
 | .f fn caps=>.f fn (caps.map φ)
 | x=>φ x
def gM (φ : AV → AV):AV → AV
 | .a cs=>.a (cs.map (gC φ))
 | x=>gC φ x
def gT (φ : AV → AV):AV → AV
 | .t vs=>.t (vs.map (gM φ))
 | x=>gM φ x
def pfP (k:Nat) (cs:List AV):AV → AV
 | .p j o=>if j = k then (if o ≤ cs.length then .ip (cs.drop o) else .any) else .p j o
 | .r j=>if j = k then .any else .r j
 | .q j sz i o=>if j = k then .any else .q j sz i o
 | .w j sz lo n=>if j = k then .any else .w j sz lo n
 | .v x=>.v x
 | .b x=>.b x
 | .l sz es=>.l sz es
 | .ip cs=>.ip cs
 | .ni=>.ni
 | .f _ _=>.any
 | .a _=>.any
 | .t _=>.any
 | .any=>.any
def St.frzB (σ : St) (k:Nat):St :=
 match σ.own[k]? with
 | some (.box cs ty)=>match cs.all immB with
  | true=>{ tm:=σ.tm.map (gT (pfP k cs)),own:=(σ.own.map (OB.map (gC (pfP k cs)))).set k .dead }
  | false=>σ
 | _=>σ
section
variable {P:Program} {E E' : Env} {own:List OB} {σ : St} {W W0:World} {mine:Nat → Prop} {kn:Kn} {a:Act} {k:Nat} {φ : AV → AV}
def Kept (E E' : Env) (φ : AV → AV):Prop:=∀ (m:Bool) (x:AV) (u:Value),RAV E m x u → RAV E' m (φ x) u
theorem gC_rav (hφ : Kept E E' φ) {m:Bool} {x:AV} {u:Value} (h:RAV E m x u):RAV E' m (gC φ x) u:=by
 have h0:=h
 cases h with
 | f _ fn cs vs hl hc =>
  refine .f _ fn _ vs (by simpa using hl) fun i c u hi hu=>?_
  rw [List.getElem?_map] at hi
  cases hq:cs[i]? with
  | none=>rw [hq] at hi; cases hi
  | some d=>rw [hq] at hi; cases hi; exact hφ _ _ _ (hc i d u hq hu)
 | _=>exact hφ _ _ _ h0
theorem gM_rav (hφ : Kept E E' φ) {m:Bool} {x:AV} {u:Value} (h:RAV E m x u):RAV E' m (gM φ x) u:=by
 have h0:=h
 cases h with
 | a _ cs vs hl h1 hc =>
  refine .a _ _ vs (by simpa using hl) h1 fun i c u hi hu=>?_
  rw [List.getElem?_map] at hi
  cases hq:cs[i]? with
  | none=>rw [hq] at hi; cases hi
  | some d=>rw [hq] at hi; cases hi; exact gC_rav hφ (hc i d u hq hu)
 | _=>exact gC_rav hφ h0
theorem gT_rav (hφ : Kept E E' φ) {m:Bool} {x:AV} {u:Value} (h:RAV E m x u):RAV E' m (gT φ x) u:=by
 have h0:=h
 cases h with
 | t _ cs vs hl hc =>
  refine .t _ _ vs (by simpa using hl) fun i c u hi hu=>?_
  rw [List.getElem?_map] at hi
  cases hq:cs[i]? with
  | none=>rw [hq] at hi; cases hi
  | some d=>rw [hq] at hi; cases hi; exact gM_rav hφ (hc i d u hq hu)
 | _=>exact gM_rav hφ h0
variable {S S' : Nat → Prop}
theorem gC_ment (hφ : ∀ x,Ment S x → Ment S' (φ x)) {x:AV} (h:Ment S x):Ment S' (gC φ x):=by
 have h0:=h
 cases h with
 | f fn cs h=>exact .f fn _ fun c hc=>by obtain ⟨d,hd,rfl⟩:=List.mem_map.1 hc; exact hφ d (h d hd)
 | _=>exact hφ _ h0
theorem gM_ment (hφ : ∀ x,Ment S x → Ment S' (φ x)) {x:AV} (h:Ment S x):Ment S' (gM φ x):=by
 have h0:=h
 cases h with
 | a cs h=>exact .a _ fun c hc=>by obtain ⟨d,hd,rfl⟩:=List.mem_map.1 hc; exact gC_ment hφ (h d hd)
 | _=>exact gC_ment hφ h0
theorem gT_ment (hφ : ∀ x,Ment S x → Ment S' (φ x)) {x:AV} (h:Ment S x):Ment S' (gT φ x):=by
 have h0:=h
 cases h with
 | t cs h=>exact .t _ fun c hc=>by obtain ⟨d,hd,rfl⟩:=List.mem_map.1 hc; exact gM_ment hφ (h d hd)
 | _=>exact gM_ment hφ h0
theorem pfP_ment {cs:List AV} {x:AV} (h:Ment S x):Ment (fun j=>S j ∧ j ≠ k) (pfP k cs x):=by
 cases h with
 | any=>exact .any
 | v x=>exact .v x
 | b x=>exact .b x
 | p j o h =>
  simp only [pfP]; split
  ·split
   ·exact .ip _
   ·exact .any
  ·rename_i hj; exact .p j o ⟨h,hj⟩
 | q j sz i o h=>simp only [pfP]; split; exact .any; rename_i hj; exact .q j sz i o ⟨h,hj⟩
 | w j sz lo n h=>simp only [pfP]; split; exact .any; rename_i hj; exact .w j sz lo n ⟨h,hj⟩
 | r j h=>simp only [pfP]; split; exact .any; rename_i hj; exact .r j ⟨h,hj⟩
 | l sz es=>exact .l sz es
 | ip cs=>exact .ip cs
 | ni=>exact .ni
 | a=>exact .any
 | t=>exact .any
 | f=>exact .any
theorem Rel.frzB (h:Rel W0 mine kn E σ a W) (k:Nat) (hkn:kn.an k = none):∃ E', Rel W0 mine kn E' (σ.frzB k) a W ∧ (∀ b o,E.h b = some o → E'.h b = some o):=by
 unfold St.frzB
 split
 ·rename_i cs ty hk
  split
  ·rename_i himm
   obtain ⟨vs,hv,hl,h1,hr⟩:=h.mem.owns k _ hk
   let E' : Env:={ h:=fun b=>if b = E.blk k then W.heap[b]? else E.h b,blk:=E.blk,row:=E.row }
   have hsepk:=h.mem.sep k _ hk trivial
   have hh:∀ b o,E.h b = some o → E'.h b = some o:=by
    intro b o hb
    simp only [E']
    split
    ·rename_i he; subst he; rw [hb] at hsepk; cases hsepk.1
    ·exact hb
   have hφ : Kept E E' (pfP k cs):=by
    intro m x u hx
    have h0:=hx
    cases hx with
    | p j o =>
     simp only [pfP]
     split
     ·rename_i hj; subst hj
      split
      ·rename_i ho
       have hb:E'.h (E.blk j) = some (.cells vs.toArray ty (0,0)):=by simp [E', hv]
       refine .ip _ _ (E.blk j) o vs.toArray ty (0,0) hb (by simp; omega) (fun i u _ hu=>h1 u ?_) (fun i c u hc hu=>?_)
       ·have:vs[o + i]? = some u:=by simpa using hu
        exact List.mem_of_getElem? this
       ·rw [List.getElem?_drop] at hc
        have hu' : vs[o + i]? = some u:=by simpa using hu
        exact (immB_rav (hr (o + i) c u hc hu') (List.all_eq_true.1 himm c (List.mem_of_getElem? hc))).imm hh
      ·exact .any _ _
     ·exact .p j o
    | q j sz i o =>
     simp only [pfP]; split
     ·exact .any _ _
     ·exact .q j sz i o
    | w j sz lo n c hn hm =>
     simp only [pfP]; split
     ·exact .any _ _
     ·exact .w j sz lo n c hn hm
    | w0 j sz lo c a hm =>
     simp only [pfP]; split
     ·exact .any _ _
     ·exact .w0 j sz lo c a hm
    | r j h1 =>
     simp only [pfP]; split
     ·exact .any _ _
     ·exact .r j h1
    | v _ x h1=>exact .v _ _ h1
    | b _ x=>exact .b _ _
    | ni _ t x=>exact .ni _ t x
    | ip=>exact h0.mono (S:=fun _=>False) hh fun _=>⟨.ip _,fun _ h=>h.elim⟩
    | lnil=>exact .lnil _ _
    | lzero _ _ a c hm=>exact .lzero _ _ a c hm
    | l=>exact h0.mono (S:=fun _=>False) hh fun _=>⟨.l _ _,fun _ h=>h.elim⟩
    | any=>exact .any _ _
    | a=>exact .any _ _
    | t=>exact .any _ _
    | f=>exact .any _ _
   have key:∀ (j:Nat) (ob:OB),((σ.own.map (OB.map (gC (pfP k cs)))).set k .dead)[j]? = some ob → (j ≠ k ∧ ∃ o1,σ.own[j]? = some o1 ∧ ob = o1.map (gC (pfP k cs))) ∨ ob = .dead:=by
    intro j ob hj
    rw [List.getElem?_set] at hj
    split at hj
    ·split at hj
     ·simp at hj; exact .inr hj.symm
     ·cases hj
    ·rename_i hne
     exact .inl ⟨fun e=>hne e.symm,map_own hj⟩
   have hocc:∀ (j:Nat) (o:OB),Occ E' j o ↔ Occ E j o:=fun j o=>by cases o <;> exact Iff.rfl
   have hment:∀ x,Bl σ.own.length x → Ment (fun j=>j < σ.own.length ∧ j ≠ k) (pfP k cs x):=fun x hx=>pfP_ment hx
   refine ⟨E', ⟨⟨h.mem.os,h.mem.tape,h.mem.output,h.mem.size,h.mem.keep,?_,?_,?_,?_,?_,fun j b hj=>?an,fun b o hb=>hh b o (h.mem.glob b o hb)⟩,h.defs,by simp [h.len],?_,?_,?_⟩,hh⟩
   case an =>
    obtain ⟨h1,h2⟩:=h.mem.anch j b hj
    have hjk:k ≠ j:=fun e=>by subst e; rw [hkn] at hj; cases hj
    exact ⟨h1,by rw [List.getElem?_set_ne hjk]; exact isBox_map h2⟩
   ·intro b o hb
    simp only [E'] at hb
    split at hb
    ·exact hb
    ·exact h.mem.facts b o hb
   ·intro b o hb
    simp only [E'] at hb
    split at hb
    ·rename_i he
     subst he
     rcases hsepk.2 with h1|h1
     ·exact .inr (.inr h1)
     ·exact .inr (.inl h1)
    ·exact h.mem.old b o hb
   ·intro j ob hj
    rcases key j ob hj with ⟨hne,o1,h1', rfl⟩|rfl
    ·have hob:=h.mem.owns j o1 h1'
     cases o1 with
     | box ds ty' =>
      obtain ⟨us,hu,hul,hu1,hur⟩:=hob
      refine ⟨us,hu,by simpa using hul,hu1,fun i c u hc hcu=>?_⟩
      rw [List.getElem?_map] at hc
      cases hq:ds[i]? with
      | none=>rw [hq] at hc; cases hc
      | some d=>rw [hq] at hc; cases hc; exact gC_rav hφ (hur i d u hq hcu)
     | row ety sz es =>
      obtain ⟨xs,hx⟩:=hob
      exact ⟨xs,hx.owns,hx.len,hx.one,fun i j e x u h1 h2 h3=>(hx.rav i j e x u h1 h2 h3).imm hh,hx.blk⟩
     | dead=>trivial
     | mp kk vk g=>exact hob
    ·trivial
   ·intro j j' ob ob' hj hj' hne ho ho'
    rcases key j ob hj with ⟨_,o1,h1', rfl⟩|rfl
    ·rcases key j' ob' hj' with ⟨_,o2,h2', rfl⟩|rfl
     ·exact h.mem.disj j j' o1 o2 h1' h2' hne ((hocc _ _).1 (Occ.map.1 ho)) ((hocc _ _).1 (Occ.map.1 ho'))
     ·exact ho'.elim
    ·exact ho.elim
   ·intro j ob hj ho
    rcases key j ob hj with ⟨hne,o1,h1', rfl⟩|rfl
    ·have ho1:=(hocc _ _).1 (Occ.map.1 ho)
     have hsep:=h.mem.sep j o1 h1' ho1
     refine ⟨?_,hsep.2⟩
     simp only [E']
     split
     ·rename_i he
      exact absurd he (h.mem.disj j k o1 _ h1' hk hne ho1 trivial)
     ·exact hsep.1
    ·exact ho.elim
   ·intro i x hx
    rw [List.getElem?_map] at hx
    cases hq:σ.tm[i]? with
    | none=>rw [hq] at hx; cases hx
    | some d=>rw [hq] at hx; cases hx; exact gT_rav hφ (h.tm i d hq)
   ·intro x hx
    obtain ⟨d,hd,rfl⟩:=List.mem_map.1 hx
    simp only [List.length_set,List.length_map]
    exact (gT_ment hment (h.wf d hd)).mono fun j hj=>hj.1
   ·intro j ds ty' hj x hx
    rcases key j _ hj with ⟨hne,o1,h1', he⟩|he
    ·cases o1 <;> simp only [OB.map] at he <;> try (cases he; done)
     rename_i cs' _
     cases he
     obtain ⟨d,hd,rfl⟩:=List.mem_map.1 hx
     simp only [List.length_set,List.length_map]
     exact (gC_ment hment (h.wfo j cs' _ h1' d hd)).mono fun j hj=>hj.1
    ·cases he
  ·exact ⟨E,h,fun _ _ h=>h⟩
 ·exact ⟨E,h,fun _ _ h=>h⟩
def St.nilB (σ : St) (k j ety sz:Nat):St :=
 match σ.own[k]? with
 | some (.box cs ty)=>match cs[j]? with
  | some (.v (.slice none 0 0))=>{ tm:=σ.tm,own:=(σ.own ++ [OB.row ety sz []]).set k (OB.box (cs.set j (.r σ.own.length)) ty) }
  | _=>σ
 | _=>σ
theorem Rel.nilB (h:Rel W0 mine kn E σ a W) (k j ety sz:Nat):∃ E', Rel W0 mine kn E' (σ.nilB k j ety sz) a W ∧ E'.h = E.h ∧ ∀ x u,RAV E true x u → Bl σ.own.length x → RAV E' true x u:=by
 unfold St.nilB
 split
 ·rename_i cs ty hk
  split
  ·rename_i hj
   obtain ⟨E', hh,hR,hr,hx⟩:=h.nilRow ety sz
   have hkl:k < σ.own.length:=(List.getElem?_eq_some_iff.1 hk).1
   have hk' : (σ.own ++ [OB.row ety sz []])[k]? = some (.box cs ty):=by rw [List.getElem?_append_left hkl]; exact hk
   obtain ⟨vs,hv,hl,h1,hrr⟩:=hR.mem.owns k _ hk'
   refine ⟨E', ⟨?_,hR.defs,hR.len,hR.tm,fun x hx=>by simpa using hR.wf x hx,?_⟩,hh,hx⟩
   ·refine hR.mem.set (ob' := OB.box (cs.set j (.r σ.own.length)) ty) hk' rfl (fun _ _=>⟨rfl,rfl⟩) (fun _ _ _ _ _ _ _ _ h=>h) rfl rfl rfl (Nat.le_refl _) (fun _ _ _=>rfl) ⟨vs,hv,by simpa using hl,h1,fun i c u hc hu=>?_⟩ (fun _=>.inl ⟨trivial,rfl⟩) (fun _=>⟨⟨rfl,rfl⟩,rfl⟩)
    rw [List.getElem?_set] at hc
    split at hc
    ·rename_i hij; subst hij
     split at hc
     ·cases hc
      have:=(hrr j _ u hj hu).vInv
      subst this
      exact hr
     ·cases hc
    ·exact hrr i c u hc hu
   ·intro j' ds ty' hj' x hx
    rw [List.length_set]
    rw [List.getElem?_set] at hj'
    split at hj'
    ·split at hj'
     ·simp at hj'
      obtain ⟨rfl,rfl⟩:=hj'
      rcases List.mem_or_eq_of_mem_set hx with hx|rfl
      ·exact hR.wfo k cs ty hk' x hx
      ·exact .r _ (by simp)
     ·cases hj'
    ·exact hR.wfo j' ds ty' hj' x hx
  ·exact ⟨E,h,rfl,fun _ _ h _=>h⟩
 ·exact ⟨E,h,rfl,fun _ _ h _=>h⟩
def St.nilT (σ : St) (t ety sz:Nat):St :=
 match σ.tm[t]? with
 | some (.v (.slice none 0 0))=>{ tm:=σ.tm.set t (.r σ.own.length),own:=σ.own ++ [.row ety sz []] }
 | _=>σ
theorem Rel.nilT (h:Rel W0 mine kn E σ a W) (t ety sz:Nat):∃ E', Rel W0 mine kn E' (σ.nilT t ety sz) a W ∧ E'.h = E.h:=by
 unfold St.nilT
 split
 ·rename_i ht
  obtain ⟨E', hh,hR,hr,_⟩:=h.nilRow ety sz
  refine ⟨E', ⟨hR.mem,hR.defs,by simpa using hR.len,fun i x hx=>?_,fun x hx=>?_,hR.wfo⟩,hh⟩
  ·simp only [List.getElem?_set] at hx
   split at hx
   ·rename_i hij; subst hij
    split at hx
    ·cases hx
     have:=(h.tm t _ ht).vInv
     rw [this]; exact hr
    ·cases hx
   ·exact hR.tm i x hx
  ·rcases List.mem_or_eq_of_mem_set hx with hx|rfl
   ·exact hR.wf x hx
   ·exact .r _ (by simp)
 ·exact ⟨E,h,rfl⟩
end
end Go.AE
end
