/- AE, part 6: forgetting a row's names; giving a row away (it is only read from then on). -/
import Derived.Test.YthadehkggddgoaaGreatDoorAE5
set_option linter.unusedVariables false
set_option linter.unusedSimpArgs false
namespace Go.AE
open Go
def plainCap (k:Nat):AV → Bool
 | .v _ | .b _ | .l _ _ | .ip _ | .ni=>true
 | .p j _=>if j = k then false else true
 | _=>false
def cellMap (k:Nat) (y:AV):AV → AV
 | .r j=>if j = k then y else .r j
 | .q j sz i o=>if j = k then .any else .q j sz i o
 | .w j sz lo n=>if j = k then .any else .w j sz lo n
 | .p j o=>if j = k then .any else .p j o
 | .a _=>.any
 | .t _=>.any
 | .f fn caps=>if caps.all (plainCap k) = true then .f fn caps else .any
 | .any=>.any
 | .v x=>.v x
 | .b x=>.b x
 | .l sz es=>.l sz es
 | .ip cs=>.ip cs
 | .ni=>.ni
def midMap (k:Nat) (y:AV):AV → AV
 | .a cs=>.a (cs.map (cellMap k y))
 | x=>cellMap k y x
def topMap (k:Nat) (y:AV):AV → AV
 | .t vs=>.t (vs.map (midMap k y))
 | x=>midMap k y x
def OB.map (g:AV → AV):OB → OB
 | .box cs ty=>.box (cs.map g) ty
 | .row ety sz es=>.row ety sz es
 | .dead=>.dead
 | .mp kk vk f=>.mp kk vk f
def St.kill (σ : St) (k:Nat):St:={ tm:=σ.tm.map (topMap k .any),own:=σ.own.map (OB.map (cellMap k .any)) }
def St.frz (σ : St) (k:Nat):St :=
 match σ.own[k]? with
 | some (.row ety sz es)=>match decide (ety < 1000000) with
  | true=>{ tm:=σ.tm.map (topMap k (.l sz es)),own:=(σ.own.map (OB.map (cellMap k (.l sz es)))).set k .dead }
  | false=>σ
 | _=>σ
section
variable {P:Program} {E E' : Env} {own:List OB} {σ : St} {W W0:World} {mine:Nat → Prop} {kn:Kn} {a:Act} {k:Nat} {y:AV}
theorem plainCap_ment {S:Nat → Prop} {x:AV} (h:plainCap k x = true) (hx:Ment S x):Ment (fun j=>S j ∧ j ≠ k) x:=by
 cases hx with
 | v x=>exact .v x
 | b x=>exact .b x
 | l sz es=>exact .l sz es
 | ip cs=>exact .ip cs
 | ni=>exact .ni
 | p j o hs=>simp [plainCap] at h; exact .p j o ⟨hs,h⟩
 | _=>simp [plainCap] at h
theorem cellMap_ment {S:Nat → Prop} {x:AV} (hx:Ment S x) (hy:Ment (fun j=>S j ∧ j ≠ k) y):Ment (fun j=>S j ∧ j ≠ k) (cellMap k y x):=by
 cases hx with
 | any=>exact .any
 | v x=>exact .v x
 | b x=>exact .b x
 | l sz es=>exact .l sz es
 | ip cs=>exact .ip cs
 | ni=>exact .ni
 | a cs=>exact .any
 | t cs=>exact .any
 | p j o h=>simp only [cellMap]; split; exact .any; rename_i hj; exact .p j o ⟨h,hj⟩
 | q j sz i o h=>simp only [cellMap]; split; exact .any; rename_i hj; exact .q j sz i o ⟨h,hj⟩
 | w j sz lo n h=>simp only [cellMap]; split; exact .any; rename_i hj; exact .w j sz lo n ⟨h,hj⟩
 | r j h=>simp only [cellMap]; split; exact hy; rename_i hj; exact .r j ⟨h,hj⟩
 | f fn cs h =>
  simp only [cellMap]
  split
  ·rename_i hc
   exact .f fn cs fun c hcm=>plainCap_ment (List.all_eq_true.1 hc c hcm) (h c hcm)
  ·exact .any
theorem midMap_ment {S:Nat → Prop} {x:AV} (hx:Ment S x) (hy:Ment (fun j=>S j ∧ j ≠ k) y):Ment (fun j=>S j ∧ j ≠ k) (midMap k y x):=by
 by_cases h:∃ cs,x = .a cs
 ·obtain ⟨cs,rfl⟩:=h
  cases hx with
  | a _ h =>
   refine .a _ fun c hc=>?_
   obtain ⟨d,hd,rfl⟩:=List.mem_map.1 hc
   exact cellMap_ment (h d hd) hy
 ·have:midMap k y x = cellMap k y x:=by cases x <;> first|rfl|exact absurd ⟨_,rfl⟩ h
  rw [this]; exact cellMap_ment hx hy
theorem topMap_ment {S:Nat → Prop} {x:AV} (hx:Ment S x) (hy:Ment (fun j=>S j ∧ j ≠ k) y):Ment (fun j=>S j ∧ j ≠ k) (topMap k y x):=by
 by_cases h:∃ cs,x = .t cs
 ·obtain ⟨cs,rfl⟩:=h
  cases hx with
  | t _ h =>
   refine .t _ fun c hc=>?_
   obtain ⟨d,hd,rfl⟩:=List.mem_map.1 hc
   exact midMap_ment (h d hd) hy
 ·have:topMap k y x = midMap k y x:=by cases x <;> first|rfl|exact absurd ⟨_,rfl⟩ h
  rw [this]; exact midMap_ment hx hy
structure Turn (E E' : Env) (k:Nat) (y:AV):Prop where
 facts:∀ b o,E.h b = some o → E'.h b = some o
 same:∀ j,j ≠ k → E'.blk j = E.blk j ∧ E'.row j = E.row j
 row:RAV E' true y (E.row k)
theorem Turn.rav (ht:Turn E E' k y) {m:Bool} {x:AV} {u:Value} (h:RAV E m x u) (hx:Ment (· ≠ k) x):RAV E' m x u :=
 h.mono (S:=(· ≠ k)) ht.facts fun _=>⟨hx,ht.same⟩
theorem cellMap_rav (ht:Turn E E' k y) {x:AV} {u:Value} (h:RAV E true x u):RAV E' true (cellMap k y x) u:=by
 have htriv:∀ x:AV,Ment (fun _=>True) x → Ment (fun j=>True ∧ j ≠ k) x → RAV E true x u → RAV E' true x u:=fun x _ h2 h=>ht.rav h (h2.mono fun j hj=>hj.2)
 generalize hm:true = m at h
 cases h with
 | any=>subst hm; exact .any _ _
 | v _ x h1=>subst hm; exact .v _ _ h1
 | b _ x=>subst hm; exact .b _ _
 | p j o =>
  simp only [cellMap]
  split
  ·exact .any _ _
  ·rename_i hj; exact ht.rav (.p j o) (.p j o hj)
 | q j sz i o =>
  simp only [cellMap]
  split
  ·exact .any _ _
  ·rename_i hj; exact ht.rav (.q j sz i o) (.q j sz i o hj)
 | w j sz lo n c hn hm' =>
  simp only [cellMap]
  split
  ·exact .any _ _
  ·rename_i hj; exact ht.rav (.w j sz lo n c hn hm') (.w j sz lo n hj)
 | w0 j sz lo c a hm' =>
  simp only [cellMap]
  split
  ·exact .any _ _
  ·exact .w0 _ _ _ _ _ hm'
 | r j h1 =>
  simp only [cellMap]
  split
  ·rename_i hj; subst hj; exact ht.row
  ·rename_i hj; exact ht.rav (.r j h1) (.r j hj)
 | a=>exact .any _ _
 | t=>exact .any _ _
 | f _ fn cs vs hl hc =>
  subst hm
  simp only [cellMap]
  split
  ·rename_i hp
   refine .f _ fn cs vs hl fun i c u hci hu=>ht.rav (hc i c u hci hu) ?_
   have hp' := List.all_eq_true.1 hp c (List.mem_of_getElem? hci)
   cases c <;> simp [plainCap] at hp'
   ·exact .v _
   ·exact .b _
   ·exact .p _ _ hp'
   ·exact .l _ _
   ·exact .ip _
   ·exact .ni
  ·exact .any _ _
 | ni _ t x=>exact .ni _ t x
 | ip _ cs b off vals ty fr hb hl h1 hc=>subst hm; exact .ip _ cs b off vals ty fr (ht.facts _ _ hb) hl h1 fun i c u h2 h3=>(hc i c u h2 h3).imm ht.facts
 | lnil=>subst hm; exact .lnil _ _
 | lzero _ _ _ _ hm' => subst hm; exact .lzero _ _ _ _ hm'
 | l _ sz es b off c vals ty fr hb hs hl hc hm' h1 he=>subst hm; exact .l _ sz es b off c vals ty fr (ht.facts _ _ hb) hs hl hc hm' h1 fun i j e x u h2 h3 h4=>(he i j e x u h2 h3 h4).imm ht.facts
theorem midMap_rav (ht:Turn E E' k y) {x:AV} {u:Value} (h:RAV E true x u):RAV E' true (midMap k y x) u:=by
 by_cases hx:∃ cs,x = .a cs
 ·obtain ⟨cs,rfl⟩:=hx
  cases h with
  | a _ _ vs hl h1 hc =>
   refine .a _ _ vs (by simpa using hl) h1 fun i c u hci hu=>?_
   simp only [List.getElem?_map] at hci
   cases hq:cs[i]? with
   | none=>rw [hq] at hci; cases hci
   | some d=>rw [hq] at hci; simp at hci; subst hci; exact cellMap_rav ht (hc i d u hq hu)
 ·have:midMap k y x = cellMap k y x:=by cases x <;> first|rfl|exact absurd ⟨_,rfl⟩ hx
  rw [this]; exact cellMap_rav ht h
theorem topMap_rav (ht:Turn E E' k y) {x:AV} {u:Value} (h:RAV E true x u):RAV E' true (topMap k y x) u:=by
 by_cases hx:∃ cs,x = .t cs
 ·obtain ⟨cs,rfl⟩:=hx
  cases h with
  | t _ _ vs hl hc =>
   refine .t _ _ vs (by simpa using hl) fun i c u hci hu=>?_
   simp only [List.getElem?_map] at hci
   cases hq:cs[i]? with
   | none=>rw [hq] at hci; cases hci
   | some d=>rw [hq] at hci; simp at hci; subst hci; exact midMap_rav ht (hc i d u hq hu)
 ·have:topMap k y x = midMap k y x:=by cases x <;> first|rfl|exact absurd ⟨_,rfl⟩ hx
  rw [this]; exact midMap_rav ht h
theorem map_tm (h:Rel W0 mine kn E σ a W) (ht:Turn E E' k y):∀ (i:Nat) (x:AV),(σ.tm.map (topMap k y))[i]? = some x → RAV E' true x (a.tmps.getD i undef):=by
 intro i x hx
 simp only [List.getElem?_map] at hx
 cases hq:σ.tm[i]? with
 | none=>rw [hq] at hx; cases hx
 | some d=>rw [hq] at hx; simp at hx; subst hx; exact topMap_rav ht (h.tm i d hq)
theorem OBOK.map {j:Nat} {ob:OB} (ht:Turn E E' k y) (hj:E'.blk j = E.blk j ∧ E'.row j = E.row j) (h:OBOK E j W ob):OBOK E' j W (ob.map (cellMap k y)):=by
 cases ob with
 | box cs ty =>
  obtain ⟨vs,hv,hl,h1,hr⟩:=h
  refine ⟨vs,by rw [hj.1]; exact hv,by simpa using hl,h1,fun i c u hci hu=>?_⟩
  simp only [List.getElem?_map] at hci
  cases hq:cs[i]? with
  | none=>rw [hq] at hci; cases hci
  | some d=>rw [hq] at hci; simp at hci; subst hci; exact cellMap_rav ht (hr i d u hq hu)
 | row ety sz es =>
  obtain ⟨xs,hx⟩:=h
  exact ⟨xs,by rw [hj.2]; exact hx.owns,hx.len,hx.one,fun i j e x u h1 h2 h3=>(hx.rav i j e x u h1 h2 h3).imm ht.facts,by rw [hj.1,hj.2]; exact hx.blk⟩
 | dead=>trivial
 | mp kk vk f =>
  obtain ⟨es,c,hv,hr,hf⟩:=h
  exact ⟨es,c,by rw [hj.1]; exact hv,by rw [hj.1,hj.2]; exact hr,hf⟩
theorem Occ.map {j:Nat} {ob:OB} {g:AV → AV}:Occ E j (ob.map g) ↔ Occ E j ob:=by cases ob <;> exact Iff.rfl
theorem map_own {g:AV → AV} {j:Nat} {ob:OB} (h:(own.map (OB.map g))[j]? = some ob):∃ ob', own[j]? = some ob' ∧ ob = ob'.map g:=by
 simp only [List.getElem?_map] at h
 cases hq:own[j]? with
 | none=>rw [hq] at h; cases h
 | some d=>rw [hq] at h; simp at h; exact ⟨d,rfl,h.symm⟩
theorem isBox_map {g:AV → AV} {j:Nat} (h:isBox own[j]? = true):isBox ((own.map (OB.map g))[j]?) = true:=by
 rw [List.getElem?_map]
 cases hq:own[j]? with
 | none=>rw [hq] at h; cases h
 | some ob=>rw [hq] at h; cases ob <;> first|rfl|exact h|cases h
theorem Rel.kill (h:Rel W0 mine kn E σ a W) (k:Nat):Rel W0 mine kn E (σ.kill k) a W:=by
 have ht:Turn E E k .any:=⟨fun _ _ h=>h,fun _ _=>⟨rfl,rfl⟩,.any _ _⟩
 refine ⟨⟨h.mem.os,h.mem.tape,h.mem.output,h.mem.size,h.mem.keep,h.mem.facts,h.mem.old,?_,?_,?_,fun j b hj=>?an,h.mem.glob⟩,h.defs,by simp [St.kill,h.len],map_tm h ht,?_,?_⟩
 case an =>
  obtain ⟨h1,h2⟩:=h.mem.anch j b hj
  exact ⟨h1,isBox_map h2⟩
 ·intro j ob hj
  obtain ⟨ob', hj', rfl⟩:=map_own hj
  exact (h.mem.owns j ob' hj').map ht ⟨rfl,rfl⟩
 ·intro j j' ob ob' hj hj' hne ho ho'
  obtain ⟨o1,h1,rfl⟩:=map_own hj
  obtain ⟨o2,h2,rfl⟩:=map_own hj'
  exact h.mem.disj j j' o1 o2 h1 h2 hne (Occ.map.1 ho) (Occ.map.1 ho')
 ·intro j ob hj ho
  obtain ⟨o1,h1,rfl⟩:=map_own hj
  exact h.mem.sep j o1 h1 (Occ.map.1 ho)
 ·intro x hx
  obtain ⟨d,hd,rfl⟩:=List.mem_map.1 hx
  simp only [St.kill,List.length_map]
  exact (topMap_ment (h.wf d hd) .any).mono fun j hj=>hj.1
 ·intro j cs ty hj x hx
  obtain ⟨o1,h1,he⟩:=map_own hj
  cases o1 <;> simp only [OB.map] at he <;> try (cases he; done)
  rename_i cs' ty'
  cases he
  obtain ⟨d,hd,rfl⟩:=List.mem_map.1 hx
  simp only [St.kill,List.length_map]
  exact (cellMap_ment (h.wfo j cs' ty h1 d hd) .any).mono fun j hj=>hj.1
theorem St.kill_lone (h:Rel W0 mine kn E σ a W) (k:Nat):Lone (σ.kill k) k:=by
 refine ⟨fun x hx=>?_,fun j cs ty hj x hx=>?_⟩
 ·obtain ⟨d,hd,rfl⟩:=List.mem_map.1 hx
  exact (topMap_ment (h.wf d hd) .any).mono fun j hj=>hj.2
 ·obtain ⟨o1,h1,he⟩:=map_own hj
  cases o1 <;> simp only [OB.map] at he <;> try (cases he; done)
  rename_i cs' ty'
  cases he
  obtain ⟨d,hd,rfl⟩:=List.mem_map.1 hx
  exact (cellMap_ment (h.wfo j cs' ty h1 d hd) .any).mono fun j hj=>hj.2
theorem St.kill_own {σ : St} {k j ety sz:Nat} {es:List (List AV)} (h:σ.own[j]? = some (.row ety sz es)):(σ.kill k).own[j]? = some (.row ety sz es):=by
 simp [St.kill,h,OB.map]
theorem RowOK.given {ety sz:Nat} {es:List (List AV)} {xs:List Value} (h:RowOK E k W ety sz es xs) (hh:∀ b o,E.h b = some o → E'.h b = some o)
  (hb:(E.row k).ownBlock = some (E.blk k) → E'.h (E.blk k) = W.heap[E.blk k]?) (m:Bool):RAV E' m (.l sz es) (E.row k):=by
 rcases h.shape with ⟨hn,he⟩|⟨cap,cur,hr,hv,hn,hc,hs,hl,hx⟩
 ·subst he; rw [hn]; exact .lnil _ _
 ·rw [hr]
  have hv' := hb (by rw [hr]; rfl)
  have hm:es.length * sz ≤ cap * sz:=Nat.mul_le_mul_right _ hn
  refine .l m sz es (E.blk k) 0 cap cur ety (0,0) (hv'.trans hv) h.len (by omega) hn hc ?_ ?_
  ·intro i u hi hu
   rw [Nat.zero_add,hx i hi] at hu
   exact h.one u (List.mem_of_getElem? hu)
  ·intro i j e x u he hj hu
   have hi:i < es.length:=(List.getElem?_eq_some_iff.1 he).1
   have hjl:j < sz:=by rw [← h.len e (List.mem_of_getElem? he)]; exact (List.getElem?_eq_some_iff.1 hj).1
   have hm2:i * sz + sz ≤ es.length * sz:=by
    have:(i + 1) * sz ≤ es.length * sz:=Nat.mul_le_mul_right _ (by omega)
    rw [Nat.add_mul] at this; omega
   rw [Nat.zero_add,hx _ (by omega)] at hu
   exact (h.rav i j e x u he hj hu).imm hh
theorem Rel.frz (h:Rel W0 mine kn E σ a W) (k:Nat):∃ E', Rel W0 mine kn E' (σ.frz k) a W ∧ (∀ b o,E.h b = some o → E'.h b = some o) ∧ ∀ ety sz es,σ.own[k]? = some (.row ety sz es) → ety < 1000000 → Turn E E' k (.l sz es):=by
 unfold St.frz
 split
 ·rename_i ety sz es hk
  by_cases hf:ety < 1000000
  case neg =>
   rw [decide_eq_false hf]
   exact ⟨E,h,fun _ _ h=>h,fun ety' sz' es' h' h2=>by rw [hk] at h'; cases h'; exact absurd h2 hf⟩
  rw [decide_eq_true hf]
  simp only
  obtain ⟨xs,hrow⟩:=h.mem.owns k _ hk
  let E' : Env:={ h:=fun b=>if (E.row k).ownBlock = some b then W.heap[b]? else E.h b,blk:=E.blk,row:=E.row }
  have hh:∀ b o,E.h b = some o → E'.h b = some o:=by
   intro b o hb
   simp only [E']
   split
   ·rename_i he
    have:=hrow.blk b he
    subst this
    have:=(h.mem.sep k _ hk he).1
    rw [hb] at this; cases this
   ·exact hb
  have ht:Turn E E' k (.l sz es):=⟨hh,fun _ _=>⟨rfl,rfl⟩,hrow.given hh (fun he=>by simp [E', he]) true⟩
  have key:∀ (j:Nat) (ob:OB),((σ.own.map (OB.map (cellMap k (.l sz es)))).set k .dead)[j]? = some ob → (j ≠ k ∧ ∃ o1,σ.own[j]? = some o1 ∧ ob = o1.map (cellMap k (.l sz es))) ∨ ob = .dead:=by
   intro j ob hj
   rw [List.getElem?_set] at hj
   split at hj
   ·split at hj
    ·simp at hj; exact .inr hj.symm
    ·cases hj
   ·rename_i hne
    exact .inl ⟨fun e=>hne e.symm,map_own hj⟩
  have hocc:∀ (j:Nat) (o:OB),Occ E' j o ↔ Occ E j o:=fun j o=>by cases o <;> exact Iff.rfl
  refine ⟨E', ⟨⟨h.mem.os,h.mem.tape,h.mem.output,h.mem.size,h.mem.keep,?_,?_,?_,?_,?_,fun j b hj=>?an,fun b o hb=>hh b o (h.mem.glob b o hb)⟩,h.defs,by simp [h.len],map_tm h ht,?_,?_⟩,hh,fun ety' sz' es' h' _=>by rw [hk] at h'; cases h'; exact ht⟩
  case an =>
   obtain ⟨h1,h2⟩:=h.mem.anch j b hj
   have hjk:k ≠ j:=fun e=>by subst e; rw [hk] at h2; exact absurd h2 (by simp [isBox]; omega)
   exact ⟨h1,by rw [List.getElem?_set_ne hjk]; exact isBox_map h2⟩
  ·intro b o hb
   simp only [E'] at hb
   split at hb
   ·exact hb
   ·exact h.mem.facts b o hb
  ·intro b o hb
   simp only [E'] at hb
   split at hb
   ·rename_i he
    have:=hrow.blk b he
    subst this
    rcases (h.mem.sep k _ hk he).2 with h1|h1
    ·exact .inr (.inr h1)
    ·exact .inr (.inl h1)
   ·exact h.mem.old b o hb
  ·intro j ob hj
   rcases key j ob hj with ⟨hne,o1,h1,rfl⟩|rfl
   ·exact (h.mem.owns j o1 h1).map ht ⟨rfl,rfl⟩
   ·trivial
  ·intro j j' ob ob' hj hj' hne ho ho'
   rcases key j ob hj with ⟨_,o1,h1,rfl⟩|rfl
   ·rcases key j' ob' hj' with ⟨_,o2,h2,rfl⟩|rfl
    ·exact h.mem.disj j j' o1 o2 h1 h2 hne ((hocc _ _).1 (Occ.map.1 ho)) ((hocc _ _).1 (Occ.map.1 ho'))
    ·exact ho'.elim
   ·exact ho.elim
  ·intro j ob hj ho
   rcases key j ob hj with ⟨hne,o1,h1,rfl⟩|rfl
   ·have ho1:=(hocc _ _).1 (Occ.map.1 ho)
    have hsep:=h.mem.sep j o1 h1 ho1
    refine ⟨?_,hsep.2⟩
    simp only [E']
    split
    ·rename_i he
     have:=hrow.blk _ he
     exact absurd this (h.mem.disj j k o1 _ h1 hk hne ho1 (by show (E.row k).ownBlock = _; rw [he,this]))
    ·exact hsep.1
   ·exact ho.elim
  ·intro x hx
   obtain ⟨d,hd,rfl⟩:=List.mem_map.1 hx
   simp only [List.length_set,List.length_map]
   exact (topMap_ment (h.wf d hd) (.l _ _)).mono fun j hj=>hj.1
  ·intro j cs ty hj x hx
   rcases key j _ hj with ⟨hne,o1,h1,he⟩|he
   ·cases o1 <;> simp only [OB.map] at he <;> try (cases he; done)
    rename_i cs' ty'
    cases he
    obtain ⟨d,hd,rfl⟩:=List.mem_map.1 hx
    simp only [List.length_set,List.length_map]
    exact (cellMap_ment (h.wfo j cs' ty h1 d hd) (.l _ _)).mono fun j hj=>hj.1
   ·cases he
 ·exact ⟨E,h,fun _ _ h=>h,fun ety sz es h' => by rename_i hno; exact absurd h' (hno ety sz es)⟩
end
end Go.AE
