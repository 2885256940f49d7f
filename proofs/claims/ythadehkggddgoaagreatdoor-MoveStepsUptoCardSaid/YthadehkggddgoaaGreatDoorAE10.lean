/- AE, part 10: saying less; entering and leaving a function; loops; the rules of a walk. -/
import Derived.Test.YthadehkggddgoaaGreatDoorAE9
import Derived.LoopN
set_option linter.unusedVariables false
set_option linter.unusedSimpArgs false
namespace Go.AE
open Go
inductive WkL:List AV → List AV → Prop where
 | nil:WkL [] []
 | cons {x y:AV} {xs ys:List AV} (h:Wk x y) (t:WkL xs ys):WkL (x :: xs) (y :: ys)
theorem WkL.all:∀ {xs:List AV},WkL xs xs
 | []=>.nil
 | x :: xs=>.cons (.refl x) WkL.all
theorem WkL.len {xs ys:List AV} (h:WkL xs ys):xs.length = ys.length:=by
 induction h with
 | nil=>rfl
 | cons _ _ ih=>simp [ih]
theorem WkL.get {xs ys:List AV} (h:WkL xs ys):∀ (i:Nat) (y:AV),ys[i]? = some y → ∃ x,xs[i]? = some x ∧ Wk x y:=by
 induction h with
 | nil=>intro i y h; simp at h
 | cons h t ih =>
  intro i y hy
  cases i with
  | zero=>simp at hy; subst hy; exact ⟨_,rfl,h⟩
  | succ i=>simpa using ih i y (by simpa using hy)
inductive OWk:List OB → List OB → Prop where
 | nil (l:List OB):OWk l []
 | same {o:OB} {l m:List OB} (t:OWk l m):OWk (o :: l) (o :: m)
 | box {cs ds:List AV} {ty:Nat} {l m:List OB} (h:WkL cs ds) (t:OWk l m):OWk (.box cs ty :: l) (.box ds ty :: m)
 | row {ety ety' sz sz' : Nat} {es es' : List (List AV)} {l m:List OB} (h1:ety = ety') (h2:sz = sz') (h3:es = es') (t:OWk l m):OWk (.row ety sz es :: l) (.row ety' sz' es' :: m)
 | dead {ety sz:Nat} {es:List (List AV)} {l m:List OB} (hf:ety < 1000000) (t:OWk l m):OWk (.row ety sz es :: l) (.dead :: m)
 | map {kk vk kk' vk' : MK} {f f' : Value → Option Value} {l m:List OB} (h1:kk = kk') (h2:vk = vk') (h3:f = f') (t:OWk l m):OWk (.mp kk vk f :: l) (.mp kk' vk' f' :: m)
theorem OWk.len {l m:List OB} (h:OWk l m):m.length ≤ l.length:=by
 induction h <;> simp_all
theorem OWk.get {l m:List OB} (h:OWk l m):∀ (k:Nat) (ob' : OB),m[k]? = some ob' → ∃ ob,l[k]? = some ob ∧ (ob' = ob ∨ (∃ cs ds ty,ob = .box cs ty ∧ ob' = .box ds ty ∧ WkL cs ds) ∨ (ob' = .dead ∧ ∃ ety sz es,ob = .row ety sz es ∧ ety < 1000000)):=by
 induction h with
 | nil l=>intro k ob' h; simp at h
 | same t ih=>intro k ob' h; cases k with
  | zero=>simp at h; exact ⟨_,rfl,.inl h.symm⟩
  | succ k=>simpa using ih k ob' (by simpa using h)
 | box h t ih=>intro k ob' h'; cases k with
  | zero=>simp at h'; exact ⟨_,rfl,.inr (.inl ⟨_,_,_,rfl,h'.symm,h⟩)⟩
  | succ k=>simpa using ih k ob' (by simpa using h')
 | row h1 h2 h3 t ih=>subst h1; subst h2; subst h3; intro k ob' h'; cases k with
  | zero=>simp at h'; exact ⟨_,rfl,.inl h'.symm⟩
  | succ k=>simpa using ih k ob' (by simpa using h')
 | dead hf t ih=>intro k ob' h'; cases k with
  | zero=>simp at h'; exact ⟨_,rfl,.inr (.inr ⟨h'.symm,_,_,_,rfl,hf⟩)⟩
  | succ k=>simpa using ih k ob' (by simpa using h')
 | map h1 h2 h3 t ih=>subst h1; subst h2; subst h3; intro k ob' h'; cases k with
  | zero=>simp at h'; exact ⟨_,rfl,.inl h'.symm⟩
  | succ k=>simpa using ih k ob' (by simpa using h')
def blP (n:Nat):AV → Bool
 | .p k _ | .q k _ _ _ | .r k | .w k _ _ _=>decide (k < n)
 | .a _ | .t _ | .f _ _=>false
 | _=>true
def blC (n:Nat):AV → Bool
 | .f _ caps=>caps.all (blP n)
 | x=>blP n x
def blM (n:Nat):AV → Bool
 | .a cs=>cs.all (blC n)
 | x=>blC n x
def blT (n:Nat):AV → Bool
 | .t vs=>vs.all (blM n)
 | x=>blM n x
theorem blP_ok {n:Nat} {x:AV} (h:blP n x = true):Bl n x:=by
 cases x <;> simp only [blP,decide_eq_true_eq,Bool.false_eq_true] at h
 ·exact .any
 ·exact .v _
 ·exact .b _
 ·exact .p _ _ h
 ·exact .q _ _ _ _ h
 ·exact .r _ h
 ·exact .l _ _
 ·exact .ip _
 ·exact .ni
 ·exact .w _ _ _ _ h
theorem blC_ok {n:Nat} {x:AV} (h:blC n x = true):Bl n x:=by
 by_cases hf:∃ fn cs,x = .f fn cs
 ·obtain ⟨fn,cs,rfl⟩:=hf
  exact .f _ _ fun c hc=>blP_ok (List.all_eq_true.1 h c hc)
 ·exact blP_ok (by cases x <;> first|exact h|exact absurd ⟨_,_,rfl⟩ hf)
theorem blM_ok {n:Nat} {x:AV} (h:blM n x = true):Bl n x:=by
 by_cases hf:∃ cs,x = .a cs
 ·obtain ⟨cs,rfl⟩:=hf
  exact .a _ fun c hc=>blC_ok (List.all_eq_true.1 h c hc)
 ·exact blC_ok (by cases x <;> first|exact h|exact absurd ⟨_,rfl⟩ hf)
theorem blT_ok {n:Nat} {x:AV} (h:blT n x = true):Bl n x:=by
 by_cases hf:∃ cs,x = .t cs
 ·obtain ⟨cs,rfl⟩:=hf
  exact .t _ fun c hc=>blM_ok (List.all_eq_true.1 h c hc)
 ·exact blM_ok (by cases x <;> first|exact h|exact absurd ⟨_,rfl⟩ hf)
def blO (n:Nat):List OB → Bool
 | []=>true
 | .box cs _ :: l=>cs.all (blC n) && blO n l
 | _ :: l=>blO n l
theorem blO_ok {n:Nat}:∀ {l:List OB},blO n l = true → ∀ (k:Nat) (cs:List AV) (ty:Nat),l[k]? = some (OB.box cs ty) → ∀ x ∈ cs,Bl n x
 | [],_,k,cs,ty,h,_,_=>by simp at h
 | .box cs' ty' :: l,hb,0,cs,ty,h,x,hx=>by
  simp at h; obtain ⟨rfl,rfl⟩:=h
  simp only [blO,Bool.and_eq_true] at hb
  exact blC_ok (List.all_eq_true.1 hb.1 x hx)
 | .row _ _ _ :: l,hb,0,cs,ty,h,x,hx=>by simp at h
 | .dead :: l,hb,0,cs,ty,h,x,hx=>by simp at h
 | .mp _ _ _ :: l,hb,0,cs,ty,h,x,hx=>by simp at h
 | .box cs' ty' :: l,hb,k + 1,cs,ty,h,x,hx=>by
  simp only [blO,Bool.and_eq_true] at hb
  exact blO_ok hb.2 k cs ty (by simpa using h) x hx
 | .row _ _ _ :: l,hb,k + 1,cs,ty,h,x,hx=>blO_ok (l:=l) hb k cs ty (by simpa using h) x hx
 | .dead :: l,hb,k + 1,cs,ty,h,x,hx=>blO_ok (l:=l) hb k cs ty (by simpa using h) x hx
 | .mp _ _ _ :: l,hb,k + 1,cs,ty,h,x,hx=>blO_ok (l:=l) hb k cs ty (by simpa using h) x hx
def St.perm (σ : St) (js:List Nat):St:={ tm:=σ.tm.map (renT (posOf js)),own:=ownIn σ.own js }
theorem isBox_mapO {g:AV → AV}:∀ {o:Option OB},isBox (o.map (OB.map g)) = isBox o
 | none=>rfl
 | some ob=>by cases ob <;> rfl
theorem Rel.perm {W0 W:World} {mine:Nat → Prop} {kn:Kn} {E:Env} {σ : St} {a:Act} (h:Rel W0 mine kn E σ a W) (js:List Nat) (hnd:js.Nodup) (hlt:∀ k ∈ js,k < σ.own.length) (hk:∀ k b,kn.an k = some b → js[k]? = some k):Rel W0 mine kn (envIn E js) (σ.perm js) a W:=by
 have hM:=h.mem
 refine ⟨⟨hM.os,hM.tape,hM.output,hM.size,hM.keep,hM.facts,hM.old,?_,?_,?_,?_,hM.glob⟩,h.defs,by simpa [St.perm] using h.len,?_,?_,?_⟩
 ·intro i ob hi
  obtain ⟨k,ob0,hk,h0,rfl,hb,hr⟩:=ownIn_src (E:=E) hlt hi
  exact (hM.owns k ob0 h0).ren (renIn E js) ⟨hb,hr⟩
 ·intro i i' ob ob' hi hi' hne ho ho'
  obtain ⟨k,ob0,hk,h0,rfl,hb,hr⟩:=ownIn_src (E:=E) hlt hi
  obtain ⟨k', ob0', hk', h0', rfl,hb', hr'⟩:=ownIn_src (E:=E) hlt hi'
  rw [hb,hb']
  refine hM.disj k k' ob0 ob0' h0 h0' (fun e=>hne ?_) ((Occ.ren ⟨hb,hr⟩).1 ho) ((Occ.ren ⟨hb', hr'⟩).1 ho')
  subst e
  have h1:=posOf_get hnd hk
  have h2:=posOf_get hnd hk'
  rw [h1] at h2
  exact Option.some.inj h2
 ·intro i ob hi ho
  obtain ⟨k,ob0,hk,h0,rfl,hb,hr⟩:=ownIn_src (E:=E) hlt hi
  rw [hb]
  exact hM.sep k ob0 h0 ((Occ.ren ⟨hb,hr⟩).1 ho)
 ·intro k b hb
  have hj:=hk k b hb
  obtain ⟨⟨h1,h2⟩,h3⟩:=hM.anch k b hb
  refine ⟨⟨?_,?_⟩,?_⟩
  ·show E.blk ((js[k]?).getD 0) = _; rw [hj]; exact h1
  ·show E.row ((js[k]?).getD 0) = _; rw [hj]; exact h2
  ·have hl:=hlt k (List.mem_of_getElem? hj)
   have:(σ.perm js).own[k]? = (σ.own[k]?).map (OB.map (renC (posOf js))):=by
    show (js.map _)[k]? = _
    rw [List.getElem?_map,hj,Option.map_some,List.getElem?_eq_getElem hl]; rfl
   rw [this,isBox_mapO]; exact h3
 ·intro i x hx
  simp only [St.perm,List.getElem?_map] at hx
  cases hq:σ.tm[i]? with
  | none=>rw [hq] at hx; cases hx
  | some y=>rw [hq] at hx; cases hx; exact renT_rav (renIn E js) (h.tm i y hq)
 ·intro x hx
  obtain ⟨y,hy,rfl⟩:=List.mem_map.1 hx
  refine renT_ment (h.wf y hy) fun k j _ hj=>?_
  have:=(List.getElem?_eq_some_iff.1 (posOf_some hj)).1
  simpa [St.perm,ownIn] using this
 ·exact Wfo.inn h.wfo hlt
def okPerm (n0:Nat) (own:List OB) (js bs:List Nat):Bool:=js.take n0 == List.range n0 && decide js.Nodup && js.all (fun k=>decide (k < own.length)) && bs.all (fun k=>isBox (ownIn own js)[k]?)
theorem AW.perm {P:Program} {Q:Exit → Act → World → Prop} {W0:World} {mine:Nat → Prop} {kn:Kn} {K:List Item} {σ : St} {n0:Nat} (js bs:List Nat) (hkn:∀ k,n0 ≤ k → kn.an k = none) (hok:okPerm n0 σ.own js bs = true) (h:AW P Q W0 mine kn K (σ.perm js)):AW P Q W0 mine kn K σ:=fun hp E a W hh hR=>by
 simp only [okPerm,Bool.and_eq_true,beq_iff_eq,decide_eq_true_eq,List.all_eq_true] at hok
 refine h hp (envIn E js) a W hh (hR.perm js hok.1.1.2 hok.1.2 fun k b hb=>?_)
 have hk:k < n0:=by
  apply Classical.byContradiction
  intro hn
  rw [hkn k (by omega)] at hb; cases hb
 have h1:(js.take n0)[k]? = some k:=by rw [hok.1.1.1]; simp [hk]
 rw [List.getElem?_take] at h1
 simpa [hk] using h1
section
variable {P:Program} {Q:Exit → Act → World → Prop} {W0:World} {mine:Nat → Prop} {kn:Kn} {A:Ari} {T:Tab} {E:Env} {σ σ' : St} {a:Act} {W:World} {own own' : List OB} {K:List Item}
theorem Mem.weak (h:Mem W0 mine kn E own W) (hw:OWk own own') (hk:∀ k,own'.length ≤ k → kn.an k = none):Mem W0 mine kn E own' W:=by
 have key:∀ (k:Nat) (ob' : OB),own'[k]? = some ob' → ∃ ob,own[k]? = some ob ∧ (Occ E k ob' → Occ E k ob) ∧ OBOK E k W ob' := by
  intro k ob' hk'
  obtain ⟨ob,ho,hc⟩:=hw.get k ob' hk'
  have hob:=h.owns k ob ho
  rcases hc with rfl|⟨cs,ds,ty,rfl,rfl,hwl⟩|⟨rfl,ety,sz,es,rfl,_⟩
  ·exact ⟨ob', ho,fun h=>h,hob⟩
  ·refine ⟨_,ho,fun h=>h,?_⟩
   obtain ⟨vs,hv,hl,h1,hr⟩:=hob
   refine ⟨vs,hv,by rw [← hwl.len]; exact hl,h1,fun i c u hc hu=>?_⟩
   obtain ⟨x,hx,hxw⟩:=hwl.get i c hc
   exact hxw.rav (hr i x u hx hu)
  ·exact ⟨_,ho,fun h=>h.elim,trivial⟩
 refine ⟨h.os,h.tape,h.output,h.size,h.keep,h.facts,h.old,?_,?_,?_,?_,h.glob⟩
 ·intro k ob' hk'; obtain ⟨_,_,_,h3⟩:=key k ob' hk'; exact h3
 ·intro k k' o o' h1 h2 hne ho ho'
  obtain ⟨b,hb,hbo,_⟩:=key k o h1
  obtain ⟨b', hb', hbo', _⟩:=key k' o' h2
  exact h.disj k k' b b' hb hb' hne (hbo ho) (hbo' ho')
 ·intro k o h1 ho
  obtain ⟨b,hb,hbo,_⟩:=key k o h1
  exact h.sep k b hb (hbo ho)
 ·intro k b hb
  obtain ⟨h1,h2⟩:=h.anch k b hb
  refine ⟨h1,?_⟩
  have hlt:k < own'.length:=Nat.lt_of_not_le fun hle=>by rw [hk k hle] at hb; cases hb
  obtain ⟨ob,ho,hc⟩:=hw.get k _ (List.getElem?_eq_getElem hlt)
  rw [ho] at h2
  rcases hc with hc|⟨_,ds,_,_,hc,_⟩|⟨_,_,_,_,hc,hf⟩
  ·rw [List.getElem?_eq_getElem hlt,hc]; exact h2
  ·rw [List.getElem?_eq_getElem hlt,hc]; rfl
  ·subst hc; exact absurd h2 (by simp [isBox]; omega)
theorem Rel.weak (h:Rel W0 mine kn E σ a W) (ht:WkL σ.tm σ'.tm) (ho:OWk σ.own σ'.own) (hb:(σ'.tm.all (blT σ'.own.length) && blO σ'.own.length σ'.own) = true) (hk:∀ k,σ'.own.length ≤ k → kn.an k = none):Rel W0 mine kn E σ' a W:=by
 simp only [Bool.and_eq_true] at hb
 refine ⟨h.mem.weak ho hk,h.defs,h.len.trans ht.len,fun i y hy=>?_,fun x hx=>blT_ok (List.all_eq_true.1 hb.1 x hx),blO_ok hb.2⟩
 obtain ⟨x,hx,hw⟩:=ht.get i y hy
 exact hw.rav (h.tm i x hx)
theorem AW.weak (h:AW P Q W0 mine kn K σ') (ht:WkL σ.tm σ'.tm) (ho:OWk σ.own σ'.own) (hb:(σ'.tm.all (blT σ'.own.length) && blO σ'.own.length σ'.own) = true) (hk:∀ k,σ'.own.length ≤ k → kn.an k = none):AW P Q W0 mine kn K σ :=
 fun hp E a W hh hR=>h hp E a W hh (hR.weak ht ho hb hk)
theorem AW.frz (k:Nat) (h:AW P Q W0 mine kn K (σ.frz k)):AW P Q W0 mine kn K σ:=fun hp E a W hh hR=>by
 obtain ⟨E', hR', hE,_⟩:=hR.frz k
 exact h hp E' a W (fun b o hb=>hE b o (hh b o hb)) hR'
theorem AW.frzB (k:Nat) (hk:kn.an k = none) (h:AW P Q W0 mine kn K (σ.frzB k)):AW P Q W0 mine kn K σ:=fun hp E a W hh hR=>by
 obtain ⟨E', hR', hE⟩:=hR.frzB k hk
 exact h hp E' a W (fun b o hb=>hE b o (hh b o hb)) hR'
theorem AW.nilB (k j ety sz:Nat) (h:AW P Q W0 mine kn K (σ.nilB k j ety sz)):AW P Q W0 mine kn K σ:=fun hp E a W hh hR=>by
 obtain ⟨E', hR', hE,_⟩:=hR.nilB k j ety sz
 exact h hp E' a W (fun b o hb=>by rw [hE]; exact hh b o hb) hR'
theorem AW.nilT (t ety sz:Nat) (h:AW P Q W0 mine kn K (σ.nilT t ety sz)):AW P Q W0 mine kn K σ:=fun hp E a W hh hR=>by
 obtain ⟨E', hR', hE⟩:=hR.nilT t ety sz
 exact h hp E' a W (fun b o hb=>by rw [hE]; exact hh b o hb) hR'
theorem nilB_len {k j ety sz:Nat}:σ.own.length ≤ (σ.nilB k j ety sz).own.length:=by
 unfold St.nilB
 split
 ·split
  ·simp
  ·exact Nat.le_refl _
 ·exact Nat.le_refl _
theorem Good.callNilB {f:Nat} {args:List AV} {dst:Option Nat} (k j ety sz:Nat) (h:Good P Q W0 mine kn (.call f args dst K (σ.nilB k j ety sz))):Good P Q W0 mine kn (.call f args dst K σ):=by
 intro hp E a W vs hh hR hl hargs
 obtain ⟨E', hR', hE,hx⟩:=hR.nilB k j ety sz
 exact h hp E' a W vs (fun b o hb=>by rw [hE]; exact hh b o hb) hR' hl fun i x u hi hu=>⟨hx x u (hargs i x u hi hu).1 (hargs i x u hi hu).2,(hargs i x u hi hu).2.mono nilB_len⟩
def frzArg (σ : St) (k:Nat) (x:AV):AV :=
 match σ.own[k]? with
 | some (.row ety sz es)=>match decide (ety < 1000000) with
  | true=>topMap k (.l sz es) x
  | false=>x
 | _=>x
theorem frz_len {k:Nat}:(σ.frz k).own.length = σ.own.length:=by
 unfold St.frz; split
 ·split <;> simp
 ·rfl
theorem Good.callFrz {f:Nat} {args:List AV} {dst:Option Nat} (k:Nat) (h:Good P Q W0 mine kn (.call f (args.map (frzArg σ k)) dst K (σ.frz k))):Good P Q W0 mine kn (.call f args dst K σ):=by
 by_cases hrow:∃ ety sz es,σ.own[k]? = some (.row ety sz es) ∧ ety < 1000000
 ·obtain ⟨ety,sz,es,hk,hf⟩:=hrow
  have hfa:frzArg σ k = topMap k (.l sz es):=by funext x; unfold frzArg; rw [hk]; show (match decide (ety < 1000000) with|true=>topMap k (.l sz es) x|false=>x) = _; rw [decide_eq_true hf]
  intro hp E a W vs hh hR hl hargs
  obtain ⟨E', hR', hE,hT⟩:=hR.frz k
  refine h hp E' a W vs (fun b o hb=>hE b o (hh b o hb)) hR' (by simpa using hl) fun i x u hi hu=>?_
  rw [List.getElem?_map] at hi
  cases hq:args[i]? with
  | none=>rw [hq] at hi; cases hi
  | some y =>
   rw [hq] at hi; cases hi
   obtain ⟨h1,h2⟩:=hargs i y u hq hu
   rw [frz_len,hfa]
   exact ⟨topMap_rav (hT _ _ _ hk hf) h1,(topMap_ment h2 (.l _ _)).mono fun j hj=>hj.1⟩
 ·have e1:σ.frz k = σ:=by
   unfold St.frz
   split
   ·rename_i h'; rw [decide_eq_false (fun hf=>hrow ⟨_,_,_,h', hf⟩)]
   ·rfl
  have e2:frzArg σ k = id:=by
   funext x; unfold frzArg
   split
   ·rename_i h'; rw [decide_eq_false (fun hf=>hrow ⟨_,_,_,h', hf⟩)]; rfl
   ·rfl
  rw [e1,e2,List.map_id] at h
  exact h
def asW (k sz n:Nat) (x:AV):AV :=
 match x with
 | .r j=>if j = k then .w k sz 0 n else .r j
 | x=>x
theorem asW_rav {k sz:Nat} {es:List (List AV)} (hM:Mem W0 mine kn E σ.own W) (hk:rowOf σ k = some (sz,es)) {x:AV} {u:Value} (h:RAV E true x u):RAV E true (asW k sz es.length x) u:=by
 unfold asW
 split
 ·split
  ·rename_i hj; subst hj
   obtain ⟨ety,_,hob⟩:=hM.row hk
   obtain ⟨ad,c,hrow,hw⟩:=hob.rowW
   have e1:=h.rInv
   rw [e1,hrow]; exact hw
  ·exact h
 ·exact h
theorem asW_bl {k sz n m:Nat} {x:AV} (h:Bl m x):Bl m (asW k sz n x):=by
 unfold asW
 split
 ·split
  ·rename_i hj; subst hj
   cases h with|r _ h=>exact .w _ _ _ _ h
  ·exact h
 ·exact h
theorem Good.callW {f:Nat} {args:List AV} {dst:Option Nat} {k sz n:Nat} {es:List (List AV)} (hk:rowOf σ k = some (sz,es)) (hn:n = es.length) (h:Good P Q W0 mine kn (.call f (args.map (asW k sz n)) dst K σ)):Good P Q W0 mine kn (.call f args dst K σ):=by
 subst hn
 intro hp E a W vs hh hR hl hargs
 refine h hp E a W vs hh hR (by simpa using hl) fun i x u hi hu=>?_
 rw [List.getElem?_map] at hi
 cases hq:args[i]? with
 | none=>rw [hq] at hi; cases hi
 | some y =>
  rw [hq] at hi; cases hi
  obtain ⟨h1,h2⟩:=hargs i y u hq hu
  exact ⟨asW_rav hR.mem hk h1,asW_bl h2⟩
theorem AW.asW {k sz n:Nat} {es:List (List AV)} (t:Nat) (hk:rowOf σ k = some (sz,es)) (hn:n = es.length) (h:AW P Q W0 mine kn K { tm:=σ.tm.set t (asW k sz n (σ.tm.getD t .any)),own:=σ.own }):AW P Q W0 mine kn K σ:=by
 subst hn
 intro hp E a W hh hR
 refine h hp E a W hh ⟨hR.mem,hR.defs,by simpa using hR.len,fun i x hx=>?_,fun x hx=>?_,hR.wfo⟩
 ·rw [List.getElem?_set] at hx
  split at hx
  ·rename_i hi; subst hi
   split at hx
   ·rename_i hlt
    cases hx
    rw [List.getD_eq_getElem?_getD,List.getElem?_eq_getElem hlt]
    exact asW_rav hR.mem hk (hR.tm t _ (List.getElem?_eq_getElem hlt))
   ·cases hx
  ·exact hR.tm i x hx
 ·rcases List.mem_or_eq_of_mem_set hx with hx|rfl
  ·exact hR.wf x hx
  ·refine asW_bl ?_
   by_cases hlt:t < σ.tm.length
   ·rw [List.getD_eq_getElem?_getD,List.getElem?_eq_getElem hlt]; exact hR.wf _ (List.getElem_mem hlt)
   ·rw [List.getD_eq_getElem?_getD,List.getElem?_eq_none (by omega)]; exact .any
theorem AW.fix {k ety sz:Nat} {es:List (List AV)} (hk:σ.own[k]? = some (.row ety sz es)) (hf:ety < 1000000) (h:AW P Q W0 mine kn K { tm:=σ.tm,own:=σ.own.set k (.row (ety + 1000000) sz es) }):AW P Q W0 mine kn K σ:=by
 intro hp E a W hh hR
 have hkl:k < σ.own.length:=(List.getElem?_eq_some_iff.1 hk).1
 have get:∀ (j:Nat) (ob:OB),(σ.own.set k (.row (ety + 1000000) sz es))[j]? = some ob → (j = k ∧ ob = .row (ety + 1000000) sz es) ∨ (j ≠ k ∧ σ.own[j]? = some ob):=by
  intro j ob hj
  rw [List.getElem?_set] at hj
  split at hj
  ·rename_i e
   first
    | (split at hj <;> first|(cases hj; exact .inl ⟨e.symm,rfl⟩)|cases hj)
    | (cases hj; exact .inl ⟨e.symm,rfl⟩)
  ·rename_i e; exact .inr ⟨fun e' => e e'.symm,hj⟩
 have key:∀ (j:Nat) (ob:OB),(σ.own.set k (.row (ety + 1000000) sz es))[j]? = some ob → ∃ o1,σ.own[j]? = some o1 ∧ (Occ E j ob → Occ E j o1) ∧ OBOK E j W ob:=by
  intro j ob hj
  rcases get j ob hj with ⟨rfl,rfl⟩|⟨_,h1⟩
  ·refine ⟨_,hk,fun h=>h,?_⟩
   obtain ⟨xs,hx⟩:=hR.mem.owns j _ hk
   exact ⟨xs,by rw [Nat.add_mod_right]; exact hx⟩
  ·exact ⟨ob,h1,fun h=>h,hR.mem.owns j ob h1⟩
 refine h hp E a W hh ⟨⟨hR.mem.os,hR.mem.tape,hR.mem.output,hR.mem.size,hR.mem.keep,hR.mem.facts,hR.mem.old,?_,?_,?_,?_,hR.mem.glob⟩,hR.defs,hR.len,hR.tm,fun x hx=>by simpa using hR.wf x hx,fun j cs ty hj x hx=>?_⟩
 ·intro j ob hj; obtain ⟨_,_,_,h3⟩:=key j ob hj; exact h3
 ·intro j j' o o' h1 h2 hne ho ho'
  obtain ⟨b,hb,hbo,_⟩:=key j o h1
  obtain ⟨b', hb', hbo', _⟩:=key j' o' h2
  exact hR.mem.disj j j' b b' hb hb' hne (hbo ho) (hbo' ho')
 ·intro j o h1 ho
  obtain ⟨b,hb,hbo,_⟩:=key j o h1
  exact hR.mem.sep j b hb (hbo ho)
 ·intro j b hb
  obtain ⟨h1,h2⟩:=hR.mem.anch j b hb
  refine ⟨h1,?_⟩
  have hjk:k ≠ j:=fun e=>by subst e; rw [hk] at h2; exact absurd h2 (by simp [isBox]; omega)
  show isBox (σ.own.set k _)[j]? = true
  rw [List.getElem?_set_ne hjk]; exact h2
 ·rcases get j _ hj with ⟨_,h1⟩|⟨_,h1⟩
  ·cases h1
  ·simpa using hR.wfo j cs ty h1 x hx
structure Grew (W W' : World):Prop where
 os:W'.os = W.os
 tape:W'.tape = W.tape
 output:W'.output = W.output
 size:W.heap.size ≤ W'.heap.size
 keep:∀ b,b < W.heap.size → W'.heap[b]? = W.heap[b]?
theorem Grew.refl (W:World):Grew W W:=⟨rfl,rfl,rfl,Nat.le_refl _,fun _ _=>rfl⟩
theorem Mem.grew {W' : World} (h:Mem W0 mine kn E own W) (hg:Grew W W'):Mem W0 mine kn E own W' := by
 refine ⟨hg.os.trans h.os,hg.tape.trans h.tape,hg.output.trans h.output,Nat.le_trans h.size hg.size,fun b hb hm=>(hg.keep b (Nat.lt_of_lt_of_le hb h.size)).trans (h.keep b hb hm),fun b o hb=>?_,h.old,fun k ob hk=>?_,h.disj,h.sep,h.anch,h.glob⟩
 ·have:=h.facts b o hb
  rw [hg.keep b (Array.getElem?_eq_some_iff.1 this).1]; exact this
 ·exact (h.owns k ob hk).snap fun ho=>hg.keep _ (ho.lt (h.owns k ob hk))
theorem callT_mono {f:Nat} {vs:Array Value} {R R' : Value → World → Prop} (h:CallT P f vs W R) (hr:∀ v W', R v W' → R' v W'):CallT P f vs W R' := by
 rcases h with ⟨he,h⟩|⟨u,W', h1,h2⟩
 ·exact .inl ⟨he,h.mono fun e W' ⟨v,hv,hR⟩=>⟨v,hv,hr v W' hR⟩⟩
 ·exact .inr ⟨u,W', h1,hr u W' h2⟩
def plainC:AV → Bool
 | .v _ | .b _ | .ni=>true
 | _=>false
def plainM:AV → Bool
 | .a cs=>cs.all plainC
 | x=>plainC x
def plainA:AV → Bool
 | .t cs=>cs.all plainM
 | x=>plainM x
theorem plainC_rav {E' : Env} {m m' : Bool} {x:AV} {u:Value} (h:RAV E m x u) (hx:plainC x = true):RAV E' m' x u:=by
 cases h <;> first|exact .v _ _ (by assumption)|exact .b _ _|exact .ni _ _ _|cases hx
theorem plainC_bl {n:Nat} {x:AV} (hx:plainC x = true):Bl n x:=by
 cases x <;> first|exact .v _|exact .b _|exact .ni|cases hx
theorem plainM_rav {E' : Env} {m m' : Bool} {x:AV} {u:Value} (h:RAV E m x u) (hx:plainM x = true):RAV E' m' x u:=by
 cases h with
 | a _ cs vs hl h1 hc=>exact .a _ cs vs hl h1 fun i c u hci hu=>plainC_rav (hc i c u hci hu) (List.all_eq_true.1 hx c (List.mem_of_getElem? hci))
 | v _ x h1=>exact .v _ _ h1
 | b _ x=>exact .b _ _
 | ni _ t x=>exact .ni _ _ _
 | _=>cases hx
theorem plainM_bl {n:Nat} {x:AV} (hx:plainM x = true):Bl n x:=by
 cases x with
 | a cs=>exact .a _ fun c hc=>plainC_bl (List.all_eq_true.1 hx c hc)
 | v x=>exact .v _
 | b x=>exact .b _
 | ni=>exact .ni
 | _=>cases hx
theorem plainA_rav {E' : Env} {x:AV} {u:Value} (h:RAV E true x u) (hx:plainA x = true):RAV E' true x u:=by
 cases h with
 | t _ cs vs hl hc=>exact .t _ cs vs hl fun i c u hci hu=>plainM_rav (hc i c u hci hu) (List.all_eq_true.1 hx c (List.mem_of_getElem? hci))
 | a _ cs vs hl h1 hc=>exact plainM_rav (.a _ cs vs hl h1 hc) hx
 | v _ x h1=>exact .v _ _ h1
 | b _ x=>exact .b _ _
 | ni _ t x=>exact .ni _ _ _
 | _=>cases hx
theorem plainA_bl {n:Nat} {x:AV} (hx:plainA x = true):Bl n x:=by
 cases x with
 | t cs=>exact .t _ fun c hc=>plainM_bl (List.all_eq_true.1 hx c hc)
 | a cs=>exact plainM_bl (x:=.a cs) hx
 | v x=>exact .v _
 | b x=>exact .b _
 | ni=>exact .ni
 | _=>cases hx
def frzArgs (σ : St):List Nat → AV → AV
 | [],x=>x
 | k :: ks,x=>frzArgs (σ.frz k) ks (frzArg σ k x)
theorem frz_args (k:Nat) {args:List AV} {vs:List Value} (hR:Rel W0 mine kn E σ a W) (hargs:∀ (i:Nat) (x:AV) (u:Value),args[i]? = some x → vs[i]? = some u → RAV E true x u ∧ Bl σ.own.length x) :
  ∃ E', Rel W0 mine kn E' (σ.frz k) a W ∧ ∀ (i:Nat) (x:AV) (u:Value),(args.map (frzArg σ k))[i]? = some x → vs[i]? = some u → RAV E' true x u ∧ Bl (σ.frz k).own.length x:=by
 by_cases hrow:∃ ety sz es,σ.own[k]? = some (.row ety sz es) ∧ ety < 1000000
 ·obtain ⟨ety,sz,es,hk,hf⟩:=hrow
  have hfa:frzArg σ k = topMap k (.l sz es):=by funext x; unfold frzArg; rw [hk]; show (match decide (ety < 1000000) with|true=>topMap k (.l sz es) x|false=>x) = _; rw [decide_eq_true hf]
  obtain ⟨E', hR', hE,hT⟩:=hR.frz k
  refine ⟨E', hR', fun i x u hi hu=>?_⟩
  rw [List.getElem?_map] at hi
  cases hq:args[i]? with
  | none=>rw [hq] at hi; cases hi
  | some y =>
   rw [hq] at hi; cases hi
   obtain ⟨h1,h2⟩:=hargs i y u hq hu
   rw [frz_len,hfa]
   exact ⟨topMap_rav (hT _ _ _ hk hf) h1,(topMap_ment h2 (.l _ _)).mono fun j hj=>hj.1⟩
 ·have e1:σ.frz k = σ:=by
   unfold St.frz
   split
   ·rename_i h'; rw [decide_eq_false (fun hf=>hrow ⟨_,_,_,h', hf⟩)]
   ·rfl
  have e2:frzArg σ k = id:=by
   funext x; unfold frzArg
   split
   ·rename_i h'; rw [decide_eq_false (fun hf=>hrow ⟨_,_,_,h', hf⟩)]; rfl
   ·rfl
  refine ⟨E,by rw [e1]; exact hR,fun i x u hi hu=>?_⟩
  rw [e2,List.map_id] at hi
  rw [e1]; exact hargs i x u hi hu
theorem frzs_args {vs:List Value}:∀ (ks:List Nat) {σ : St} {E:Env} {args:List AV},Rel W0 mine kn E σ a W → (∀ (i:Nat) (x:AV) (u:Value),args[i]? = some x → vs[i]? = some u → RAV E true x u ∧ Bl σ.own.length x) →
  ∃ E' σ', Rel W0 mine kn E' σ' a W ∧ ∀ (i:Nat) (x:AV) (u:Value),(args.map (frzArgs σ ks))[i]? = some x → vs[i]? = some u → RAV E' true x u
 | [],σ,E,args,hR,h=>⟨E,σ,hR,fun i x u hi hu=>by
   have e:frzArgs σ [] = id:=rfl
   rw [e,List.map_id] at hi; exact (h i x u hi hu).1⟩
 | k :: ks,σ,E,args,hR,h=>by
  obtain ⟨E1,hR1,h1⟩:=frz_args k hR h
  obtain ⟨E2,σ2,hR2,h2⟩:=frzs_args ks hR1 h1
  refine ⟨E2,σ2,hR2,fun i x u hi hu=>h2 i x u ?_ hu⟩
  rw [List.map_map]
  exact hi
theorem Good.lends {G:(Nat → Option Obj) → Prop} (hG:∀ h,(∀ b o,kn.gl b = some o → h b = some o) → G h) {f:Nat} {args cargs:List AV} {dst:Option Nat} {res:AV} (ks:List Nat) (hc:ACallG G P f [] cargs [] res) (hp:plainA res = true)
  (hw:WkL ((args.map (frzArgs σ ks)).map (renT (posOf []))) cargs) (hbc:cargs.all (blT 0) = true)
  (hk:AW P Q W0 mine kn K (σ.put dst res)):Good P Q W0 mine kn (.call f args dst K σ):=by
 intro hq E a W vs hh hR hl hargs
 obtain ⟨E1,σ1,hR1,h1⟩:=frzs_args ks hR hargs
 have hM1:Mem W (mineOf (envIn E1 []) []) (knOf (envIn E1 []) []) (envIn E1 []) [] W:=hR1.mem.inn (js:=[]) List.nodup_nil (fun k hk=>by simp at hk)
 refine callT_mono (hc (envIn E1 []) W vs (hG _ hR1.mem.glob) hM1 (fun k cs ty h=>by simp at h) (by rw [← hw.len,List.length_map,List.length_map]; exact hl) fun i x u hx hu=>?_) fun v W' ⟨E', hM,hwf,hres,hb⟩=>?_
 ·obtain ⟨y,hy,hyw⟩:=hw.get i x hx
  rw [List.getElem?_map] at hy
  cases hz:(args.map (frzArgs σ ks))[i]? with
  | none=>rw [hz] at hy; cases hy
  | some z =>
   rw [hz] at hy; cases hy
   exact ⟨hyw.rav (renT_rav (renIn E1 []) (h1 i z u hz hu)),blT_ok (List.all_eq_true.1 hbc x (List.mem_of_getElem? hx))⟩
 ·have hg:Grew W W' := ⟨hM.os,hM.tape,hM.output,hM.size,fun b hb=>hM.keep b hb (by rintro ⟨i,ob,h,_⟩; simp at h)⟩
  have hR2:Rel W0 mine kn E (σ.put dst res) (a.put dst v) W' := by
   have h0:Rel W0 mine kn E σ a W' := ⟨hR.mem.grew hg,hR.defs,hR.len,hR.tm,hR.wf,hR.wfo⟩
   exact h0.put (plainA_rav hres hp) (plainA_bl hp)
  exact ⟨holdsH.of hR2 hh,hk hq E _ W' hh hR2⟩
theorem AW.loop {ι : Type} (I:ι → St) (m:ι → Nat) {x:Code} (i0:ι) (h:∀ i,AW P Q W0 mine kn (.c x :: .back (fun a W=>∃ j E,m j < m i ∧ Rel W0 mine kn E (I j) a W) :: K) (I i)):AW P Q W0 mine kn (.c (.loop x) :: K) (I i0):=by
 have key:∀ (n:Nat) (i:ι) (E:Env) (a:Act) (W:World),m i < n → Rel W0 mine kn E (I i) a W → Code.rounds P x (wp0 P Q K) n a W:=by
  intro n
  induction n with
  | zero=>intro i E a W h; omega
  | succ n ih =>
   intro i E a W hm hR
   refine wp_mono ((h i).to0 E a W hR) fun e a w hq=>?_
   cases e with
   | normal =>
    obtain ⟨j,E', hj,hR'⟩:=hq
    exact ih j E' a w (by omega) hR'
   | _=>exact hq
 exact fun _ E a W _ hR=>wp_loop_rounds (m i0 + 1) (key _ i0 E a W (by omega) hR)
theorem Good.byContract {G:(Nat → Option Obj) → Prop} (hG:∀ h,(∀ b o,kn.gl b = some o → h b = some o) → G h) {f:Nat} {args cargs:List AV} {dst:Option Nat} {own' : List OB} {res:AV} (js:List Nat) (hc:ACallG G P f (ownIn σ.own js) cargs own' res)
  (hw:WkL (args.map (renT (posOf js))) cargs) (hjs:js.Nodup) (hlt:∀ k ∈ js,k < σ.own.length) (hlen:js.length ≤ own'.length) (hbc:cargs.all (blT js.length) = true)
  (hk:AW P Q W0 mine kn K ((callSt σ js own').put dst (renT (gout σ.own.length js) res))):Good P Q W0 mine kn (.call f args dst K σ):=by
 intro hp E a W vs hh hR hl hargs
 have hWfo:Wfo σ.own:=hR.wfo
 have hll:(ownIn σ.own js).length = js.length:=by simp [ownIn]
 refine callT_mono (hc (envIn E js) W vs (hG _ hR.mem.glob) (hR.mem.inn hjs hlt) (hWfo.inn hlt) (by rw [← hw.len,List.length_map]; exact hl) fun i x u hx hu=>?_) fun v W' ⟨E', hM,hwf,hres,hb⟩=>?_
 ·obtain ⟨y,hy,hyw⟩:=hw.get i x hx
  rw [List.getElem?_map] at hy
  cases hq:args[i]? with
  | none=>rw [hq] at hy; cases hy
  | some z =>
   rw [hq] at hy; cases hy
   exact ⟨hyw.rav (renT_rav (renIn E js) (hargs i z u hq hu).1),by rw [hll]; exact blT_ok (List.all_eq_true.1 hbc x (List.mem_of_getElem? hx))⟩
 ·obtain ⟨E2,hR2,hE⟩:=hR.call hjs hlt hlen hM hwf (dst:=dst) hres hb
  have hh' : ∀ b o,hp b = some o → E2.h b = some o:=fun b o hb=>hE b o (hh b o hb)
  exact ⟨holdsH.of hR2 hh', hk hp E2 _ W' hh' hR2⟩
end
def res1 (T:Tab) (σ : St):ResultVar → Option AV
 | .tmp t=>σ.tm[t]?
 | .cell a ty=>match loadA T σ ty (σ.tm.getD a .any) with
  | .ok x=>some x
  | _=>none
def resA (T:Tab) (fn:Func) (σ : St):Option AV :=
 match fn.results.toList with
 | []=>some (.t [])
 | [r]=>res1 T σ r
 | [r,s]=>match res1 T σ r,res1 T σ s with
  | some x,some y=>some (.t [x,y])
  | _,_=>none
 | [r,s,t]=>match res1 T σ r,res1 T σ s,res1 T σ t with
  | some x,some y,some z=>some (.t [x,y,z])
  | _,_,_=>none
 | _=>none
def resRun (tmps:Array Value):ResultVar → Sem Value
 | .tmp t=>pure (tmps.getD t undef)
 | .cell a t=>do loadVar t (← asAddr (tmps.getD a undef))
theorem results_resRun {fn:Func} {tmps:Array Value}:results fn tmps = (do let vs ← fn.results.mapM (resRun tmps); pure (if h:vs.size = 1 then vs[0] else .tuple vs)):=by
 unfold results
 congr 1
theorem res1_ok {P:Program} {T:Tab} (hT:TabOK P T) {W0 W:World} {mine:Nat → Prop} {kn:Kn} {E:Env} {σ : St} {a:Act} (hR:Rel W0 mine kn E σ a W) {r:ResultVar} {x:AV} (h:res1 T σ r = some x) :
  ∃ u,RAV E true x u ∧ (resRun a.tmps r).run P W = .ok u W:=by
 cases r with
 | tmp t=>exact ⟨_,hR.tm t x h,rfl⟩
 | cell t ty =>
  simp only [res1] at h
  have hg:=hR.get (.tmp t)
  have hl:=loadA_ok (P:=P) (T:=T) (o:={ dst:=none,op:=.load ty (.tmp t),type:=ty,pos := "", after:=#[],guard:=none }) (ev:=a.eval) hT hR.mem (t:=ty) (x:=.tmp t) rfl hg.1
  have hget:σ.get (.tmp t) = σ.tm.getD t .any:=rfl
  rw [hget] at hl hg
  generalize σ.tm.getD t .any = y at h hl hg
  split at h
  ·rename_i x' hx
   cases h
   rw [hx] at hl
   obtain ⟨u,hu,hrun⟩:=hl
   have hrun:=hrun W hR.mem.snap
   refine ⟨u,hu,?_⟩
   have hev:a.eval (.tmp t) = a.tmps.getD t undef:=rfl
   rw [hev] at hg
   generalize hv:a.tmps.getD t undef = v at hg
   have hp:∃ ad,v = .pointer (some ad):=by
    have hg:=hg.1
    unfold loadA at hx
    cases hg <;> first|exact ⟨_,rfl⟩|(split at hx <;> simp at hx)
   obtain ⟨ad,rfl⟩:=hp
   have h2:(execOp a.eval { dst:=none,op:=.load ty (.tmp t),type:=ty,pos := "", after:=#[],guard:=none }).run P W = ((loadVar ty ad).run P W).andThen fun u w=>.ok (.value u) w:=by
    simp [execOp,Act.eval,hv,loadAt_run]
   rw [h2] at hrun
   have h3:(resRun a.tmps (.cell t ty)).run P W = (loadVar ty ad).run P W:=by
    simp [resRun,hv,asAddr]
   rw [h3]
   generalize (loadVar ty ad).run P W = q at hrun
   cases q with
   | ok n w=>simp [Result.andThen] at hrun; obtain ⟨rfl,rfl⟩:=hrun; rfl
   | halt x w=>simp [Result.andThen] at hrun
  ·cases h
structure Walk (A:Ari) (P:Program) (T:Tab) (fn:Func) (n0:Nat) (own' : List OB) (res:AV) (GG:(Nat → Option Obj) → Prop:=fun _=>True) where
 H:List Item → St → Prop
 G:Stop → Prop
 go:∀ (n:Nat) (K:List Item) (σ : St),G (run A T n K σ) → H K σ
 B0:Act → World → Prop
 ret:∀ (σ : St),H [.back B0] σ → G (.ret σ)
 fin:∀ (σ : St),H [.back B0] σ → G (.fin σ)
 back:∀ (B:Act → World → Prop) (σ : St),H [.back B] σ → G (.back B σ)
 need:∀ (p:Prop) (K:List Item) (σ : St),p → H K σ → G (.need p K σ)
 idx:∀ (es:List (List AV)) (n:Int) (q:Option (Nat × Nat)) (dst:Option Nat) (K:List Item) (σ : St) (i:Nat) (cells:List AV),es[i]? = some cells → n = i →
  H K (σ.put dst (match q with|none=>.ip cells|some (k,sz)=>.q k sz i 0)) → G (.idx es n q dst K σ)
 ldq:∀ (es:List (List AV)) (i off size:Nat) (agg:Bool) (dst:Option Nat) (K:List Item) (σ : St) (cells:List AV),es[i]? = some cells → H K (σ.put dst (mkA agg ((cells.drop off).take size))) → G (.ldq es i off size agg dst K σ)
 stq:∀ (k ety sz i off:Nat) (es:List (List AV)) (ds:List AV) (K:List Item) (σ : St) (cells:List AV),es[i]? = some cells →
  H K { σ with own:=σ.own.set k (.row ety sz (es.set i (cells.take off ++ ds ++ cells.drop (off + ds.length)))) } → G (.stq k ety sz i off es ds K σ)
 split:∀ (x:Bool) (K1:List Item) (σ1:St) (K2:List Item) (σ2:St),(x = true → H K1 σ1) → (x = false → H K2 σ2) → G (.split x K1 σ1 K2 σ2)
 loop:∀ (ι : Type) (I:ι → St) (m:ι → Nat) (x:Code) (K:List Item) (i0:ι),(∀ (i:ι) (B:Act → World → Prop),(∀ j,m j < m i → H [.back B] (I j)) → H (.c x :: .back B :: K) (I i)) → H (.c (.loop x) :: K) (I i0)
 loopG:∀ (x:Code) (K:List Item) (σ : St),H (.c (.loop x) :: K) σ → G (.loop x K σ)
 weak:∀ (K:List Item) (σ σ' : St),H K σ' → WkL σ.tm σ'.tm → OWk σ.own σ'.own → (σ'.tm.all (blT σ'.own.length) && blO σ'.own.length σ'.own) = true → n0 ≤ σ'.own.length → H K σ
 frz:∀ (k:Nat) (K:List Item) (σ : St),H K (σ.frz k) → H K σ
 frzB:∀ (k:Nat) (K:List Item) (σ : St),n0 ≤ k → H K (σ.frzB k) → H K σ
 perm:∀ (js bs:List Nat) (K:List Item) (σ : St),okPerm n0 σ.own js bs = true → H K (σ.perm js) → H K σ
 nilB:∀ (k j ety sz:Nat) (K:List Item) (σ : St),H K (σ.nilB k j ety sz) → H K σ
 callNilB:∀ (f:Nat) (args:List AV) (dst:Option Nat) (K:List Item) (σ : St) (k j ety sz:Nat),G (.call f args dst K (σ.nilB k j ety sz)) → G (.call f args dst K σ)
 fork:∀ (s1 s2:Stop),G s1 → G s2 → G (.fork s1 s2)
 callFrz:∀ (f:Nat) (args:List AV) (dst:Option Nat) (K:List Item) (σ : St) (k:Nat),G (.call f (args.map (frzArg σ k)) dst K (σ.frz k)) → G (.call f args dst K σ)
 lend:∀ (f:Nat) (args:List AV) (dst:Option Nat) (K:List Item) (σ : St) (ks:List Nat) (cargs:List AV) (res' : AV),ACallG GG P f [] cargs [] res' → plainA res' = true → WkL ((args.map (frzArgs σ ks)).map (renT (posOf []))) cargs → cargs.all (blT 0) = true →
  H K (σ.put dst res') → G (.call f args dst K σ)
 nilT:∀ (t ety sz:Nat) (K:List Item) (σ : St),H K (σ.nilT t ety sz) → H K σ
 idxw:∀ (k sz lo n:Nat) (z:Int) (dst:Option Nat) (K:List Item) (σ : St) (i j:Nat),z = i → i < n → j = lo + i → H K (σ.put dst (.q k sz j 0)) → G (.idxw k sz lo n z dst K σ)
 cutr:∀ (k sz:Nat) (es:List (List AV)) (l h:Option Int) (dst:Option Nat) (K:List Item) (σ : St) (a m:Nat),CutsAt l h a m es.length → H K (σ.put dst (.w k sz a m)) → G (.cutr k sz es l h dst K σ)
 cutw:∀ (k sz lo n:Nat) (l h:Option Int) (dst:Option Nat) (K:List Item) (σ : St) (a m lo' : Nat),CutsAt l h a m n → lo' = lo + a → H K (σ.put dst (.w k sz lo' m)) → G (.cutw k sz lo n l h dst K σ)
 coin:∀ (neg:Bool) (es:List (List AV)) (dst:Option Nat) (K:List Item) (σ : St),(∀ b:Bool,(b = !neg → es = []) → H K (σ.put dst (.b b))) → G (.coin neg es dst K σ)
 ixa:∀ (k off sz n:Nat) (z:Int) (dst:Option Nat) (K:List Item) (σ : St) (i:Nat),z = i → i < n → H K (σ.put dst (.p k (off + i * sz))) → G (.ixa k off sz n z dst K σ)
 halt:∀ (K:List Item) (σ : St),H K σ → G (.halt K σ)
 join:∀ (x:Code) (id:Nat) (K:List Item) (σ : St),(∀ B:Act → World → Prop,(∀ σ' : St,H K σ' → G (.back B σ')) → H (.c x :: .blk id :: .back B :: K) σ) → H (.c x :: .blk id :: K) σ
 fix:∀ (k ety sz:Nat) (es:List (List AV)) (K:List Item) (σ : St),σ.own[k]? = some (.row ety sz es) → ety < 1000000 → H K { tm:=σ.tm,own:=σ.own.set k (.row (ety + 1000000) sz es) } → H K σ
 callW:∀ (f:Nat) (args:List AV) (dst:Option Nat) (K:List Item) (σ : St) (k sz n:Nat) (es:List (List AV)),rowOf σ k = some (sz,es) → n = es.length → G (.call f (args.map (asW k sz n)) dst K σ) → G (.call f args dst K σ)
 asW:∀ (t k sz n:Nat) (es:List (List AV)) (K:List Item) (σ : St),rowOf σ k = some (sz,es) → n = es.length → H K { tm:=σ.tm.set t (asW k sz n (σ.tm.getD t .any)),own:=σ.own } → H K σ
 str:∀ (es:List (List AV)) (dst:Option Nat) (K:List Item) (σ : St) (s:ByteArray),es = sbytes s → H K (σ.put dst (.v (.string s))) → G (.str es dst K σ)
 drawX:∀ (all:Array Oper) (K:List Item) (σ : St) (hk:okReg all = true),H (.drx all hk all.size 0 :: K) σ → G (.draw all K σ)
 call:∀ (f:Nat) (args:List AV) (dst:Option Nat) (K:List Item) (σ : St) (js:List Nat) (cargs:List AV) (cown own'' : List OB) (res' : AV),ACallG GG P f cown cargs own'' res' → ownIn σ.own js = cown → WkL (args.map (renT (posOf js))) cargs → js.Nodup →
  (∀ k ∈ js,k < σ.own.length) → js.length ≤ own''.length → cargs.all (blT js.length) = true → H K ((callSt σ js own'').put dst (renT (gout σ.own.length js) res')) → G (.call f args dst K σ)
 exit:∀ (σ : St) (r:AV),resA T fn σ = some r → Wk r res → OWk σ.own own' → n0 ≤ own'.length → (blT own'.length res && blO own'.length own') = true → H [.back B0] σ
def St.start (fn:Func) (own:List OB) (args:List AV):St:={ tm:=args ++ List.replicate (fn.ntmps - args.length) .any,own:=own }
section
variable {P:Program} {T:Tab}
theorem ACallG.of_walk {GG:(Nat → Option Obj) → Prop} (hGG:Stays GG) {f:Nat} {fn:Func} {c:Code} {own own' : List OB} {args:List AV} {res:AV} (hT:TabOK P T) (hf:P.funcs[f]? = some fn) (hb:fn.body = some c) (hn:(fn.name == "runtime.NumGoroutine") = false) (hmo:P.follows .mixedOrders = true)
  (h:∀ (A:Ari),A = std → ∀ X:Walk A P T fn own.length own' res GG,X.H [.c c] (St.start fn own args)):ACallG GG P f own args own' res:=by
 intro E W vs hGE hM hwf hl hargs
 have hGk:∀ h', (∀ b o,(knOf E own).gl b = some o → h' b = some o) → GG h' := fun h' hh=>hGG E.h h' hh hGE
 refine .inl ⟨⟨fn,hf,hn,by simp [hb]⟩,calls_of_wp hf hb ?_⟩
 let R:Ending → World → Prop:=fun e W' => ∃ v,e = .returned v ∧ ∃ E', Mem W (mineOf E own) (knOf E own) E' own' W' ∧ Wfo own' ∧ RAV E' true res v ∧ Bl own'.length res
 have hkn:∀ k,own.length ≤ k → (knOf E own).an k = none:=by
  intro k hk
  simp only [knOf]
  rw [List.getElem?_eq_none hk]
  rfl
 let X:Walk std P T fn own.length own' res GG:={
  H:=AW P (bodyPost P fn R) W (mineOf E own) (knOf E own)
  G:=Good P (bodyPost P fn R) W (mineOf E own) (knOf E own)
  go:=fun n K σ h=>run_good rfl hT hmo (fun c a d v w hq=>⟨by have:=hq.1; cases d <;> exact this,hq.2⟩) n K σ h
  B0:=bodyPost P fn R .ret
  ret:=fun σ h E a W hR=>h.to0 E a W hR
  fin:=fun σ h E a W hR=>h.to0 E a W hR
  back:=fun B σ h E a W hR=>h.to0 E a W hR
  need:=fun p K σ h1 h2=>⟨h1,h2⟩
  idx:=fun es n q dst K σ i cells h1 h2 h3=>⟨i,cells,h1,h2,h3⟩
  ldq:=fun es i off size agg dst K σ cells h1 h2=>⟨cells,h1,h2⟩
  stq:=fun k ety sz i off es ds K σ cells h1 h2=>⟨cells,h1,h2⟩
  split:=fun x K1 σ1 K2 σ2 h1 h2=>⟨h1,h2⟩
  loop:=fun ι I m x K i0 h=>AW.loop I m i0 fun i=>h i _ fun j hj _ E a W _ hR=>⟨j,E,hj,hR⟩
  loopG:=fun x K σ h=>h
  weak:=fun K σ σ' h1 h2 h3 h4 h5=>h1.weak h2 h3 h4 fun k hk=>hkn k (Nat.le_trans h5 hk)
  frz:=fun k K σ h=>h.frz k
  frzB:=fun k K σ hk h=>h.frzB k (hkn k hk)
  perm:=fun js bs K σ h1 h2=>AW.perm js bs hkn h1 h2
  nilB:=fun k j ety sz K σ h=>h.nilB k j ety sz
  callNilB:=fun f args dst K σ k j ety sz h=>Good.callNilB k j ety sz h
  fork:=fun s1 s2 h1 h2=>⟨h1,h2⟩
  callFrz:=fun f args dst K σ k h=>Good.callFrz k h
  lend:=fun f args dst K σ ks cargs res' hc hp hw hb h=>Good.lends hGk ks hc hp hw hb h
  nilT:=fun t ety sz K σ h=>h.nilT t ety sz
  idxw:=fun k sz lo n z dst K σ i j h1 h2 h3 h4=>⟨i,j,h1,h2,h3,h4⟩
  cutr:=fun k sz es l h dst K σ a m h1 h2=>⟨a,m,h1,h2⟩
  cutw:=fun k sz lo n l h dst K σ a m lo' h1 h2 h3=>⟨a,m,lo', h1,h2,h3⟩
  coin:=fun neg es dst K σ h=>h
  ixa:=fun k off sz n z dst K σ i h1 h2 h3=>⟨i,h1,h2,h3⟩
  halt:=fun K σ h=>h
  join:=fun x id K σ h=>by
   have h' := h (fun a w=>wp0 P (bodyPost P fn R) K .normal a w) (fun σ' hK E a W hR=>hK.to0 E a W hR)
   intro hh E a W hs hR
   refine wp_mono (h'.to0 E a W hR) fun e a w hq=>?_
   cases e <;> first|exact hq|(simp only [wp0] at hq ⊢; exact hq)
  fix:=fun k ety sz es K σ h1 h2 h3=>AW.fix h1 h2 h3
  callW:=fun f args dst K σ k sz n es h1 h2 h3=>Good.callW h1 h2 h3
  asW:=fun t k sz n es K σ h1 h2 h3=>AW.asW t h1 h2 h3
  str:=fun es dst K σ s h1 h2=>⟨s,h1,h2⟩
  drawX:=fun all K σ hk h=>⟨hk,h⟩
  call:=fun f args dst K σ js cargs cown own'' res' h1 h2 h3 h4 h5 h6 h7 h8=>Good.byContract hGk js (h2 ▸ h1) h3 h4 h5 h6 h7 h8
  exit:=fun σ r h1 h2 h3 h4 h5 _ E' a W' _ hR=>by
   simp only [Bool.and_eq_true] at h5
   have hM' := hR.mem.weak h3 (fun k hk=>hkn k (Nat.le_trans h4 hk))
   have hout:∀ v,RAV E' true r v → R (.returned v) W' := fun v hv=>⟨v,rfl,E', hM', blO_ok h5.2,h2.rav hv,blT_ok h5.1⟩
   show bodyPost P fn R .ret a W'
   unfold resA at h1
   split at h1
   ·rename_i hr
    have hr' : fn.results = #[]:=by apply Array.ext'; simpa using hr
    cases h1
    exact bodyPost_ret (results_none hr' _ _ _) hR.defs (hout _ (.t _ [] [] rfl fun i c u h=>by simp at h))
   ·rename_i q hr
    have hr' : fn.results = #[q]:=by apply Array.ext'; simpa using hr
    obtain ⟨u,hu,hrun⟩:=res1_ok hT hR h1
    have hres:(results fn a.tmps).run P W' = .ok u W' := by simp [results_resRun,hr', hrun,Result.andThen]
    exact bodyPost_ret hres hR.defs (hout _ hu)
   ·rename_i q s hr
    have hr' : fn.results = #[q,s]:=by apply Array.ext'; simpa using hr
    split at h1
    ·rename_i x y hx hy
     cases h1
     obtain ⟨u,hu,hrun⟩:=res1_ok hT hR hx
     obtain ⟨v,hv,hrun2⟩:=res1_ok hT hR hy
     have hres:(results fn a.tmps).run P W' = .ok (.tuple #[u,v]) W' := by simp [results_resRun,hr', hrun,hrun2,Result.andThen]
     refine bodyPost_ret hres hR.defs (hout _ (.t _ [x,y] [u,v] rfl fun i c w hc hw=>?_))
     match i with
     | 0=>simp at hc hw; subst hc; subst hw; exact hu
     | 1=>simp at hc hw; subst hc; subst hw; exact hv
     | i + 2=>simp at hc
    ·cases h1
   ·rename_i q s t hr
    have hr' : fn.results = #[q,s,t]:=by apply Array.ext'; simpa using hr
    split at h1
    ·rename_i x y z hx hy hz
     cases h1
     obtain ⟨u,hu,hrun⟩:=res1_ok hT hR hx
     obtain ⟨v,hv,hrun2⟩:=res1_ok hT hR hy
     obtain ⟨v', hv', hrun3⟩:=res1_ok hT hR hz
     have hres:(results fn a.tmps).run P W' = .ok (.tuple #[u,v,v']) W' := by simp [results_resRun,hr', hrun,hrun2,hrun3,Result.andThen]
     refine bodyPost_ret hres hR.defs (hout _ (.t _ [x,y,z] [u,v,v'] rfl fun i c w hc hw=>?_))
     match i with
     | 0=>simp at hc hw; subst hc; subst hw; exact hu
     | 1=>simp at hc hw; subst hc; subst hw; exact hv
     | 2=>simp at hc hw; subst hc; subst hw; exact hv'
     | i + 3=>simp at hc
    ·cases h1
   ·cases h1 }
 refine h std rfl X (fun _=>none) E { tmps:=vs.toArray ++ Array.replicate (fn.ntmps - vs.toArray.size) undef,defers:=[] } W (fun _ _ h=>by cases h) ⟨hM,rfl,by simp [St.start,hl],fun i x hx=>?_,fun x hx=>?_,hwf⟩
 ·simp only [St.start] at hx
  rw [Array.getD_eq_getD_getElem?]
  by_cases hi:i < args.length
  ·rw [List.getElem?_append_left hi] at hx
   have hi' : i < vs.length:=hl ▸ hi
   rw [Array.getElem?_append_left (by simpa using hi')]
   simp only [List.getElem?_toArray,List.getElem?_eq_getElem hi', Option.getD_some]
   exact (hargs i x _ hx (List.getElem?_eq_getElem hi')).1
  ·rw [List.getElem?_append_right (Nat.le_of_not_lt hi)] at hx
   rw [List.getElem?_replicate] at hx
   split at hx
   ·cases hx; exact .any _ _
   ·cases hx
 ·simp only [St.start,List.mem_append,List.mem_replicate] at hx
  rcases hx with hx|⟨_,rfl⟩
  ·obtain ⟨i,hi,rfl⟩:=List.getElem_of_mem hx
   exact (hargs i _ (vs[i]'(hl ▸ hi)) (List.getElem?_eq_getElem hi) (List.getElem?_eq_getElem _)).2
  ·exact .any
theorem ACall.of_walk {f:Nat} {fn:Func} {c:Code} {own own' : List OB} {args:List AV} {res:AV} (hT:TabOK P T) (hf:P.funcs[f]? = some fn) (hb:fn.body = some c) (hn:(fn.name == "runtime.NumGoroutine") = false) (hmo:P.follows .mixedOrders = true)
  (h:∀ (A:Ari),A = std → ∀ X:Walk A P T fn own.length own' res,X.H [.c c] (St.start fn own args)):ACall P f own args own' res :=
 fun E W vs=>ACallG.of_walk (GG:=fun _=>True) (fun _ _ _ h=>h) hT hf hb hn hmo h E W vs trivial
end
end Go.AE
