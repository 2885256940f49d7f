/- AE, part 11: the table of types, put together. AE, part 12: saying less, as something to be reckoned out; loops by what they carry. -/
import Derived.Test.YthadehkggddgoaaGreatDoorAE10
section
set_option linter.unusedVariables false
namespace Go.AE
open Go
theorem info_of {P:Program} {t:Nat} {f:TypeInfo} (h:P.types[t]? = some f):P.info? t = some f:=by
 have ht:t < P.types.size:=(Array.getElem?_eq_some_iff.1 h).1
 rw [← h]
 simp [Tables.info?,ht]
theorem size_of {P:Program} {t n:Nat} {f:TypeInfo} (h:P.types[t]? = some f) (hs:f.size = n):(P.info? t).map (·.size) = some n:=by rw [info_of h,← hs]; rfl
def FieldsOK (P:Program):List Field → List (Nat × Nat × Bool) → Prop
 | [],[]=>True
 | f :: l,x :: m=>(f.offset = x.1 ∧ (P.info? f.type).map (·.size) = some x.2.1 ∧ (∀ W,(isAgg f.type).run P W = .ok x.2.2 W) ∧ (x.2.2 = false → x.2.1 = 1)) ∧ FieldsOK P l m
 | _,_=>False
theorem FieldsOK.len {P:Program}:∀ {l:List Field} {m:List (Nat × Nat × Bool)},FieldsOK P l m → m.length = l.length
 | [],[],_=>rfl
 | [],_ :: _,h=>h.elim
 | _ :: _,[],h=>h.elim
 | _ :: _,_ :: _,h=>by simp [FieldsOK.len h.2]
theorem FieldsOK.get {P:Program}:∀ {l:List Field} {m:List (Nat × Nat × Bool)},FieldsOK P l m → ∀ (i:Nat) (f:Field) (x:Nat × Nat × Bool),l[i]? = some f → m[i]? = some x →
  f.offset = x.1 ∧ (P.info? f.type).map (·.size) = some x.2.1 ∧ (∀ W,(isAgg f.type).run P W = .ok x.2.2 W) ∧ (x.2.2 = false → x.2.1 = 1)
 | [],[],_,i,f,x,h,_=>by simp at h
 | [],_ :: _,h,_,_,_,_,_=>h.elim
 | _ :: _,[],h,_,_,_,_,_=>h.elim
 | f :: l,x :: m,h,0,f', x', hf,hx=>by simp at hf hx; subst hf; subst hx; exact h.1
 | f :: l,x :: m,h,i + 1,f', x', hf,hx=>h.2.get i f' x' (by simpa using hf) (by simpa using hx)
theorem KindOK.struct {P:Program} {t:Nat} {fields:Array Field} {fs:List (Nat × Nat × Bool)} (h:P.underlying t = some (.struct fields)) (hf:FieldsOK P fields.toList fs):KindOK P t (.struct fs none) :=
 ⟨fields,h,by simpa using hf.len,fun i f x h1 h2=>hf.get i f x (by simpa using h1) h2,fun _ e=>by cases e⟩
def FieldsEq:List Field → List Nat → Prop
 | [],[]=>True
 | f :: l,ty :: m=>(f.type = ty ∧ f.name ≠ "_") ∧ FieldsEq l m
 | _,_=>False
theorem FieldsEq.len:∀ {l:List Field} {m:List Nat},FieldsEq l m → m.length = l.length
 | [],[],_=>rfl
 | [],_ :: _,h=>h.elim
 | _ :: _,[],h=>h.elim
 | _ :: _,_ :: _,h=>by simp [FieldsEq.len h.2]
theorem FieldsEq.get:∀ {l:List Field} {m:List Nat},FieldsEq l m → ∀ (i:Nat) (f:Field) (x:Nat),l[i]? = some f → m[i]? = some x → f.type = x ∧ f.name ≠ "_"
 | [],[],_,i,f,x,h,_=>by simp at h
 | [],_ :: _,h,_,_,_,_,_=>h.elim
 | _ :: _,[],h,_,_,_,_,_=>h.elim
 | f :: l,x :: m,h,0,f', x', hf,hx=>by simp at hf hx; subst hf; subst hx; exact h.1
 | f :: l,x :: m,h,i + 1,f', x', hf,hx=>h.2.get i f' x' (by simpa using hf) (by simpa using hx)
theorem KindOK.structEq {P:Program} {t:Nat} {fields:Array Field} {fs:List (Nat × Nat × Bool)} {tys:List Nat} (h:P.underlying t = some (.struct fields)) (hf:FieldsOK P fields.toList fs)
  (h1:P.stoodInHeld t = false) (h2:P.eqGuardType P.depth t = false) (he:FieldsEq fields.toList tys):KindOK P t (.struct fs (some tys)) :=
 ⟨fields,h,by simpa using hf.len,fun i f x h1 h2=>hf.get i f x (by simpa using h1) h2,fun tys' e=>by cases e; exact ⟨h1,h2,by simpa using he.len,fun i f ty h1 h2=>he.get i f ty (by simpa using h1) h2⟩⟩
theorem KindOK.map {P:Program} {t k e:Nat} (h:P.underlying t = some (.map k e)) {f:TypeInfo} (hi:P.types[e]? = some f) {z:Value} (hz:f.zero = some z) (h1:z.oneCell' = true):KindOK P t (.map k e) :=
 ⟨h,z,by rw [info_of hi]; exact hz,h1⟩
theorem TypeOK.of {P:Program} {t:Nat} {k:TK} {size bytes:Nat} {zero:List Value} (hk:KindOK P t k) {f:TypeInfo} (hi:P.types[t]? = some f) (h1:f.size = size) (h2:f.bytes = bytes) {z:Value} (h3:f.zero = some z) (h4:z.cells = zero.toArray)
  (h5:zero.all (fun x=>x.oneCell') = true) (h6:zero.length = size) (h7:k.agg = false → size = 1):TypeOK P t ⟨k,size,bytes,zero⟩ :=
 ⟨hk,⟨f,info_of hi,h1,h2,z,h3,h4⟩,fun x hx=>List.all_eq_true.1 h5 x hx,h6,h7⟩
theorem TabOK.nil {P:Program}:TabOK P []:=fun t i h=>by cases h
theorem TabOK.cons {P:Program} {t:Nat} {i:TI} {T:Tab} (h:TypeOK P t i) (hT:TabOK P T):TabOK P ((t,i) :: T):=fun t' i' h' => by
 simp only [look] at h'
 split at h'
 ·rename_i e; cases h'; exact e ▸ h
 ·exact hT t' i' h'
end Go.AE
end
section
set_option linter.unusedVariables false
set_option linter.unusedSimpArgs false
namespace Go.AE
open Go
def WkC (x y:AV):Prop :=
 match x,y with
 | _,.any=>True
 | .v (.slice none 0 0),.l _ es=>es = []
 | .v (.bool a),.b b=>a = b
 | .b a,.v (.bool b)=>a = b
 | .b a,.b b=>a = b
 | .v (.int k a),.v (.int k' b)=>if k = k' then a = b else False
 | .v (.string s),.v (.string t)=>s = t
 | .l sz es,.l sz' es' => if sz = sz' then es = es' else False
 | .w k sz lo n,.w k' sz' lo' n' => if k = k' ∧ sz = sz' then lo = lo' ∧ n = n' else False
 | x,y=>x = y
def WkCs:List AV → List AV → Prop
 | [],[]=>True
 | x :: xs,y :: ys=>WkC x y ∧ WkCs xs ys
 | _,_=>False
def WkM (x y:AV):Prop :=
 match x,y with
 | .a cs,.a ds=>WkCs cs ds
 | x,y=>WkC x y
def WkMs:List AV → List AV → Prop
 | [],[]=>True
 | x :: xs,y :: ys=>WkM x y ∧ WkMs xs ys
 | _,_=>False
def WkT (x y:AV):Prop :=
 match x,y with
 | .t cs,.t ds=>WkMs cs ds
 | x,y=>WkM x y
def WkTs:List AV → List AV → Prop
 | [],[]=>True
 | x :: xs,y :: ys=>WkT x y ∧ WkTs xs ys
 | _,_=>False
def WkOs:List OB → List OB → Prop
 | _,[]=>True
 | [],_ :: _=>False
 | .box cs ty :: l,.box ds ty' :: m=>(ty = ty' ∧ WkCs cs ds) ∧ WkOs l m
 | .row ety sz es :: l,.row ety' sz' es' :: m=>(ety = ety' ∧ sz = sz' ∧ es = es') ∧ WkOs l m
 | .row ety _ _ :: l,.dead :: m=>ety < 1000000 ∧ WkOs l m
 | .dead :: l,.dead :: m=>WkOs l m
 | .mp kk vk f :: l,.mp kk' vk' f' :: m=>(kk = kk' ∧ vk = vk' ∧ f = f') ∧ WkOs l m
 | _ :: _,_ :: _=>False
theorem WkC.wk {x y:AV} (h:WkC x y):Wk x y:=by
 unfold WkC at h
 split at h
 ·exact .any _
 ·subst h; exact .nil _
 ·subst h; exact .vb _
 ·subst h; exact .bv _
 ·subst h; exact .refl _
 ·split at h
  ·rename_i e; subst e; subst h; exact .refl _
  ·exact h.elim
 ·subst h; exact .refl _
 ·split at h
  ·rename_i e; subst e; subst h; exact .refl _
  ·exact h.elim
 ·split at h
  ·rename_i e; obtain ⟨e1,e2⟩:=e; obtain ⟨h1,h2⟩:=h; subst e1; subst e2; subst h1; subst h2; exact .refl _
  ·exact h.elim
 ·subst h; exact .refl _
theorem WkCs.wk:∀ {xs ys:List AV},WkCs xs ys → WkL xs ys
 | [],[],_=>.nil
 | x :: xs,y :: ys,h=>.cons h.1.wk (WkCs.wk h.2)
 | [],_ :: _,h=>h.elim
 | _ :: _,[],h=>h.elim
theorem WkL.at {xs ys:List AV} (h:WkL xs ys):∀ (i:Nat) (c d:AV),xs[i]? = some c → ys[i]? = some d → Wk c d:=fun i c d hc hd=>by
 obtain ⟨x,hx,hw⟩:=h.get i d hd
 rw [hc] at hx; cases hx; exact hw
theorem WkM.wk {x y:AV} (h:WkM x y):Wk x y:=by
 unfold WkM at h
 split at h
 ·have:=WkCs.wk h; exact .a _ _ this.len this.at
 ·exact h.wk
theorem WkMs.wk:∀ {xs ys:List AV},WkMs xs ys → WkL xs ys
 | [],[],_=>.nil
 | x :: xs,y :: ys,h=>.cons h.1.wk (WkMs.wk h.2)
 | [],_ :: _,h=>h.elim
 | _ :: _,[],h=>h.elim
theorem WkT.wk {x y:AV} (h:WkT x y):Wk x y:=by
 unfold WkT at h
 split at h
 ·have:=WkMs.wk h; exact .t _ _ this.len this.at
 ·exact h.wk
theorem WkTs.wk:∀ {xs ys:List AV},WkTs xs ys → WkL xs ys
 | [],[],_=>.nil
 | x :: xs,y :: ys,h=>.cons h.1.wk (WkTs.wk h.2)
 | [],_ :: _,h=>h.elim
 | _ :: _,[],h=>h.elim
theorem WkOs.wk:∀ {l m:List OB},WkOs l m → OWk l m
 | l,[],_=>.nil l
 | [],_ :: _,h=>h.elim
 | .box cs ty :: l,.box ds ty' :: m,h=>by obtain ⟨⟨rfl,h1⟩,h2⟩:=h; exact .box h1.wk h2.wk
 | .row ety sz es :: l,.row ety' sz' es' :: m,h=>.row h.1.1 h.1.2.1 h.1.2.2 (WkOs.wk h.2)
 | .row _ _ _ :: l,.dead :: m,h=>.dead h.1 (WkOs.wk (l:=l) (m:=m) h.2)
 | .dead :: l,.dead :: m,h=>.same (WkOs.wk (l:=l) (m:=m) h)
 | .box _ _ :: _,.row _ _ _ :: _,h=>h.elim
 | .box _ _ :: _,.dead :: _,h=>h.elim
 | .row _ _ _ :: _,.box _ _ :: _,h=>h.elim
 | .dead :: _,.box _ _ :: _,h=>h.elim
 | .dead :: _,.row _ _ _ :: _,h=>h.elim
 | .mp _ _ _ :: l,.mp _ _ _ :: m,h=>.map h.1.1 h.1.2.1 h.1.2.2 (WkOs.wk h.2)
 | .box _ _ :: _,.mp _ _ _ :: _,h=>h.elim
 | .row _ _ _ :: _,.mp _ _ _ :: _,h=>h.elim
 | .dead :: _,.mp _ _ _ :: _,h=>h.elim
 | .mp _ _ _ :: _,.box _ _ :: _,h=>h.elim
 | .mp _ _ _ :: _,.row _ _ _ :: _,h=>h.elim
 | .mp _ _ _ :: _,.dead :: _,h=>h.elim
def Says (n0:Nat) (σ σ' : St):Prop:=WkTs σ.tm σ'.tm ∧ WkOs σ.own σ'.own ∧ (σ'.tm.all (blT σ'.own.length) && blO σ'.own.length σ'.own) = true ∧ n0 ≤ σ'.own.length
def opsDst:List Oper → List Nat
 | []=>[]
 | o :: l=>match o.dst with|some d=>d :: opsDst l|none=>opsDst l
def dsts:Code → List Nat
 | .seq x y=>dsts x ++ dsts y
 | .block _ x=>dsts x
 | .loop x=>dsts x
 | .cond _ x y=>dsts x ++ dsts y
 | .region _ os _=>opsDst os.toList
 | .scope x=>dsts x
 | .rangeFunc _ _ _ b=>dsts b
 | _=>[]
def anyL (l:List AV):List Nat → List AV
 | []=>l
 | d :: ds=>anyL (l.set d .any) ds
def updL (l:List AV):List (Nat × AV) → List AV
 | []=>l
 | (d,x) :: ps=>updL (l.set d x) ps
def St.carry (σ : St) (x:Code) (ps:List (Nat × AV)) (own:List OB):St:={ tm:=updL (anyL σ.tm (dsts x)) ps,own:=own }
section
variable {A:Ari} {P:Program} {T:Tab} {fn:Func} {n0:Nat} {own' : List OB} {res:AV} {GG:(Nat → Option Obj) → Prop}
theorem Walk.less (X:Walk A P T fn n0 own' res GG) {K:List Item} {σ : St} (σ' : St) (hs:Says n0 σ σ') (h:X.H K σ'):X.H K σ :=
 X.weak K σ σ' h hs.1.wk hs.2.1.wk hs.2.2.1 hs.2.2.2
theorem Walk.carries (X:Walk A P T fn n0 own' res GG) {x:Code} {K:List Item} {σ : St} {ι : Type} (ps:ι → List (Nat × AV)) (own:ι → List OB) (m:ι → Nat) (i0:ι) (h0:Says n0 σ (σ.carry x (ps i0) (own i0)))
  (h:∀ (i:ι) (B:Act → World → Prop),(∀ (j:ι) (σ' : St),m j < m i → Says n0 σ' (σ.carry x (ps j) (own j)) → X.G (.back B σ')) → X.H (.c x :: .back B :: K) (σ.carry x (ps i) (own i))):X.G (.loop x K σ) :=
 X.loopG _ _ _ (X.less _ h0 (X.loop ι (fun i=>σ.carry x (ps i) (own i)) m x K i0 fun i B hB=>h i B fun j σ' hj hs=>X.back B σ' (X.less _ hs (hB j hj))))
theorem Walk.joins (X:Walk A P T fn n0 own' res GG) {x:Code} {id:Nat} {K:List Item} {σ : St} {ι : Type} (ps:ι → List (Nat × AV)) (own:ι → List OB) (h1:∀ i:ι,X.H K (σ.carry x (ps i) (own i)))
  (h2:∀ B:Act → World → Prop,(∀ (i:ι) (σ' : St),Says n0 σ' (σ.carry x (ps i) (own i)) → X.G (.back B σ')) → X.G (.loop x (.blk id :: .back B :: K) σ)):X.G (.loop x (.blk id :: K) σ) :=
 X.loopG _ _ _ (X.join _ _ _ _ fun B hB=>X.go 1 _ _ (h2 B fun i σ' hs=>hB σ' (X.less _ hs (h1 i))))
theorem Walk.idxA (X:Walk A P T fn n0 own' res GG) {es:List (List AV)} {n:Int} {k sz:Nat} {dst:Option Nat} {K:List Item} {σ : St} (i:Nat) (hi:AtR i es) (hn:n = i) (h:X.H K (σ.put dst (.q k sz i 0))):X.G (.idx es n (some (k,sz)) dst K σ) :=
 X.idx es n (some (k,sz)) dst K σ i _ (List.getElem?_eq_getElem hi.h) hn h
theorem Walk.done (X:Walk A P T fn n0 own' res GG) {σ : St} {r:AV} (h1:resA T fn σ = some r) (h:WkT r res ∧ WkOs σ.own own' ∧ (blT own'.length res && blO own'.length own') = true ∧ n0 ≤ own'.length):X.H [.back X.B0] σ :=
 X.exit σ r h1 h.1.wk h.2.1.wk h.2.2.2 h.2.2.1
def okJs (n m:Nat) (js:List Nat) (cargs:List AV):Bool:=decide js.Nodup && js.all (fun k=>decide (k < n)) && decide (js.length ≤ m) && cargs.all (blT js.length)
theorem Walk.isCall (X:Walk A P T fn n0 own' res GG) {f:Nat} {args:List AV} {dst:Option Nat} {K:List Item} {σ : St} (h:X.G (.call f args dst K σ)):X.G (.call f args dst K σ):=h
theorem Walk.lends (X:Walk A P T fn n0 own' res GG) {f:Nat} {args:List AV} {dst:Option Nat} {K:List Item} {σ : St} (ks:List Nat) {cargs:List AV} {res' : AV} (hc:ACall P f [] cargs [] res') (h1:plainA res' = true)
  (h2:WkTs ((args.map (frzArgs σ ks)).map (renT (posOf []))) cargs) (h3:cargs.all (blT 0) = true) (h:X.H K (σ.put dst res')):X.G (.call f args dst K σ) :=
 X.lend f args dst K σ ks cargs res' hc.g h1 h2.wk h3 h
theorem Walk.calls (X:Walk A P T fn n0 own' res GG) {f:Nat} {args:List AV} {dst:Option Nat} {K:List Item} {σ : St} (js:List Nat) {cargs:List AV} {cown own'' : List OB} {res' : AV} (hc:ACall P f cown cargs own'' res') (h1:ownIn σ.own js = cown)
  (h2:WkTs (args.map (renT (posOf js))) cargs) (h3:okJs σ.own.length own''.length js cargs = true) (h:X.H K ((callSt σ js own'').put dst (renT (gout σ.own.length js) res'))):X.G (.call f args dst K σ) :=
 by
  simp only [okJs,Bool.and_eq_true,decide_eq_true_eq,List.all_eq_true] at h3
  exact X.call f args dst K σ js cargs cown own'' res' hc.g h1 h2.wk h3.1.1.1 (fun k hk=>by simpa using h3.1.1.2 k hk) h3.1.2 (List.all_eq_true.2 h3.2) h
theorem Walk.lendsG (X:Walk A P T fn n0 own' res GG) {f:Nat} {args:List AV} {dst:Option Nat} {K:List Item} {σ : St} (ks:List Nat) {cargs:List AV} {res' : AV} (hc:ACallG GG P f [] cargs [] res') (h1:plainA res' = true)
  (h2:WkTs ((args.map (frzArgs σ ks)).map (renT (posOf []))) cargs) (h3:cargs.all (blT 0) = true) (h:X.H K (σ.put dst res')):X.G (.call f args dst K σ) :=
 X.lend f args dst K σ ks cargs res' hc h1 h2.wk h3 h
theorem Walk.callsG (X:Walk A P T fn n0 own' res GG) {f:Nat} {args:List AV} {dst:Option Nat} {K:List Item} {σ : St} (js:List Nat) {cargs:List AV} {cown own'' : List OB} {res' : AV} (hc:ACallG GG P f cown cargs own'' res') (h1:ownIn σ.own js = cown)
  (h2:WkTs (args.map (renT (posOf js))) cargs) (h3:okJs σ.own.length own''.length js cargs = true) (h:X.H K ((callSt σ js own'').put dst (renT (gout σ.own.length js) res'))):X.G (.call f args dst K σ) :=
 by
  simp only [okJs,Bool.and_eq_true,decide_eq_true_eq,List.all_eq_true] at h3
  exact X.call f args dst K σ js cargs cown own'' res' hc h1 h2.wk h3.1.1.1 (fun k hk=>by simpa using h3.1.1.2 k hk) h3.1.2 (List.all_eq_true.2 h3.2) h
theorem Walk.callsA (X:Walk A P T fn n0 own' res GG) {f:Nat} {args:List AV} {dst:Option Nat} {K:List Item} {σ : St} (js:List Nat) {cargs:List AV} {cown own'' : List OB} {res' : AV} (hc:ACall P f cown cargs own'' res')
  (h:X.H K ((callSt σ js own'').put dst (renT (gout σ.own.length js) res'))) (h1:ownIn σ.own js = cown:=by cbv) (h2:WkTs (args.map (renT (posOf js))) cargs:=by cbv <;> ((repeat' apply And.intro) <;> first|rfl|trivial)) (h3:okJs σ.own.length own''.length js cargs = true:=by cbv):X.G (.call f args dst K σ):=X.calls js hc h1 h2 h3 h
theorem Walk.callsGA (X:Walk A P T fn n0 own' res GG) {f:Nat} {args:List AV} {dst:Option Nat} {K:List Item} {σ : St} (js:List Nat) {cargs:List AV} {cown own'' : List OB} {res' : AV} (hc:ACallG GG P f cown cargs own'' res')
  (h:X.H K ((callSt σ js own'').put dst (renT (gout σ.own.length js) res'))) (h1:ownIn σ.own js = cown:=by cbv) (h2:WkTs (args.map (renT (posOf js))) cargs:=by cbv <;> ((repeat' apply And.intro) <;> first|rfl|trivial)) (h3:okJs σ.own.length own''.length js cargs = true:=by cbv):X.G (.call f args dst K σ):=X.callsG js hc h1 h2 h3 h
theorem Walk.splitT (X:Walk A P T fn n0 own' res GG) {x:Bool} {K1 K2:List Item} {σ1 σ2:St} (h:X.H K1 σ1) (hx:x = true:=by first|assumption|rfl):X.G (.split x K1 σ1 K2 σ2):=X.split _ _ _ _ _ (fun _=>h) (fun hc=>absurd (hx.symm.trans hc) (by decide))
theorem Walk.splitF (X:Walk A P T fn n0 own' res GG) {x:Bool} {K1 K2:List Item} {σ1 σ2:St} (h:X.H K2 σ2) (hx:x = false:=by first|assumption|rfl):X.G (.split x K1 σ1 K2 σ2):=X.split _ _ _ _ _ (fun hc=>absurd (hx.symm.trans hc) (by decide)) (fun _=>h)
theorem Walk.g (X:Walk A P T fn n0 own' res GG) {K:List Item} {σ : St} (h:X.G (run A T 500 K σ)):X.H K σ:=X.go 500 K σ h
theorem Walk.sp (X:Walk A P T fn n0 own' res GG) {x:Bool} {K1 K2:List Item} {σ1 σ2:St} (h1:x = true → X.H K1 σ1) (h2:x = false → X.H K2 σ2):X.G (.split x K1 σ1 K2 σ2):=X.split _ _ _ _ _ h1 h2
theorem Walk.needT (X:Walk A P T fn n0 own' res GG) {K:List Item} {σ : St} (h:X.H K σ):X.G (.need True K σ):=X.need _ _ _ trivial h
end
end Go.AE
end
