/- AE, part 4: what is put into slots; new blocks; stores; what is given away or forgotten. -/
import Derived.Test.YthadehkggddgoaaGreatDoorAE3
set_option linter.unusedVariables false
set_option linter.unusedSimpArgs false
namespace Go.AE
open Go
def St.put (σ : St) (d:Option Nat) (x:AV):St :=
 match d with
 | some d=>{ σ with tm:=σ.tm.set d x }
 | none=>σ
section
variable {P:Program} {A:Ari} {T:Tab} {E:Env} {own:List OB} {σ : St} {W W0:World} {mine:Nat → Prop} {kn:Kn} {a:Act}
theorem Rel.get (h:Rel W0 mine kn E σ a W) (x:Operand):RAV E true (σ.get x) (a.eval x) ∧ Bl σ.own.length (σ.get x):=by
 cases x with
 | tmp t =>
  simp only [St.get,Act.eval]
  cases ht:σ.tm[t]? with
  | none=>rw [List.getD_eq_getElem?_getD,ht]; exact ⟨.any _ _,.any⟩
  | some y=>rw [List.getD_eq_getElem?_getD,ht]; exact ⟨h.tm t y ht,h.wf y (List.mem_of_getElem? ht)⟩
 | const v =>
  simp only [St.get,Act.eval]
  have hc:∀ v:Value,RAV E true (ofConst v) v ∧ Bl σ.own.length (ofConst v):=by
   intro v
   unfold ofConst
   split
   ·rename_i cs
    split
    ·rename_i hall
     have hall' : ∀ x ∈ cs.toList,x.oneCell' = true:=List.all_eq_true.1 hall
     refine ⟨?_,.a _ fun c hc=>?_⟩
     ·have:=RAV.a (E:=E) true (cs.toList.map .v) cs.toList (by simp) hall' (fun i c u hc hu=>by
       simp only [List.getElem?_map,hu] at hc
       simp at hc; subst hc
       exact .v _ u (hall' u (List.mem_of_getElem? hu)))
      simpa using this
     ·obtain ⟨x,_,rfl⟩:=List.mem_map.1 hc
      exact .v x
    ·exact ⟨.any _ _,.any⟩
   ·exact ⟨.any _ _,.any⟩
   ·rename_i h1 h2
    refine ⟨.v _ _ ?_,.v _⟩
    cases v <;> first|rfl|(exact absurd rfl (h1 _))|(exact absurd rfl (h2 _))
  exact hc v
 | global g=>exact ⟨.any _ _,.any⟩
 | func f =>
  by_cases hf:f < 1000000
  ·have hg:σ.get (.func f) = .f f []:=by simp only [St.get,decide_eq_true hf]
   rw [hg]
   refine ⟨?_,.f _ _ (by simp)⟩
   have:=RAV.f (E:=E) true f [] [] rfl (by simp)
   rw [Nat.mod_eq_of_lt hf] at this
   simpa [Act.eval] using this
  ·have hg:σ.get (.func f) = .any:=by simp only [St.get,decide_eq_false hf]
   rw [hg]
   exact ⟨.any _ _,.any⟩
theorem Rel.put (h:Rel W0 mine kn E σ a W) {d:Option Nat} {x:AV} {u:Value} (hx:RAV E true x u) (hb:Bl σ.own.length x):Rel W0 mine kn E (σ.put d x) (a.put d u) W:=by
 cases d with
 | none=>exact h
 | some d =>
  refine ⟨h.mem,h.defs,by simp [St.put,Act.put,h.len],?_,?_,h.wfo⟩
  ·intro i y hy
   simp only [St.put] at hy
   rw [List.getElem?_set] at hy
   simp only [Act.put]
   by_cases hid:d = i
   ·subst hid
    rw [if_pos rfl] at hy
    split at hy
    ·rename_i hlt
     simp at hy; subst hy
     rw [Array.getD_eq_getD_getElem?,Array.getElem?_setIfInBounds]
     simp [h.len,hlt,hx]
    ·cases hy
   ·rw [if_neg hid] at hy
    rw [Array.getD_eq_getD_getElem?,Array.getElem?_setIfInBounds_ne hid,← Array.getD_eq_getD_getElem?]
    exact h.tm i y hy
  ·intro y hy
   rcases List.mem_or_eq_of_mem_set hy with hy|rfl
   ·exact h.wf y hy
   ·exact hb
def Env.bind (E:Env) (n b:Nat) (rv:Value):Env:={ h:=E.h,blk:=fun k=>if k = n then b else E.blk k,row:=fun k=>if k = n then rv else E.row k }
theorem RAV.bind {n b:Nat} {rv:Value} {m:Bool} {x:AV} {u:Value} (h:RAV E m x u) (hb:Bl n x):RAV (E.bind n b rv) m x u :=
 h.mono (S:=(· < n)) (fun _ _ h=>h) fun _=>⟨hb,fun k hk=>by simp [Env.bind,Nat.ne_of_lt hk]⟩
theorem OBOK.bind {n b k:Nat} {rv:Value} {ob:OB} (h:OBOK E k W ob) (hk:k < n) (hb:∀ cs ty,ob = .box cs ty → ∀ x ∈ cs,Bl n x):OBOK (E.bind n b rv) k W ob:=by
 have hkn:k ≠ n:=Nat.ne_of_lt hk
 cases ob with
 | box cs ty =>
  obtain ⟨vs,hv,hl,h1,hr⟩:=h
  refine ⟨vs,by simp [Env.bind,hkn]; exact hv,hl,h1,fun i c u hc hu=>(hr i c u hc hu).bind (hb cs ty rfl c (List.mem_of_getElem? hc))⟩
 | row ety sz es =>
  obtain ⟨xs,h⟩:=h
  refine ⟨xs,by simpa [Env.bind,hkn] using h.owns,h.len,h.one,fun i j e x u h1 h2 h3=>(h.rav i j e x u h1 h2 h3).imm (fun _ _ h=>h),by simpa [Env.bind,hkn] using h.blk⟩
 | dead=>trivial
 | mp kk vk g =>
  obtain ⟨es,c,hv,hr,hf⟩:=h
  exact ⟨es,c,by simp [Env.bind,hkn]; exact hv,by simp [Env.bind,hkn]; exact hr,hf⟩
theorem Occ.bind {n b k:Nat} {rv:Value} {ob:OB} (hk:k ≠ n):Occ (E.bind n b rv) k ob ↔ Occ E k ob:=by
 cases ob <;> simp [Occ,Env.bind,hk]
theorem Mem.push (hm:Mem W0 mine kn E own W) (wfo:∀ (k:Nat) (cs:List AV) (ty:Nat),own[k]? = some (OB.box cs ty) → ∀ x ∈ cs,Bl own.length x) {W' : World} {rv:Value} {ob:OB}
  (hos:W'.os = W.os) (ht:W'.tape = W.tape) (hout:W'.output = W.output) (hsz:W.heap.size ≤ W'.heap.size) (hold:∀ b,b < W.heap.size → W'.heap[b]? = W.heap[b]?)
  (hob:OBOK (E.bind own.length W.heap.size rv) own.length W' ob):Mem W0 mine kn (E.bind own.length W.heap.size rv) (own ++ [ob]) W' := by
 have hlt:∀ (k:Nat) (ob' : OB),own[k]? = some ob' → k < own.length:=fun k ob' h=>(List.getElem?_eq_some_iff.1 h).1
 have key:∀ (k:Nat) (ob' : OB),(own ++ [ob])[k]? = some ob' → (k < own.length ∧ own[k]? = some ob') ∨ (k = own.length ∧ ob' = ob):=by
  intro k ob' h
  by_cases hk:k < own.length
  ·rw [List.getElem?_append_left hk] at h; exact .inl ⟨hk,h⟩
  ·rw [List.getElem?_append_right (by omega)] at h
   have:k - own.length = 0:=by
    cases hq:k - own.length with
    | zero=>rfl
    | succ j=>rw [hq] at h; simp at h
   rw [this] at h
   simp at h
   exact .inr ⟨by omega,h.symm⟩
 have hocc:∀ (k:Nat) (ob' : OB),own[k]? = some ob' → Occ E k ob' → E.blk k < W.heap.size:=fun k ob' h ho=>ho.lt (hm.owns k ob' h)
 refine ⟨hos.trans hm.os,ht.trans hm.tape,hout.trans hm.output,Nat.le_trans hm.size hsz,fun b hb hmi=>(hold b (Nat.lt_of_lt_of_le hb hm.size)).trans (hm.keep b hb hmi),?_,?_,?_,?_,?_,fun k b hk=>?an,hm.glob⟩
 case an =>
  obtain ⟨⟨h1,h1'⟩,h2⟩:=hm.anch k b hk
  have:k < own.length:=isBox_lt h2
  exact ⟨⟨by simpa [Env.bind,Nat.ne_of_lt this] using h1,by simpa [Env.bind,Nat.ne_of_lt this] using h1'⟩,by rw [List.getElem?_append_left this]; exact h2⟩
 ·intro b o h
  have h' := hm.facts b o h
  rw [hold b (Array.getElem?_eq_some_iff.1 h').1]; exact h'
 ·exact hm.old
 ·intro k ob' h
  rcases key k ob' h with ⟨hk,h⟩|⟨rfl,rfl⟩
  ·have:=(hm.owns k ob' h).bind (b:=W.heap.size) (rv:=rv) hk (fun cs ty e=>by subst e; exact wfo k cs ty h)
   refine this.snap fun ho=>?_
   have ho' := (Occ.bind (Nat.ne_of_lt hk)).1 ho
   have:=hocc k ob' h ho'
   simp only [Env.bind,Nat.ne_of_lt hk,if_false]
   exact hold _ this
  ·exact hob
 ·intro k k' ob1 ob2 h1 h2 hne ho1 ho2
  rcases key k ob1 h1 with ⟨hk,g1⟩|⟨e1,e1'⟩ <;> rcases key k' ob2 h2 with ⟨hk', g2⟩|⟨e2,e2'⟩
  ·simp only [Env.bind,Nat.ne_of_lt hk,Nat.ne_of_lt hk', if_false]
   exact hm.disj k k' ob1 ob2 g1 g2 hne ((Occ.bind (Nat.ne_of_lt hk)).1 ho1) ((Occ.bind (Nat.ne_of_lt hk')).1 ho2)
  ·subst e2
   simp only [Env.bind,Nat.ne_of_lt hk,if_false,if_true]
   exact Nat.ne_of_lt (hocc k ob1 g1 ((Occ.bind (Nat.ne_of_lt hk)).1 ho1))
  ·subst e1
   simp only [Env.bind,Nat.ne_of_lt hk', if_false,if_true]
   exact (Nat.ne_of_lt (hocc k' ob2 g2 ((Occ.bind (Nat.ne_of_lt hk')).1 ho2))).symm
  ·exact absurd (e1.trans e2.symm) hne
 ·intro k ob' h ho
  rcases key k ob' h with ⟨hk,h⟩|⟨rfl,rfl⟩
  ·simp only [Env.bind,Nat.ne_of_lt hk,if_false]
   exact hm.sep k ob' h ((Occ.bind (Nat.ne_of_lt hk)).1 ho)
  ·simp only [Env.bind,if_true]
   refine ⟨?_,.inl hm.size⟩
   cases hq:E.h W.heap.size with
   | none=>rfl
   | some o =>
    have:=(Array.getElem?_eq_some_iff.1 (hm.facts _ _ hq)).1
    omega
theorem Rel.push (h:Rel W0 mine kn E σ a W) {W' : World} {rv:Value} {ob:OB}
  (hos:W'.os = W.os) (ht:W'.tape = W.tape) (hout:W'.output = W.output) (hsz:W.heap.size ≤ W'.heap.size) (hold:∀ b,b < W.heap.size → W'.heap[b]? = W.heap[b]?)
  (hob:OBOK (E.bind σ.own.length W.heap.size rv) σ.own.length W' ob) (hbl:∀ cs ty,ob = .box cs ty → ∀ x ∈ cs,Bl σ.own.length x) :
  Rel W0 mine kn (E.bind σ.own.length W.heap.size rv) { σ with own:=σ.own ++ [ob] } a W' := by
 refine ⟨h.mem.push h.wfo hos ht hout hsz hold hob,h.defs,h.len,fun i x hx=>(h.tm i x hx).bind (h.wf x (List.mem_of_getElem? hx)),fun x hx=>(h.wf x hx).mono (by simp),?_⟩
 intro k cs ty hk x hx
 by_cases hlt:k < σ.own.length
 ·simp only [List.getElem?_append_left hlt] at hk
  exact (h.wfo k cs ty hk x hx).mono (by simp)
 ·simp only [List.getElem?_append_right (Nat.le_of_not_lt hlt)] at hk
  cases hq:k - σ.own.length with
  | zero=>rw [hq] at hk; simp at hk; exact (hbl cs ty hk x hx).mono (by simp)
  | succ j=>rw [hq] at hk; simp at hk
theorem Rel.box (h:Rel W0 mine kn E σ a W) {cs:List AV} {vs:List Value} {ty:Nat} (hl:cs.length = vs.length) (h1:∀ x ∈ vs,x.oneCell' = true) (hr:∀ (i:Nat) (c:AV) (u:Value),cs[i]? = some c → vs[i]? = some u → RAV E true c u)
  (hb:∀ x ∈ cs,Bl σ.own.length x) :
  ∃ E', E'.h = E.h ∧ Rel W0 mine kn E' { σ with own:=σ.own ++ [.box cs ty] } a (W.alloc (.cells vs.toArray ty)) ∧ RAV E' true (.p σ.own.length 0) (.pointer (some ⟨W.heap.size,0,none⟩)):=by
 refine ⟨E.bind σ.own.length W.heap.size .nilFunc,rfl,h.push rfl rfl rfl (by simp) (fun b hb=>heap_alloc_old W _ b hb) ⟨vs,?_,hl,h1,fun i c u hc hu=>(hr i c u hc hu).bind (hb c (List.mem_of_getElem? hc))⟩ ?_,?_⟩
 ·simp only [Env.bind,if_true]
  exact heap_alloc_new W _
 ·intro cs' ty' e
  cases e
  exact hb
 ·have:=RAV.p (E:=E.bind σ.own.length W.heap.size .nilFunc) σ.own.length 0
  simpa [Env.bind] using this
theorem Mem.set (hm:Mem W0 mine kn E own W) {E' : Env} {W' : World} {k:Nat} {ob ob' : OB} (hk:own[k]? = some ob) (hh:E'.h = E.h) (hE:∀ j,j ≠ k → E'.blk j = E.blk j ∧ E'.row j = E.row j)
  (hr:∀ (j:Nat) (cs:List AV) (ty:Nat),own[j]? = some (.box cs ty) → j ≠ k → ∀ (x:AV) (u:Value),x ∈ cs → RAV E true x u → RAV E' true x u)
  (hos:W'.os = W.os) (ht:W'.tape = W.tape) (hout:W'.output = W.output) (hsz:W.heap.size ≤ W'.heap.size)
  (hold:∀ b,b < W.heap.size → (Occ E k ob → b ≠ E.blk k) → W'.heap[b]? = W.heap[b]?) (hob:OBOK E' k W' ob') (hnew:Occ E' k ob' → (Occ E k ob ∧ E'.blk k = E.blk k) ∨ W.heap.size ≤ E'.blk k)
  (han:isBox (some ob) = true → (E'.blk k = E.blk k ∧ E'.row k = E.row k) ∧ isBox (some ob') = true) :
  Mem W0 mine kn E' (own.set k ob') W' := by
 have hkl:k < own.length:=(List.getElem?_eq_some_iff.1 hk).1
 have key:∀ (j:Nat) (o:OB),(own.set k ob')[j]? = some o → (j ≠ k ∧ own[j]? = some o) ∨ (j = k ∧ o = ob'):=by
  intro j o h
  rw [List.getElem?_set] at h
  by_cases hjk:k = j
  ·subst hjk
   rw [if_pos rfl,if_pos hkl] at h
   simp at h
   exact .inr ⟨rfl,h.symm⟩
  ·rw [if_neg hjk] at h
   exact .inl ⟨fun e=>hjk e.symm,h⟩
 have hocc:∀ (j:Nat) (o:OB),j ≠ k → (Occ E' j o ↔ Occ E j o):=by
  intro j o hj
  cases o <;> simp [Occ,(hE j hj).1,(hE j hj).2]
 have hlt:∀ (j:Nat) (o:OB),own[j]? = some o → Occ E j o → E.blk j < W.heap.size:=fun j o h ho=>ho.lt (hm.owns j o h)
 have hne:∀ (j:Nat) (o:OB),own[j]? = some o → j ≠ k → Occ E j o → Occ E k ob → E.blk j ≠ E.blk k:=fun j o h hj ho hok=>hm.disj j k o ob h hk hj ho hok
 refine ⟨hos.trans hm.os,ht.trans hm.tape,hout.trans hm.output,Nat.le_trans hm.size hsz,?_,?_,fun b o h=>hm.old b o (hh ▸ h),?_,?_,?_,fun j b hj=>?an,fun b o hb=>by rw [hh]; exact hm.glob b o hb⟩
 case an =>
  obtain ⟨⟨h1,h1'⟩,h2⟩:=hm.anch j b hj
  by_cases hjk:j = k
  ·subst hjk
   rw [hk] at h2
   obtain ⟨h3,h4⟩:=han h2
   exact ⟨⟨h3.1.trans h1,h3.2.trans h1'⟩,by rw [List.getElem?_set_self hkl]; exact h4⟩
  ·exact ⟨⟨(hE j hjk).1.trans h1,(hE j hjk).2.trans h1'⟩,by rw [List.getElem?_set_ne (fun e=>hjk e.symm)]; exact h2⟩
 ·intro b hb hmi
  refine (hold b (Nat.lt_of_lt_of_le hb hm.size) fun ho e=>?_).trans (hm.keep b hb hmi)
  rcases (hm.sep k ob hk ho).2 with h|h
  ·omega
  ·exact hmi (e ▸ h)
 ·intro b o h
  rw [hh] at h
  have h' := hm.facts b o h
  rw [hold b (Array.getElem?_eq_some_iff.1 h').1 fun ho e=>?_]; exact h'
  have:=(hm.sep k ob hk ho).1
  rw [← e,h] at this; cases this
 ·intro j o h
  rcases key j o h with ⟨hj,h⟩|⟨rfl,rfl⟩
  ·have h1:=hm.owns j o h
   cases o with
   | box cs ty =>
    obtain ⟨vs,hv,hl,h1', hrr⟩:=h1
    refine ⟨vs,?_,hl,h1', fun i c u hc hu=>hr j cs ty h hj c u (List.mem_of_getElem? hc) (hrr i c u hc hu)⟩
    rw [(hE j hj).1,hold _ (Array.getElem?_eq_some_iff.1 hv).1 fun ho=>hne j _ h hj trivial ho]
    exact hv
   | row ety sz es =>
    obtain ⟨xs,hx⟩:=h1
    refine ⟨xs,?_,hx.len,hx.one,fun i jj e x u h2 h3 h4=>(hx.rav i jj e x u h2 h3 h4).imm (by rw [hh]; exact fun _ _ h=>h),?_⟩
    ·rw [(hE j hj).2]
     refine ownsRow_of_block hx.owns fun g hg=>?_
     have:=hx.blk g hg
     subst this
     exact hold _ (hlt j _ h hg) fun ho=>hne j _ h hj hg ho
    ·rw [(hE j hj).1,(hE j hj).2]; exact hx.blk
   | dead=>trivial
   | mp kk vk g =>
    obtain ⟨es,c,hv,hr', hf⟩:=h1
    refine ⟨es,c,?_,by rw [(hE j hj).1,(hE j hj).2]; exact hr', hf⟩
    rw [(hE j hj).1,hold _ (Array.getElem?_eq_some_iff.1 hv).1 fun ho=>hne j _ h hj trivial ho]
    exact hv
  ·exact hob
 ·intro j j' o o' h h' hjj ho ho'
  rcases key j o h with ⟨hj,g⟩|⟨e1,e1'⟩ <;> rcases key j' o' h' with ⟨hj', g'⟩|⟨e2,e2'⟩
  ·rw [(hE j hj).1,(hE j' hj').1]
   exact hm.disj j j' o o' g g' hjj ((hocc j o hj).1 ho) ((hocc j' o' hj').1 ho')
  ·subst e2; subst e2'
   have hoj:=(hocc j o hj).1 ho
   rw [(hE j hj).1]
   rcases hnew ho' with ⟨hok,e⟩|h2
   ·rw [e]; exact hne j o g hj hoj hok
   ·have:=hlt j o g hoj; omega
  ·subst e1; subst e1'
   have hoj:=(hocc j' o' hj').1 ho'
   rw [(hE j' hj').1]
   rcases hnew ho with ⟨hok,e⟩|h2
   ·rw [e]; exact (hne j' o' g' hj' hoj hok).symm
   ·have:=hlt j' o' g' hoj; omega
  ·exact absurd (e1.trans e2.symm) hjj
 ·intro j o h ho
  rcases key j o h with ⟨hj,g⟩|⟨e1,e1'⟩
  ·rw [(hE j hj).1,hh]
   exact hm.sep j o g ((hocc j o hj).1 ho)
  ·subst e1; subst e1'
   rw [hh]
   rcases hnew ho with ⟨hok,e⟩|h2
   ·rw [e]; exact hm.sep j ob hk hok
   ·refine ⟨?_,.inl (Nat.le_trans hm.size h2)⟩
    cases hq:E.h (E'.blk j) with
    | none=>rfl
    | some oo =>
     have:=(Array.getElem?_eq_some_iff.1 (hm.facts _ _ hq)).1
     omega
theorem St.set_wfo (h:Rel W0 mine kn E σ a W) {k:Nat} {ob' : OB} (hb:∀ cs ty,ob' = .box cs ty → ∀ x ∈ cs,Bl σ.own.length x) :
  ∀ (j:Nat) (cs:List AV) (ty:Nat),(σ.own.set k ob')[j]? = some (OB.box cs ty) → ∀ x ∈ cs,Bl (σ.own.set k ob').length x:=by
 intro j cs ty hj x hx
 rw [List.length_set]
 rw [List.getElem?_set] at hj
 split at hj
 ·split at hj
  ·simp at hj; exact hb cs ty hj x hx
  ·cases hj
 ·exact h.wfo j cs ty hj x hx
theorem Rel.storeBox (h:Rel W0 mine kn E σ a W) {k ty off:Nat} {cs ds:List AV} {ws:List Value} (hk:σ.own[k]? = some (.box cs ty)) (hl:ds.length = ws.length) (hle:off + ds.length ≤ cs.length)
  (h1:∀ x ∈ ws,x.oneCell' = true) (hr:∀ (i:Nat) (c:AV) (u:Value),ds[i]? = some c → ws[i]? = some u → RAV E true c u) (hb:∀ x ∈ ds,Bl σ.own.length x) :
  ∃ W', (storeCells ⟨E.blk k,off,none⟩ ws).run P W = .ok () W' ∧ Rel W0 mine kn E { σ with own:=σ.own.set k (.box (cs.take off ++ ds ++ cs.drop (off + ds.length)) ty) } a W' := by
 obtain ⟨vs,hv,hvl,hv1,hvr⟩:=h.mem.box hk
 have hrun:=run_storeCells_at (P:=P) (E.blk k) off ty ws 0 vs.toArray W hv (by simp; omega) h1
 simp only [Nat.add_zero,List.toList_toArray] at hrun
 have hv' := setRow_heap W (E.blk k) vs.toArray (vs.take off ++ ws ++ vs.drop (off + ws.length)).toArray ty (0,0) hv
 refine ⟨_,hrun,?_,h.defs,h.len,h.tm,?_,?_⟩
 ·refine h.mem.set hk rfl (fun j _=>⟨rfl,rfl⟩) (fun _ _ _ _ _ _ _ _ h=>h) rfl rfl rfl (by simp) (fun b _ hb' => setRow_other W _ b _ (hb' trivial)) ⟨_,hv', by simp; omega,?_,?_⟩ (fun _=>.inl ⟨trivial,rfl⟩) (fun _=>⟨⟨rfl,rfl⟩,rfl⟩)
  ·intro x hx
   simp only [List.append_assoc,List.mem_append] at hx
   rcases hx with hx|hx|hx
   ·exact hv1 x (List.mem_of_mem_take hx)
   ·exact h1 x hx
   ·exact hv1 x (List.mem_of_mem_drop hx)
  ·rw [← hl]
   exact seg_rav hvl rfl hl hle hvr hr
 ·intro x hx
  have:=h.wf x hx
  simpa using this
 ·refine St.set_wfo h fun cs' ty' e x hx=>?_
  cases e
  simp only [List.append_assoc,List.mem_append] at hx
  rcases hx with hx|hx|hx
  ·exact h.wfo k cs ty hk x (List.mem_of_mem_take hx)
  ·exact hb x hx
  ·exact h.wfo k cs ty hk x (List.mem_of_mem_drop hx)
end
end Go.AE
