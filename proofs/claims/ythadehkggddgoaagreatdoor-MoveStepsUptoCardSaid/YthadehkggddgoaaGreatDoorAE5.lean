/- AE, part 5: rows: append, literals, make; what is forgotten and what is given away. -/
import Derived.Test.YthadehkggddgoaaGreatDoorAE4
set_option linter.unusedVariables false
set_option linter.unusedSimpArgs false
namespace Go.AE
open Go
section
variable {P:Program} {A:Ari} {T:Tab} {E:Env} {own:List OB} {σ : St} {W W0:World} {mine:Nat → Prop} {kn:Kn} {a:Act}
theorem append_loc {w:World} (t ty e:TypeId) (i:TypeInfo) (z:Value) (ht:P.underlying t = some (.slice e)) (hi:P.info? e = some i) (hz:i.zero = some z) (hzs:z.cells.size = i.size)
  (v:Value) (n:Nat) (xs:List Value) (hown:w.ownsRow 0 e i.size v n xs)
  (ad:Addr) (m c:Nat) (news:List Value) (hl:news.length = m * i.size) (hnews:∀ j u,news[j]? = some u → w.cell? (ad.add j) = some u) (h1:∀ u ∈ news,u.oneCell' = true)
  (h63:n + m ≤ maxLen) (hbytes:(n + m) * i.bytes ≤ 140737488355328) :
  ∃ v' w', (Builtin.append_ #[t,t] ty #[v,.slice (some ad) m c]).run P w = .ok v' w' ∧ w'.ownsRow 0 e i.size v' (n + m) (xs ++ news) ∧ w.grownBy w' v.ownBlock ∧
   (v'.ownBlock = v.ownBlock ∨ v'.ownBlock = some w.heap.size):=by
 have hsmall:n + m ≤ 9223372036854775807:=by simp only [maxLen] at h63; omega
 have hlen:(xs ++ news).length = (n + m) * i.size:=by rw [List.length_append,hown.1,hl,Nat.add_mul]
 have grown:∀ (old:Nat) (row:Option Nat),
   (w.drew.alloc (.cells (xs.toArray ++ news.toArray ++ Builtin.zeroCells z.cells (grownCap w (n + m) old e - (n + m))) e)).ownsRow 0 e i.size
    (.slice (some ⟨w.heap.size,0,none⟩) (n + m) (grownCap w (n + m) old e)) (n + m) (xs ++ news) ∧
   w.grownBy (w.drew.alloc (.cells (xs.toArray ++ news.toArray ++ Builtin.zeroCells z.cells (grownCap w (n + m) old e - (n + m))) e)) row:=by
  intro old row
  have hge:=grownCap_ge w (n + m) old e
  refine ⟨⟨hlen,.inr ⟨w.heap.size,_,_,rfl,Nat.zero_le _,heap_alloc_new w.drew _,hge,grownCap_le_maxLen w (n + m) old e h63,?_,?_⟩⟩,⟨rfl,rfl,rfl,by simp,fun k hk _=>heap_alloc_old w.drew _ k hk⟩⟩
  ·simp only [Array.size_append,List.size_toArray,size_zeroCells,hzs,hown.1,hl,← Nat.add_mul]
   congr 1
   omega
  ·simp only [Array.toList_append,List.append_assoc]
   rw [← List.append_assoc,← hlen]
   exact List.take_left
 rcases hown.2 with ⟨rfl,rfl⟩|⟨g,cap,cur,rfl,hbg,hg,hnc,hcm,hcs,htake⟩
 ·have hx:xs = []:=List.eq_nil_of_length_eq_zero (by simpa using hown.1)
  subst hx
  by_cases hm:m = 0
  ·subst hm
   have hn:news = []:=List.eq_nil_of_length_eq_zero (by simpa using hl)
   subst hn
   refine ⟨.slice none 0 0,w,?_,World.ownsRow_nil w 0 e i.size,⟨rfl,rfl,rfl,Nat.le_refl _,fun _ _ _=>rfl⟩,.inl rfl⟩
   simp [Builtin.append_,run_underlying ht,sizeOf,typeInfo,hi,Builtin.lenOf,Builtin.firstCells,loadCells,loadCellsFrom]
  ·have hr:=run_append_nil (P:=P) w t ty e i z ht hi hz ad m c news hl hnews (by omega) (by omega) (by have hb:=hbytes; simp only [Nat.zero_add] at hb; omega)
   have hgr:=grown 0 (Value.ownBlock (.slice none 0 0))
   simp only [Nat.zero_add,List.nil_append,Array.empty_append] at hgr ⊢
   exact ⟨_,_,hr,hgr.1,hgr.2,.inr rfl⟩
 ·by_cases hroom:n + m ≤ cap
  ·have hfit:n * i.size + news.length ≤ cur.size:=by rw [hl,hcs,← Nat.add_mul]; exact Nat.mul_le_mul_right _ hroom
   have hr:=run_append_room (P:=P) w t ty e i ht hi g n cap cur hg ad m c news hl hnews h1 hroom hfit
   refine ⟨_,_,hr,⟨hlen,.inr ⟨g,cap,_,rfl,hbg,setRow_heap w g cur _ e _ hg,hroom,hcm,?_,?_⟩⟩,⟨rfl,rfl,rfl,by simp,fun k _ hk=>setRow_other w g k _ (fun e=>hk (by simp [Value.ownBlock,e]))⟩,.inl rfl⟩
   ·simp only [List.size_toArray,List.length_append,List.length_take,List.length_drop,Array.length_toList]
    omega
   ·rw [htake,← hlen]
    exact List.take_left
  ·have holds:∀ j u,xs[j]? = some u → w.cell? ((⟨g,0,none⟩:Addr).add j) = some u:=hown.cells (g:=g) rfl
   have hr:=run_append_grow (P:=P) w t ty e i z ht hi hz ⟨g,0,none⟩ n cap xs hown.1 holds ad m c news hl hnews (by omega) (by omega) (growslice_fits (by omega) hbytes)
   have hgr:=grown cap (Value.ownBlock (.slice (some ⟨g,0,none⟩) n cap))
   exact ⟨_,_,hr,hgr.1,hgr.2,.inr rfl⟩
def Env.move (E:Env) (k b:Nat) (rv:Value):Env:={ h:=E.h,blk:=fun j=>if j = k then b else E.blk j,row:=fun j=>if j = k then rv else E.row j }
theorem RAV.move {k b:Nat} {rv:Value} {m:Bool} {x:AV} {u:Value} (h:RAV E m x u) (hb:Ment (· ≠ k) x):RAV (E.move k b rv) m x u :=
 h.mono (S:=(· ≠ k)) (fun _ _ h=>h) fun _=>⟨hb,fun j hj=>by simp [Env.move,hj]⟩
structure Lone (σ : St) (k:Nat):Prop where
 tm:∀ x ∈ σ.tm,Ment (· ≠ k) x
 own:∀ (j:Nat) (cs:List AV) (ty:Nat),σ.own[j]? = some (OB.box cs ty) → ∀ x ∈ cs,Ment (· ≠ k) x
theorem Rel.setRow (h:Rel W0 mine kn E σ a W) {k ety sz:Nat} {es es' : List (List AV)} (hk:σ.own[k]? = some (.row ety sz es)) (hf:ety < 1000000) (hlone:Lone σ k) {v' : Value} {W' : World} {xs' : List Value}
  (hown:W'.ownsRow 0 ety sz v' es'.length xs') (hg:W.grownBy W' (E.row k).ownBlock) (hloc:v'.ownBlock = (E.row k).ownBlock ∨ v'.ownBlock = some W.heap.size)
  (hlen:∀ e ∈ es', e.length = sz) (hone:∀ x ∈ xs', x.oneCell' = true)
  (hrav:∀ (i j:Nat) (e:List AV) (x:AV) (u:Value),es'[i]? = some e → e[j]? = some x → xs'[i * sz + j]? = some u → RAV E false x u) :
  ∃ E', E'.h = E.h ∧ Rel W0 mine kn E' { σ with own:=σ.own.set k (.row ety sz es') } a W' ∧ RAV E' true (.r k) v' := by
 obtain ⟨xs,hrow⟩:=h.mem.owns k _ hk
 have hv1:v'.oneCell' = true:=by rcases hown.2 with ⟨rfl,_⟩|⟨_,_,_,rfl,_⟩ <;> rfl
 have hb:∃ b,(∀ g,v'.ownBlock = some g → g = b) ∧ ((v'.ownBlock = (E.row k).ownBlock ∧ b = E.blk k) ∨ b = W.heap.size):=by
  rcases hloc with h1|h1
  ·exact ⟨E.blk k,fun g hg=>hrow.blk g (h1 ▸ hg),.inl ⟨h1,rfl⟩⟩
  ·exact ⟨W.heap.size,fun g hg=>by rw [h1] at hg; exact (Option.some.inj hg).symm,.inr rfl⟩
 obtain ⟨b,hb1,hb2⟩:=hb
 have hE:∀ j,j ≠ k → (E.move k b v').blk j = E.blk j ∧ (E.move k b v').row j = E.row j:=fun j hj=>by simp [Env.move,hj]
 have hkl:k < σ.own.length:=(List.getElem?_eq_some_iff.1 hk).1
 refine ⟨E.move k b v', rfl,⟨?_,h.defs,h.len,fun i x hx=>(h.tm i x hx).move (hlone.tm x (List.mem_of_getElem? hx)),fun x hx=>by simpa using h.wf x hx,?_⟩,?_⟩
 ·refine h.mem.set hk rfl hE (fun j cs ty hj _ x u hx hr=>hr.move (hlone.own j cs ty hj x hx)) hg.os hg.tape hg.output hg.size ?_ ?_ ?_ (fun e=>absurd e (by simp [isBox]; omega))
  ·intro b0 hb0 hne
   refine hg.block b0 hb0 fun e=>?_
   have:=hrow.blk b0 e.symm
   exact hne (by show (E.row k).ownBlock = _; rw [← e,this]) this
  ·refine ⟨xs', by rw [Nat.mod_eq_of_lt hf]; simpa [Env.move] using hown,hlen,hone,fun i j e x u h1 h2 h3=>(hrav i j e x u h1 h2 h3).imm (fun _ _ h=>h),fun g hg' => ?_⟩
   simp only [Env.move,if_true] at hg' ⊢
   exact hb1 g hg'
  ·intro ho
   have ho' : v'.ownBlock = some b:=by simpa [Occ,Env.move] using ho
   simp only [Env.move,if_true]
   rcases hb2 with ⟨h1,h2⟩|h2
   ·refine .inl ⟨?_,h2⟩
    show (E.row k).ownBlock = _
    rw [← h1,ho', h2]
   ·exact .inr (by omega)
 ·intro j cs ty hj x hx
  rw [List.length_set]
  rw [List.getElem?_set] at hj
  split at hj
  ·first|(simp at hj; done)|(split at hj <;> simp at hj)
  ·exact h.wfo j cs ty hj x hx
 ·have:=RAV.r (E:=E.move k b v') k (by simpa [Env.move] using hv1)
  simpa [Env.move] using this
theorem flat_get {α : Type}:∀ (es:List (List α)) (sz:Nat),(∀ e ∈ es,e.length = sz) → ∀ (i j:Nat) (e:List α),es[i]? = some e → j < sz → es.flatten[i * sz + j]? = e[j]?
 | [],sz,_,i,j,e,h,_=>by simp at h
 | x :: es,sz,hs,i,j,e,h,hj=>by
  have hx:=hs x (by simp)
  cases i with
  | zero =>
   simp at h; subst h
   rw [List.flatten_cons,Nat.zero_mul,Nat.zero_add,List.getElem?_append_left (by omega)]
  | succ i =>
   rw [List.flatten_cons,List.getElem?_append_right (by rw [hx,Nat.add_mul]; omega),hx]
   have:(i + 1) * sz + j - sz = i * sz + j:=by rw [Nat.add_mul]; omega
   rw [this]
   exact flat_get es sz (fun e he=>hs e (by simp [he])) i j e (by simpa using h) hj
theorem app_rav {sz:Nat} {es ds:List (List AV)} {xs news:List Value} (hes:∀ e ∈ es,e.length = sz) (hds:∀ e ∈ ds,e.length = sz) (hx:xs.length = es.length * sz)
  (h1:∀ (i j:Nat) (e:List AV) (x:AV) (u:Value),es[i]? = some e → e[j]? = some x → xs[i * sz + j]? = some u → RAV E false x u)
  (h2:∀ (i j:Nat) (e:List AV) (x:AV) (u:Value),ds[i]? = some e → e[j]? = some x → news[i * sz + j]? = some u → RAV E false x u) :
  ∀ (i j:Nat) (e:List AV) (x:AV) (u:Value),(es ++ ds)[i]? = some e → e[j]? = some x → (xs ++ news)[i * sz + j]? = some u → RAV E false x u:=by
 intro i j e x u he hj hu
 by_cases hi:i < es.length
 ·rw [List.getElem?_append_left hi] at he
  have hjl:j < sz:=by rw [← hes e (List.mem_of_getElem? he)]; exact (List.getElem?_eq_some_iff.1 hj).1
  have hm:i * sz + sz ≤ es.length * sz:=by
   have:(i + 1) * sz ≤ es.length * sz:=Nat.mul_le_mul_right _ (by omega)
   rw [Nat.add_mul] at this; omega
  rw [List.getElem?_append_left (by omega)] at hu
  exact h1 i j e x u he hj hu
 ·rw [List.getElem?_append_right (by omega)] at he
  have hm:es.length * sz + (i - es.length) * sz = i * sz:=by rw [← Nat.add_mul]; congr 1; omega
  rw [List.getElem?_append_right (by omega)] at hu
  refine h2 (i - es.length) j e x u he hj ?_
  rw [← hu]; congr 1; omega
end
def svals (s:ByteArray):List Value:=s.data.toList.map fun b=>.int .u8 b.toNat
theorem svals_len (s:ByteArray):(svals s).length = s.size:=by
 unfold svals
 rw [List.length_map,Array.length_toList]
 rfl
section
variable {P:Program}
theorem run_firstCells_str (w:World) (s:ByteArray):(Builtin.firstCells 1 s.size (.string s)).run P w = .ok (svals s).toArray w:=by
 have h1:(s.extract 0 s.size) = s:=by
  cases s; simp [ByteArray.extract,ByteArray.size,ByteArray.copySlice]
 simp only [Builtin.firstCells,h1,Sem.run_pure]
 congr 1
 apply Array.ext'
 simp [svals]
theorem append_str_loc {w:World} (t u ty e:TypeId) (i:TypeInfo) (z:Value) (ht:P.underlying t = some (.slice e)) (hu:P.underlying u = some .string) (hi:P.info? e = some i) (hz:i.zero = some z) (hzs:z.cells.size = i.size) (his:i.size = 1)
  (v:Value) (n:Nat) (xs:List Value) (hown:w.ownsRow 0 e i.size v n xs) (s:ByteArray)
  (h63:n + s.size ≤ maxLen) (hbytes:(n + s.size) * i.bytes ≤ 140737488355328) :
  ∃ v' w', (Builtin.append_ #[t,u] ty #[v,.string s]).run P w = .ok v' w' ∧ w'.ownsRow 0 e i.size v' (n + s.size) (xs ++ svals s) ∧ w.grownBy w' v.ownBlock ∧
   (v'.ownBlock = v.ownBlock ∨ v'.ownBlock = some w.heap.size):=by
 have hsmall:n + s.size ≤ 9223372036854775807:=by simp only [maxLen] at h63; omega
 have hl:=svals_len s
 have hxl:xs.length = n:=by have:=hown.1; rw [his] at this; omega
 have h1:∀ x ∈ svals s,x.oneCell' = true:=by intro x hx; obtain ⟨b,_,rfl⟩:=List.mem_map.1 hx; rfl
 have hlen:(xs ++ svals s).length = (n + s.size) * i.size:=by rw [List.length_append,hl,his,hxl]; omega
 have grown:∀ (old:Nat) (row:Option Nat),
   (w.drew.alloc (.cells (xs.toArray ++ (svals s).toArray ++ Builtin.zeroCells z.cells (grownCap w (n + s.size) old e - (n + s.size))) e)).ownsRow 0 e i.size
    (.slice (some ⟨w.heap.size,0,none⟩) (n + s.size) (grownCap w (n + s.size) old e)) (n + s.size) (xs ++ svals s) ∧
   w.grownBy (w.drew.alloc (.cells (xs.toArray ++ (svals s).toArray ++ Builtin.zeroCells z.cells (grownCap w (n + s.size) old e - (n + s.size))) e)) row:=by
  intro old row
  have hge:=grownCap_ge w (n + s.size) old e
  refine ⟨⟨hlen,.inr ⟨w.heap.size,_,_,rfl,Nat.zero_le _,heap_alloc_new w.drew _,hge,grownCap_le_maxLen w (n + s.size) old e h63,?_,?_⟩⟩,⟨rfl,rfl,rfl,by simp,fun k hk _=>heap_alloc_old w.drew _ k hk⟩⟩
  ·simp only [Array.size_append,List.size_toArray,size_zeroCells,hzs,his,hl,hxl]
   omega
  ·simp only [Array.toList_append,List.append_assoc]
   rw [← List.append_assoc,← hlen]
   exact List.take_left
 have hf:=fun w' => run_firstCells_str (P:=P) w' s
 rcases hown.2 with ⟨rfl,rfl⟩|⟨g,cap,cur,rfl,hbg,hg,hnc,hcm,hcs,htake⟩
 ·have hx:xs = []:=List.eq_nil_of_length_eq_zero (by simpa using hown.1)
  subst hx
  by_cases hm:s.size = 0
  ·have hn:svals s = []:=List.eq_nil_of_length_eq_zero (by omega)
   rw [hn,hm]
   refine ⟨.slice none 0 0,w,?_,World.ownsRow_nil w 0 e i.size,⟨rfl,rfl,rfl,Nat.le_refl _,fun _ _ _=>rfl⟩,.inl rfl⟩
   rw [hm] at hf
   simp [Builtin.append_,run_underlying ht,run_underlying hu,sizeOf,typeInfo,hi,Builtin.lenOf,hm,his,hf]
  ·have h63' : ¬ (9223372036854775807 < (s.size:Int)):=by omega
   have h48' : ¬ (281474976710656 < Builtin.nextslicecap s.size 0 * i.bytes):=by rw [nextslicecap_zero (by omega)]; have:=hbytes; simp only [Nat.zero_add] at this; omega
   have hr:(Builtin.append_ #[t,u] ty #[.slice none 0 0,.string s]).run P w = .ok (.slice (some ⟨w.heap.size,0,none⟩) s.size (grownCap w s.size 0 e)) (w.drew.alloc (.cells ((svals s).toArray ++ Builtin.zeroCells z.cells (grownCap w s.size 0 e - s.size)) e)):=by
    simp [Builtin.append_,run_underlying ht,run_underlying hu,sizeOf,typeInfo,zeroValue,hi,hz,his,Builtin.lenOf,hm,h63', h48', Question.forced,run_firstCells_none,hf,newRow,grownCap]
   have hgr:=grown 0 (Value.ownBlock (.slice none 0 0))
   simp only [Nat.zero_add,List.nil_append,Array.empty_append] at hgr ⊢
   exact ⟨_,_,hr,hgr.1,hgr.2,.inr rfl⟩
 ·by_cases hroom:n + s.size ≤ cap
  ·have hfit:n * i.size + (svals s).length ≤ cur.size:=by rw [hl,hcs,his]; omega
   have hst:=run_storeCells_at P g (n * i.size) e (svals s) 0 cur w hg (by simpa using hfit) h1
   simp only [Nat.add_zero] at hst
   have hr:(Builtin.append_ #[t,u] ty #[.slice (some ⟨g,0,none⟩) n cap,.string s]).run P w =
     .ok (.slice (some ⟨g,0,none⟩) (n + s.size) cap) (w.setRow g (cur.toList.take (n * i.size) ++ svals s ++ cur.toList.drop (n * i.size + (svals s).length)).toArray):=by
    have hst' := hst
    rw [his] at hst' ⊢
    simp [Builtin.append_,run_underlying ht,run_underlying hu,sizeOf,typeInfo,hi,his,Builtin.lenOf,hroom,hf,Addr.add_lit] at hst' ⊢
    simp [hst']
   refine ⟨_,_,hr,⟨hlen,.inr ⟨g,cap,_,rfl,hbg,setRow_heap w g cur _ e _ hg,hroom,hcm,?_,?_⟩⟩,⟨rfl,rfl,rfl,by simp,fun k _ hk=>setRow_other w g k _ (fun e=>hk (by simp [Value.ownBlock,e]))⟩,.inl rfl⟩
   ·simp only [List.size_toArray,List.length_append,List.length_take,List.length_drop,Array.length_toList]
    omega
   ·rw [htake,← hlen]
    exact List.take_left
  ·have holds:∀ j u,xs[j]? = some u → w.cell? ((⟨g,0,none⟩:Addr).add j) = some u:=hown.cells (g:=g) rfl
   have hfo:=run_firstCells_some (P:=P) w.drew i.size n ⟨g,0,none⟩ n cap xs hown.1 (by simpa using holds)
   have hn:¬ (n + s.size ≤ cap):=hroom
   have h63' : ¬ (9223372036854775807 < ((n:Int) + (s.size:Int))):=by omega
   have hfit:=growslice_fits (need:=n + s.size) (old:=cap) (by omega) hbytes
   have h48' : ¬ (281474976710656 < Builtin.nextslicecap (n + s.size) cap * i.bytes):=by omega
   have hr:(Builtin.append_ #[t,u] ty #[.slice (some ⟨g,0,none⟩) n cap,.string s]).run P w =
     .ok (.slice (some ⟨w.heap.size,0,none⟩) (n + s.size) (grownCap w (n + s.size) cap e))
      (w.drew.alloc (.cells (xs.toArray ++ (svals s).toArray ++ Builtin.zeroCells z.cells (grownCap w (n + s.size) cap e - (n + s.size))) e)):=by
    rw [his] at hfo
    simp [Builtin.append_,run_underlying ht,run_underlying hu,sizeOf,typeInfo,zeroValue,hi,hz,his,Builtin.lenOf,hn,h63', h48', Question.forced,hf,hfo,newRow,grownCap]
    congr 2
    apply Array.ext'
    simp [List.append_assoc]
   have hgr:=grown cap (Value.ownBlock (.slice (some ⟨g,0,none⟩) n cap))
   exact ⟨_,_,hr,hgr.1,hgr.2,.inr rfl⟩
end
end Go.AE
