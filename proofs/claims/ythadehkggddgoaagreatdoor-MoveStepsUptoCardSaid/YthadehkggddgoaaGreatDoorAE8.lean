/- AE, part 8: the run: code is carried out on abstract states until something is asked; what it comes to holds of the machine. -/
import Derived.Test.YthadehkggddgoaaGreatDoorAE7
set_option linter.unusedVariables false
set_option linter.unusedSimpArgs false
namespace Go.AE
open Go
def wrB (o:Oper):Bool :=
 match o.op with
 | .box _ _ | .alloc _ | .store _ _ _ | .buildSlice _ _ _ | .makeSlice _ _ _ | .makeMap _ _ | .mapUpdate _ _ _ _=>true
 | .call ⟨.value _,_,_⟩ | .call ⟨.builtin .append,_,_⟩=>true
 | _=>false
def wrAt (ops:Array Oper) (i:Nat):Bool:=match ops.toList[i]? with|some o=>wrB o|none=>false
section
variable {P:Program} {ops:Array Oper} {Q:Exit → Act → World → Prop} {S:World → Prop}
def wpAnyM (P:Program) (ops:Array Oper) (Q:Exit → Act → World → Prop) (S:World → Prop):Nat → Array Bool → Act → World → Prop
 | 0,listed,a,w=>Region.ready .any ops listed = [] ∧ Q .normal a w
 | fuel + 1,listed,a,w =>
  (Region.ready .any ops listed = [] → Q .normal a w) ∧
  ∀ i ∈ Region.ready .any ops listed,wpOp P ops Q i (fun a' w' => S w' ∧ (wrAt ops i = false → w' = w) ∧ wpAnyM P ops Q S fuel (listed.setIfInBounds i true) a' w') a w
theorem wpAny_of_M:∀ (fuel:Nat) (listed:Array Bool) (a:Act) (w:World),wpAnyM P ops Q S fuel listed a w → wpAny P .any ops Q fuel listed a w
 | 0,_,_,_,h=>h
 | fuel + 1,_,_,_,h=>⟨h.1,fun i hi=>wpOp_mono (fun a' w' h' => wpAny_of_M fuel _ a' w' h'.2.2) (h.2 i hi)⟩
theorem wpAnyM_mono {S' : World → Prop} (hS:∀ w,S' w → S w):∀ (n:Nat) (l:Array Bool) (a:Act) (w:World),wpAnyM P ops Q S' n l a w → wpAnyM P ops Q S n l a w
 | 0,_,_,_,h=>h
 | n + 1,_,_,_,h=>⟨h.1,fun i hi=>wpOp_mono (fun a' w' h' => ⟨hS _ h'.1,h'.2.1,wpAnyM_mono hS n _ a' w' h'.2.2⟩) (h.2 i hi)⟩
theorem wpAnyM_done {listed:Array Bool} {a:Act} {w:World} (hr:Region.ready .any ops listed = []) (h:Q .normal a w):∀ fuel,wpAnyM P ops Q S fuel listed a w
 | 0=>⟨hr,h⟩
 | _ + 1=>⟨fun _=>h,by rw [hr]; simp⟩
theorem ready_not {i:Nat} {oj:Oper} {listed:Array Bool} (hr:i ∈ Region.ready .any ops listed) (hall:∀ e ∈ oj.after,Region.binds .any e = true → listed.getD e.on false = true) :
  ∀ e ∈ oj.after,Region.binds .any e = true → e.on ≠ i:=fun e he hb heq=>by
 have h1:=hall e he hb
 have h0:=(mem_ready.1 hr).1
 rw [heq] at h1
 rcases Nat.lt_or_ge i listed.size with h' | h'
 ·simp [h'] at h0 h1; rw [h0] at h1; cases h1
 ·simp [Array.getElem?_eq_none h'] at h1
theorem wpAnyM_first {i:Nat} {oi:Oper} {v:Value} (hi:ops[i]? = some oi) (hsel:∀ (j:Nat) (o:Oper) cs b,ops[j]? = some o → o.op ≠ .select cs b)
  (hQ:∀ c a w,Q (.panic c) (a.put oi.dst v) w → Q (.panic c) a w) :
  ∀ (fuel:Nat) (listed:Array Bool) (a:Act) (w:World),
   (∀ j oj,ops[j]? = some oj → j ≠ i → listed.getD j true = false → (∀ e ∈ oj.after,Region.binds .any e = true → e.on ≠ i) → oi.apart ops oj = true) →
   i ∈ Region.ready .any ops listed → YieldsIf P ops S oi v a → S w →
   wpAnyM P ops Q S fuel (listed.setIfInBounds i true) (a.put oi.dst v) w → wpAnyM P ops Q S (fuel + 1) listed a w:=by
 intro fuel
 induction fuel with
 | zero =>
  intro listed a w _ hr hy hS H
  refine ⟨fun h=>(by rw [h] at hr; cases hr),fun j hj=>?_⟩
  by_cases hji:j = i
  ·subst hji; exact hy.wpOp hi hS ⟨hS,fun _=>rfl,H⟩
  ·have:=ready_mono hj hji
   rw [H.1] at this
   cases this
 | succ fuel ih =>
  intro listed a w hfree hr hy hS H
  refine ⟨fun h=>(by rw [h] at hr; cases hr),fun j hj=>?_⟩
  by_cases hji:j = i
  ·subst hji; exact hy.wpOp hi hS ⟨hS,fun _=>rfl,H⟩
  ·have h1:=H.2 j (ready_mono hj hji)
   obtain ⟨hjun,oj,hoj,hall⟩:=mem_ready.1 hj
   have h2:=wpOp_putIf hoj (hfree j oj hoj hji hjun (ready_not hr hall)) (fun cs b=>hsel i oi cs b hi) (fun cs b=>hsel j oj cs b hoj) hQ hy h1
   have hfree' : ∀ k ok,ops[k]? = some ok → k ≠ i → (listed.setIfInBounds j true).getD k true = false →
     (∀ e ∈ ok.after,Region.binds .any e = true → e.on ≠ i) → oi.apart ops ok = true:=fun k ok hk hki hun hno=>by
    refine hfree k ok hk hki ?_ hno
    by_cases hjk:j = k
    ·subst hjk; exact hjun
    ·rw [getD_set_ne true hjk] at hun; exact hun
   refine wpOp_mono (fun a' w' h3=>⟨h3.2.1,h3.2.2.1,ih (listed.setIfInBounds j true) a' w' hfree' (ready_mono hr (Ne.symm hji)) h3.1 h3.2.1 ?_⟩) h2
   rw [Array.setIfInBounds_comm _ _ hji]
   exact h3.2.2.2
theorem wpAnyM_firstR {i:Nat} {oi:Oper} {v:Value} {L:List Nat} (hi:ops[i]? = some oi) (hsel:∀ (j:Nat) (o:Oper) cs b,ops[j]? = some o → o.op ≠ .select cs b)
  (hQ:∀ c a w,Q (.panic c) (a.put oi.dst v) w → Q (.panic c) a w) (hL:∀ j ∈ L,j = i ∨ ∃ oj,ops[j]? = some oj ∧ ∃ e ∈ oj.after,Region.binds .any e = true ∧ e.on ∈ L) :
  ∀ (fuel:Nat) (listed:Array Bool) (a:Act) (w:World),
   (∀ j oj,ops[j]? = some oj → j ≠ i → listed.getD j true = false → j ∉ L → oi.apart ops oj = true ∧ wrB oj = false) → (∀ j ∈ L,listed.getD j true = false) →
   i ∈ Region.ready .any ops listed → YieldsIf P ops (fun w' => w' = w) oi v a → S w →
   wpAnyM P ops Q S fuel (listed.setIfInBounds i true) (a.put oi.dst v) w → wpAnyM P ops Q S (fuel + 1) listed a w:=by
 intro fuel
 induction fuel with
 | zero =>
  intro listed a w _ _ hr hy hS H
  refine ⟨fun h=>(by rw [h] at hr; cases hr),fun j hj=>?_⟩
  by_cases hji:j = i
  ·subst hji; exact hy.wpOp hi rfl ⟨hS,fun _=>rfl,H⟩
  ·have:=ready_mono hj hji
   rw [H.1] at this
   cases this
 | succ fuel ih =>
  intro listed a w hfree hun hr hy hS H
  refine ⟨fun h=>(by rw [h] at hr; cases hr),fun j hj=>?_⟩
  by_cases hji:j = i
  ·subst hji; exact hy.wpOp hi rfl ⟨hS,fun _=>rfl,H⟩
  ·have h1:=H.2 j (ready_mono hj hji)
   obtain ⟨hjun,oj,hoj,hall⟩:=mem_ready.1 hj
   have hjL:j ∉ L:=fun hjL=>by
    rcases hL j hjL with h0|⟨oj', hoj', e,he,hb,heL⟩
    ·exact hji h0
    ·rw [hoj] at hoj'; cases hoj'
     have h5:=hall e he hb
     have h6:=hun e.on heL
     rcases Nat.lt_or_ge e.on listed.size with h' | h'
     ·simp [h'] at h5 h6; rw [h6] at h5; cases h5
     ·simp [Array.getElem?_eq_none h'] at h5
   obtain ⟨hap,hwr⟩:=hfree j oj hoj hji hjun hjL
   have hwr' : wrAt ops j = false:=by
    have:ops.toList[j]? = some oj:=by simpa using hoj
    simp [wrAt,this,hwr]
   have h2:=wpOp_putIf hoj hap (fun cs b=>hsel i oi cs b hi) (fun cs b=>hsel j oj cs b hoj) hQ hy h1
   have hnow:∀ k,k ≠ j → (listed.setIfInBounds j true).getD k true = listed.getD k true:=fun k hk=>getD_set_ne true (Ne.symm hk)
   refine wpOp_mono (fun a' w' h3=>?_) h2
   have hww:=h3.2.2.1 hwr'
   subst hww
   refine ⟨h3.2.1,fun _=>rfl,ih (listed.setIfInBounds j true) a' _ (fun k ok hk hki hun' hkL=>?_) (fun k hk=>?_) (ready_mono hr (Ne.symm hji)) h3.1 h3.2.1 ?_⟩
   ·refine hfree k ok hk hki ?_ hkL
    by_cases hjk:j = k
    ·subst hjk; exact hjun
    ·rw [getD_set_ne true hjk] at hun'; exact hun'
   ·have hkj:k ≠ j:=fun h=>hjL (h ▸ hk)
    rw [hnow k hkj]; exact hun k hk
   ·rw [Array.setIfInBounds_comm _ _ hji]
    exact h3.2.2.2
def tb (b i:Nat):Bool:=(b >>> i) &&& 1 == 1
def setM (b i:Nat):Nat:=b ||| (1 <<< i)
theorem tb_eq (b i:Nat):tb b i = b.testBit i:=by
 rw [tb,Nat.testBit,Nat.and_comm,Nat.one_and_eq_mod_two]
 rcases Nat.mod_two_eq_zero_or_one (b >>> i) with h|h <;> rw [h] <;> rfl
theorem tb_set (b i j:Nat):tb (setM b i) j = (tb b j || j == i):=by
 rw [tb_eq,tb_eq,setM,Nat.testBit_or,Nat.one_shiftLeft,Nat.testBit_two_pow]
 congr 1
 by_cases h:i = j
 ·subst h; simp
 ·have:¬ j = i:=fun e=>h e.symm
  simp [h,this]
def lst (k b:Nat):Array Bool:=((List.range k).map (tb b)).toArray
theorem lst_getD (k b j:Nat) (d:Bool):(lst k b).getD j d = if j < k then tb b j else d:=by
 by_cases h:j < k
 ·rw [if_pos h]
  simp [lst,h]
 ·rw [if_neg h]
  simp [lst,h]
theorem lst_zero (k:Nat):lst k 0 = Array.replicate k false:=by
 apply Array.ext
 ·simp [lst]
 ·intro i h1 h2
  simp [lst,tb_eq]
theorem lst_set (k b i:Nat):(lst k b).setIfInBounds i true = lst k (setM b i):=by
 apply Array.ext
 ·simp [lst]
 ·intro j h1 h2
  have hj:j < k:=by simpa [lst] using h2
  rw [Array.getElem_setIfInBounds (by simpa [lst] using hj)]
  simp only [lst,List.getElem_toArray,List.getElem_map,List.getElem_range]
  rw [tb_set]
  by_cases h:i = j
  ·subst h; simp
  ·have:¬ j = i:=fun e=>h e.symm
   simp [h,this]
def depsM (b:Nat):List Edge → Bool
 | []=>true
 | e :: l=>match Region.binds .any e with
  | true=>match tb b e.on with
   | true=>depsM b l
   | false=>false
  | false=>depsM b l
def rdM (b:Nat):List Oper → Nat → List Nat
 | [],_=>[]
 | o :: l,j=>match tb b j with
  | true=>rdM b l (j + 1)
  | false=>match depsM b o.after.toList with
   | true=>j :: rdM b l (j + 1)
   | false=>rdM b l (j + 1)
theorem depsM_iff {b:Nat}:∀ {l:List Edge},depsM b l = true ↔ ∀ e ∈ l,Region.binds .any e = true → tb b e.on = true
 | []=>by simp [depsM]
 | e :: l=>by
  unfold depsM
  have ih:=depsM_iff (b:=b) (l:=l)
  cases h1:Region.binds .any e
  ·simp only [ih,List.mem_cons,forall_eq_or_imp,h1]; simp
  ·cases h2:tb b e.on
   ·simp only [List.mem_cons,forall_eq_or_imp,h1,h2]; simp
   ·simp only [ih,List.mem_cons,forall_eq_or_imp,h1,h2]; simp
theorem rdM_mem {b:Nat}:∀ {l:List Oper} {k j:Nat},j ∈ rdM b l k ↔ ∃ i o,j = k + i ∧ l[i]? = some o ∧ tb b j = false ∧ depsM b o.after.toList = true
 | [],k,j=>by simp [rdM]
 | o :: l,k,j=>by
  have ih:=rdM_mem (b:=b) (l:=l) (k:=k + 1) (j:=j)
  have step:(∃ i o', j = k + i ∧ (o :: l)[i]? = some o' ∧ tb b j = false ∧ depsM b o'.after.toList = true) ↔ (j = k ∧ tb b k = false ∧ depsM b o.after.toList = true) ∨ j ∈ rdM b l (k + 1):=by
   rw [ih]
   constructor
   ·rintro ⟨i,o', h1,h2,h3,h4⟩
    cases i with
    | zero=>simp at h2; subst h2; left; exact ⟨h1,by rw [← h3,h1]; rfl,h4⟩
    | succ i=>right; exact ⟨i,o', by omega,by simpa using h2,h3,h4⟩
   ·rintro (⟨h1,h2,h3⟩|⟨i,o', h1,h2,h3,h4⟩)
    ·exact ⟨0,o,h1,rfl,by rw [h1]; exact h2,h3⟩
    ·exact ⟨i + 1,o', by omega,by simpa using h2,h3,h4⟩
  rw [step]
  have e:rdM b (o :: l) k = match tb b k with
   | true=>rdM b l (k + 1)
   | false=>match depsM b o.after.toList with
    | true=>k :: rdM b l (k + 1)
    | false=>rdM b l (k + 1):=rfl
  rw [e]
  cases h1:tb b k
  ·cases h2:depsM b o.after.toList
   ·simp
   ·simp
  ·simp
def insideE (n:Nat):List Edge → Bool
 | []=>true
 | e :: l=>match Nat.blt e.on n with
  | true=>insideE n l
  | false=>false
def waits (o:Oper) (i:Nat):Bool:=o.after.toList.any (fun e=>Region.binds .any e && e.on == i)
def okRow (all:Array Oper) (i:Nat) (oi:Oper):List Oper → Nat → Bool
 | [],_=>true
 | oj :: l,j=>(i == j || waits oj i || waits oi j || oi.apart all oj) && okRow all i oi l (j + 1)
def okAll (all:Array Oper):List Oper → Nat → Bool
 | [],_=>true
 | oi :: l,i=>insideE all.size oi.after.toList && okRow all i oi all.toList 0 && okAll all l (i + 1)
def okReg (all:Array Oper):Bool:=Region.noSelect all && okAll all all.toList 0
theorem insideE_mem {n:Nat}:∀ {l:List Edge},insideE n l = true → ∀ e ∈ l,e.on < n
 | [],_,e,he=>by cases he
 | e0 :: l,h,e,he=>by
  unfold insideE at h
  split at h
  ·rename_i h0
   rcases List.mem_cons.1 he with rfl|he
   ·simpa [Nat.blt_eq] using h0
   ·exact insideE_mem h e he
  ·cases h
theorem okRow_spec {all:Array Oper} {i:Nat} {oi:Oper}:∀ {l:List Oper} {k:Nat},okRow all i oi l k = true → ∀ j oj,l[j]? = some oj → (i == k + j || waits oj i || waits oi (k + j) || oi.apart all oj) = true
 | [],k,_,j,oj,h=>by simp at h
 | o :: l,k,hk,j,oj,h=>by
  unfold okRow at hk
  rw [Bool.and_eq_true] at hk
  cases j with
  | zero=>simp at h; subst h; exact hk.1
  | succ j =>
   have:=okRow_spec hk.2 j oj (by simpa using h)
   rw [show k + (j + 1) = k + 1 + j by omega]; exact this
theorem okAll_spec {all:Array Oper}:∀ {l:List Oper} {k:Nat},okAll all l k = true → ∀ i oi,l[i]? = some oi → insideE all.size oi.after.toList = true ∧ okRow all (k + i) oi all.toList 0 = true
 | [],k,_,i,oi,h=>by simp at h
 | o :: l,k,hk,i,oi,h=>by
  unfold okAll at hk
  rw [Bool.and_eq_true,Bool.and_eq_true] at hk
  cases i with
  | zero=>simp at h; subst h; exact ⟨hk.1.1,hk.1.2⟩
  | succ i =>
   have:=okAll_spec hk.2 i oi (by simpa using h)
   rw [show k + (i + 1) = k + 1 + i by omega]; exact this
theorem waits_iff {o:Oper} {i:Nat}:waits o i = true ↔ ∃ e ∈ o.after,Region.binds .any e = true ∧ e.on = i:=by
 unfold waits
 rw [List.any_eq_true]
 constructor
 ·rintro ⟨e,he,hb⟩
  simp only [Bool.and_eq_true,beq_iff_eq] at hb
  exact ⟨e,by simpa using he,hb.1,hb.2⟩
 ·rintro ⟨e,he,h1,h2⟩
  exact ⟨e,by simpa using he,by simp [h1,h2]⟩
theorem rdM_ready {all:Array Oper} (hk:okReg all = true) {b j:Nat}:j ∈ rdM b all.toList 0 ↔ j ∈ Region.ready .any all (lst all.size b):=by
 rw [okReg,Bool.and_eq_true] at hk
 rw [mem_ready,rdM_mem]
 constructor
 ·rintro ⟨i,o,h1,h2,h3,h4⟩
  have h1:j = i:=by omega
  subst h1
  have hj:j < all.size:=by
   have:=(List.getElem?_eq_some_iff.1 h2).1
   simpa using this
  refine ⟨by rw [lst_getD,if_pos hj]; exact h3,o,by simpa using h2,fun e he hb=>?_⟩
  have h5:=(okAll_spec hk.2 j o h2).1
  rw [lst_getD,if_pos (insideE_mem h5 e (by simpa using he))]
  exact depsM_iff.1 h4 e (by simpa using he) hb
 ·rintro ⟨h1,o,h2,h3⟩
  have h2' : all.toList[j]? = some o:=by simpa using h2
  have hj:j < all.size:=(Array.getElem?_eq_some_iff.1 h2).1
  rw [lst_getD,if_pos hj] at h1
  refine ⟨j,o,by omega,h2', h1,depsM_iff.2 fun e he hb=>?_⟩
  have h5:=(okAll_spec hk.2 j o h2').1
  have:=h3 e (by simpa using he) hb
  rwa [lst_getD,if_pos (insideE_mem h5 e he)] at this
theorem okReg_apart {all:Array Oper} (hk:okReg all = true) {i j:Nat} {oi oj:Oper} (hi:all[i]? = some oi) (hj:all[j]? = some oj) (hne:j ≠ i) (h1:waits oj i = false) (h2:waits oi j = false):oi.apart all oj = true:=by
 rw [okReg,Bool.and_eq_true] at hk
 have:=okRow_spec (okAll_spec hk.2 i oi (by simpa using hi)).2 j oj (by simpa using hj)
 simp only [Nat.zero_add,h1,h2,Bool.or_false,Bool.or_eq_true,beq_iff_eq] at this
 rcases this with h|h
 ·exact absurd h.symm hne
 ·exact h
theorem ready_waits {all:Array Oper} {listed:Array Bool} {i j:Nat} {oi:Oper} (hi:all[i]? = some oi) (hr:i ∈ Region.ready .any all listed) (hun:listed.getD j true = false):waits oi j = false:=by
 cases h:waits oi j with
 | false=>rfl
 | true =>
  obtain ⟨e,he,hb,h0⟩:=waits_iff.1 h
  obtain ⟨_,o,ho,h1⟩:=mem_ready.1 hr
  rw [hi] at ho
  cases ho
  have:=h1 e he hb
  rw [h0] at this
  rcases Nat.lt_or_ge j listed.size with h' | h'
  ·simp [h'] at hun this; rw [hun] at this; cases this
  ·simp [Array.getElem?_eq_none h'] at this
theorem okReg_first {all:Array Oper} (hk:okReg all = true) {listed:Array Bool} {i:Nat} {oi:Oper} (hi:all[i]? = some oi) (hr:i ∈ Region.ready .any all listed) :
  ∀ j oj,all[j]? = some oj → j ≠ i → listed.getD j true = false → (∀ e ∈ oj.after,Region.binds .any e = true → e.on ≠ i) → oi.apart all oj = true:=by
 intro j oj hj hne hun hno
 refine okReg_apart hk hi hj hne ?_ (ready_waits hi hr hun)
 cases h:waits oj i with
 | false=>rfl
 | true=>obtain ⟨e,he,hb,h0⟩:=waits_iff.1 h; exact absurd h0 (hno e he hb)
theorem okReg_sel {all:Array Oper} (hk:okReg all = true):Region.noSelect all = true:=by
 rw [okReg,Bool.and_eq_true] at hk; exact hk.1
def latesM (b:Nat):List Oper → Nat → List Nat → List Nat
 | [],_,acc=>acc
 | o :: l,j,acc=>match tb b j with
  | true=>latesM b l (j + 1) acc
  | false=>match o.after.toList.any (fun e=>Region.binds .any e && acc.contains e.on) with
   | true=>latesM b l (j + 1) (j :: acc)
   | false=>latesM b l (j + 1) acc
def calmGo (b i:Nat) (L:List Nat):List Oper → Nat → Bool
 | [],_=>true
 | o :: l,j=>match tb b j with
  | true=>calmGo b i L l (j + 1)
  | false=>match L.contains j with
   | true=>calmGo b i L l (j + 1)
   | false=>match wrB o with
    | true=>false
    | false=>match waits o i with
     | true=>false
     | false=>calmGo b i L l (j + 1)
def calmM (all:Array Oper) (b i:Nat):Bool:=calmGo b i (latesM b all.toList 0 [i]) all.toList 0
theorem latesM_spec {all:Array Oper} {i b:Nat}:∀ (l:List Oper) (k:Nat) (acc:List Nat),(∀ j,l[j]? = all[k + j]?) → k + l.length = all.size →
  (∀ j ∈ acc,(lst all.size b).getD j true = false ∧ (j = i ∨ ∃ oj,all[j]? = some oj ∧ ∃ e ∈ oj.after,Region.binds .any e = true ∧ e.on ∈ acc)) →
  ∀ j ∈ latesM b l k acc,(lst all.size b).getD j true = false ∧ (j = i ∨ ∃ oj,all[j]? = some oj ∧ ∃ e ∈ oj.after,Region.binds .any e = true ∧ e.on ∈ latesM b l k acc)
 | [],k,acc,_,_,h=>h
 | o :: l,k,acc,hl,hsz,h=>by
  have h0:all[k]? = some o:=by simpa using (hl 0).symm
  have hl' : ∀ j,l[j]? = all[k + 1 + j]?:=fun j=>by have:=hl (j + 1); simpa [Nat.add_assoc,Nat.add_comm 1 j] using this
  have hsz' : k + 1 + l.length = all.size:=by simp at hsz; omega
  unfold latesM
  split
  ·exact latesM_spec l (k + 1) acc hl' hsz' h
  ·rename_i htb
   split
   ·rename_i hb
    refine latesM_spec l (k + 1) _ hl' hsz' ?_
    simp only [Bool.and_eq_true,List.any_eq_true,List.contains_iff_mem] at hb
    obtain ⟨e,he,hb2,hb3⟩:=hb
    intro j hj
    rcases List.mem_cons.1 hj with rfl|hj
    ·refine ⟨?_,.inr ⟨o,h0,e,by simpa using he,hb2,List.mem_cons_of_mem _ hb3⟩⟩
     rw [lst_getD,if_pos (by simp at hsz; omega)]; exact htb
    ·obtain ⟨h1,h2⟩:=h j hj
     refine ⟨h1,h2.imp id ?_⟩
     rintro ⟨oj,ho,e,he,hb,hm⟩
     exact ⟨oj,ho,e,he,hb,List.mem_cons_of_mem _ hm⟩
   ·exact latesM_spec l (k + 1) acc hl' hsz' h
theorem calmGo_spec {b i:Nat} {L:List Nat}:∀ (l:List Oper) (k:Nat),calmGo b i L l k = true → ∀ j oj,l[j]? = some oj → tb b (k + j) = false → k + j ∉ L → wrB oj = false ∧ waits oj i = false
 | [],k,_,j,oj,h,_,_=>by simp at h
 | o :: l,k,hg,j,oj,h,hun,hL=>by
  unfold calmGo at hg
  cases j with
  | zero =>
   simp at h; subst h
   simp only [Nat.add_zero] at hun hL
   rw [hun] at hg
   have hc:L.contains k = false:=by
    cases hc:L.contains k with
    | false=>rfl
    | true=>exact absurd (by simpa using hc) hL
   rw [hc] at hg
   simp only at hg
   cases hw:wrB o with
   | true=>rw [hw] at hg; cases hg
   | false =>
    rw [hw] at hg
    simp only at hg
    cases hw2:waits o i with
    | true=>rw [hw2] at hg; cases hg
    | false=>exact ⟨rfl,rfl⟩
  | succ j =>
   have e1:k + (j + 1) = (k + 1) + j:=by omega
   rw [e1] at hun hL
   have hg' : calmGo b i L l (k + 1) = true:=by
    split at hg
    ·exact hg
    ·split at hg
     ·exact hg
     ·split at hg
      ·cases hg
      ·split at hg
       ·cases hg
       ·exact hg
   exact calmGo_spec l (k + 1) hg' j oj (by simpa using h) hun hL
theorem wpAnyM_takeX {i b:Nat} {oi:Oper} {v:Value} {fuel:Nat} {a:Act} {w:World} (hk:okReg ops = true) (hi:ops[i]? = some oi) (hr:i ∈ rdM b ops.toList 0)
  (hQ:∀ c a w,Q (.panic c) (a.put oi.dst v) w → Q (.panic c) a w) (hy:YieldsIf P ops S oi v a) (hS:S w)
  (h:wpAnyM P ops Q S fuel (lst ops.size (setM b i)) (a.put oi.dst v) w):wpAnyM P ops Q S (fuel + 1) (lst ops.size b) a w :=
 wpAnyM_first hi (Region.noSelect_spec (okReg_sel hk)) hQ fuel _ a w (okReg_first hk hi ((rdM_ready hk).1 hr)) ((rdM_ready hk).1 hr) hy hS (by rw [lst_set]; exact h)
theorem wpAnyM_takeC {i b:Nat} {oi:Oper} {v:Value} {fuel:Nat} {a:Act} {w:World} (hk:okReg ops = true) (hi:ops[i]? = some oi) (hr:i ∈ rdM b ops.toList 0) (hc:calmM ops b i = true)
  (hQ:∀ c a w,Q (.panic c) (a.put oi.dst v) w → Q (.panic c) a w) (hy:YieldsIf P ops (fun w' => w' = w) oi v a) (hS:S w)
  (h:wpAnyM P ops Q S fuel (lst ops.size (setM b i)) (a.put oi.dst v) w):wpAnyM P ops Q S (fuel + 1) (lst ops.size b) a w:=by
 have hr' := (rdM_ready hk).1 hr
 have hL:=latesM_spec (all:=ops) (i:=i) (b:=b) ops.toList 0 [i] (fun j=>by simp) (by simp) (fun j hj=>by
  simp at hj; subst hj
  exact ⟨(mem_ready.1 hr').1,.inl rfl⟩)
 refine wpAnyM_firstR (L:=latesM b ops.toList 0 [i]) hi (Region.noSelect_spec (okReg_sel hk)) hQ (fun j hj=>(hL j hj).2) fuel _ a w (fun j oj hoj hji hun hjL=>?_) (fun j hj=>(hL j hj).1) hr' hy hS (by rw [lst_set]; exact h)
 have hj:j < ops.size:=(Array.getElem?_eq_some_iff.1 hoj).1
 have hun' : tb b j = false:=by rw [lst_getD,if_pos hj] at hun; exact hun
 have h1:=calmGo_spec (b:=b) (i:=i) ops.toList 0 hc j oj (by simpa using hoj) (by rw [Nat.zero_add]; exact hun') (by rw [Nat.zero_add]; exact hjL)
 exact ⟨okReg_apart hk hi hoj hji h1.2 (ready_waits hi hr' hun),h1.1⟩
end
inductive Item where
 | c (x:Code)
 | blk (id:Nat)
 | ops (all:Array Oper) (l:List Oper)
 | back (B:Act → World → Prop)
 | drx (all:Array Oper) (hk:okReg all = true) (n:Nat) (b:Nat)
def wp0 (P:Program) (Q:Exit → Act → World → Prop):List Item → Exit → Act → World → Prop
 | [],e,a,w=>Q e a w
 | .c x :: K,e,a,w=>match e with
  | .normal=>x.wp P (wp0 P Q K) a w
  | e=>wp0 P Q K e a w
 | .blk id :: K,e,a,w=>match e with
  | .exit i=>if i = id then wp0 P Q K .normal a w else wp0 P Q K (.exit i) a w
  | e=>wp0 P Q K e a w
 | .ops all l :: K,e,a,w=>match e with
  | .normal=>wpList P all (wp0 P Q K) l a w
  | e=>wp0 P Q K e a w
 | .back B :: K,e,a,w=>match e with
  | .normal=>B a w
  | e=>wp0 P Q K e a w
 | .drx all _ n b :: K,e,a,w=>match e with
  | .normal=>wpAny P .any all (wp0 P Q K) n (lst all.size b) a w
  | e=>wp0 P Q K e a w
def wpT (P:Program) (Q:Exit → Act → World → Prop) (S:World → Prop) (K:List Item) (a:Act) (w:World):Prop :=
 match K with
 | .drx all _ n b :: K=>wpAnyM P all (wp0 P Q K) S n (lst all.size b) a w
 | K=>wp0 P Q K .normal a w
def holdsH (h:Nat → Option Obj) (W:World):Prop:=∀ b o,h b = some o → W.heap[b]? = some o
theorem wpT.to0 {P:Program} {Q:Exit → Act → World → Prop} {S:World → Prop} {K:List Item} {a:Act} {w:World} (h:wpT P Q S K a w):wp0 P Q K .normal a w:=by
 unfold wpT at h
 split at h
 ·exact wpAny_of_M _ _ _ _ h
 ·exact h
inductive Stop where
 | ret (σ : St)
 | fin (σ : St)
 | back (B:Act → World → Prop) (σ : St)
 | call (f:Nat) (args:List AV) (dst:Option Nat) (K:List Item) (σ : St)
 | need (p:Prop) (K:List Item) (σ : St)
 | idx (es:List (List AV)) (n:Int) (q:Option (Nat × Nat)) (dst:Option Nat) (K:List Item) (σ : St)
 | ldq (es:List (List AV)) (i off size:Nat) (agg:Bool) (dst:Option Nat) (K:List Item) (σ : St)
 | stq (k ety sz i off:Nat) (es:List (List AV)) (ds:List AV) (K:List Item) (σ : St)
 | str (es:List (List AV)) (dst:Option Nat) (K:List Item) (σ : St)
 | draw (all:Array Oper) (K:List Item) (σ : St)
 | split (x:Bool) (K1:List Item) (σ1:St) (K2:List Item) (σ2:St)
 | loop (x:Code) (K:List Item) (σ : St)
 | stuck (K:List Item) (σ : St)
 | fork (s1 s2:Stop)
 | idxw (k sz lo n:Nat) (z:Int) (dst:Option Nat) (K:List Item) (σ : St)
 | cutr (k sz:Nat) (es:List (List AV)) (l h:Option Int) (dst:Option Nat) (K:List Item) (σ : St)
 | cutw (k sz lo n:Nat) (l h:Option Int) (dst:Option Nat) (K:List Item) (σ : St)
 | coin (neg:Bool) (es:List (List AV)) (dst:Option Nat) (K:List Item) (σ : St)
 | ixa (k off sz n:Nat) (z:Int) (dst:Option Nat) (K:List Item) (σ : St)
 | halt (K:List Item) (σ : St)
def forks (f:Nat → Stop):List Nat → Stop
 | []=>.fin { tm:=[],own:=[] }
 | [i]=>f i
 | i :: j :: l=>.fork (f i) (forks f (j :: l))
def exitTo (id:Nat):List Item → Option (List Item)
 | []=>none
 | .blk i :: K=>if id = i then some K else exitTo id K
 | .c _ :: K=>exitTo id K
 | .ops _ _ :: K=>exitTo id K
 | .back _ :: K=>exitTo id K
 | .drx _ _ _ _ :: K=>exitTo id K
inductive Wd where
 | yes|no
 | ask (d:Nat) (x:Bool)
 | stuck
def wantA (all:Array Oper) (σ : St) (o:Oper):Wd :=
 match o.guard with
 | none=>.yes
 | some (j,w)=>match all.toList[j]? with
  | none=>.stuck
  | some oj=>match oj.dst with
   | none=>.stuck
   | some d=>match σ.tm[d]? with
    | some (.v (.bool true))=>match w with|true=>.yes|false=>.no
    | some (.v (.bool false))=>match w with|true=>.no|false=>.yes
    | some (.b x)=>.ask d x
    | some (.t [])=>.no
    | _=>.stuck
def bindA (k:Nat) (caps args:List AV):List AV :=
 match caps with
 | []=>args
 | c :: cs=>(c :: cs).take k ++ (args ++ (c :: cs).drop k)
theorem bindA_eq (k:Nat) (caps args:List AV):bindA k caps args = caps.take k ++ (args ++ caps.drop k):=by cases caps <;> simp [bindA]
def callA (σ : St) (o:Op):Option (Nat × List AV) :=
 match o with
 | .call ⟨.value g,args,_⟩=>match σ.get g with
  | .f f caps=>some (f % 1000000,bindA (f / 1000000) caps (args.toList.map σ.get))
  | _=>none
 | _=>none
inductive SR where
 | run (K:List Item) (σ : St)
 | stop (s:Stop)
 | none
noncomputable def opStep (A:Ari) (T:Tab) (σ : St) (o:Oper) (K:List Item):SR :=
 match opR A T σ o.op with
 | .ok x=>.run K (σ.put o.dst x)
 | .need p x=>.stop (.need p K (σ.put o.dst x))
 | .idx es n q=>.stop (.idx es n q o.dst K σ)
 | .ldq es i off size agg=>.stop (.ldq es i off size agg o.dst K σ)
 | .str es=>.stop (.str es o.dst K σ)
 | .idxw k sz lo n z=>.stop (.idxw k sz lo n z o.dst K σ)
 | .cutr k sz es l h=>.stop (.cutr k sz es l h o.dst K σ)
 | .cutw k sz lo n l h=>.stop (.cutw k sz lo n l h o.dst K σ)
 | .coin neg es=>.stop (.coin neg es o.dst K σ)
 | .ixa k off sz n z=>.stop (.ixa k off sz n z o.dst K σ)
 | .no=>match opE A T σ o.op with
  | .ok x σ' => .run K (σ'.put o.dst x)
  | .need p x σ' => .stop (.need p K (σ'.put o.dst x))
  | .stq k ety sz i off es ds σ' => match o.dst with
   | none=>.stop (.stq k ety sz i off es ds K σ')
   | some _=>.none
  | .no=>match callA σ o.op with
   | some (f,args)=>.stop (.call f args o.dst K σ)
   | none=>.none
def opLook (A:Ari) (T:Tab) (σ : St) (o:Oper) (K:List Item):SR :=
 match opR A T { tm:=σ.tm,own:=[] } o.op with
 | .ok x=>.run K (σ.put o.dst x)
 | .need p x=>.stop (.need p K (σ.put o.dst x))
 | .idx es n none=>.stop (.idx es n none o.dst K σ)
 | .str es=>.stop (.str es o.dst K σ)
 | .idxw k sz lo n z=>.stop (.idxw k sz lo n z o.dst K σ)
 | _=>.none
def pickI (f:Nat → Bool):List Nat → Option Nat
 | []=>none
 | i :: l=>match f i with
  | true=>some i
  | false=>pickI f l
def looksX (A:Ari) (T:Tab) (σ : St) (all:Array Oper) (i:Nat):Bool :=
 match all.toList[i]? with
 | none=>false
 | some o=>match wantA all σ o with
  | .no=>true
  | .ask _ _=>true
  | .yes=>match opR A T { tm:=σ.tm,own:=[] } o.op with
   | .ok _=>true
   | .need _ _=>true
   | .idx _ _ none=>true
   | .str _=>true
   | .idxw _ _ _ _ _=>true
   | _=>false
  | .stuck=>false
def calmX (A:Ari) (T:Tab) (σ : St) (all:Array Oper) (b:Nat) (i:Nat):Bool :=
 match all.toList[i]? with
 | none=>false
 | some o=>match wantA all σ o with
  | .yes=>match opR A T σ o.op with
   | .no=>false
   | _=>calmM all b i
  | _=>false
noncomputable def run (A:Ari) (T:Tab):Nat → List Item → St → Stop
 | 0,K,σ => .need True K σ
 | n + 1,K,σ => match K with
  | []=>.fin σ
  | .blk _ :: K=>run A T n K σ
  | .back B :: _=>.back B σ
  | .ops _ [] :: K=>run A T n K σ
  | .ops all (o :: os) :: K=>match wantA all σ o with
   | .stuck=>.stuck (.ops all (o :: os) :: K) σ
   | .no=>run A T n (.ops all os :: K) (σ.put o.dst (.t []))
   | .ask d x=>.split x (.ops all (o :: os) :: K) (σ.put (some d) (.v (.bool true))) (.ops all (o :: os) :: K) (σ.put (some d) (.v (.bool false)))
   | .yes=>match opStep A T σ o (.ops all os :: K) with
    | .run K σ => run A T n K σ
    | .stop s=>s
    | .none=>.halt (.ops all (o :: os) :: K) σ
  | .drx all hk m b :: K=>match rdM b all.toList 0 with
   | []=>run A T n K σ
   | i0 :: rs=>match m with
    | 0=>.stuck (.drx all hk 0 b :: K) σ
    | m + 1=>match pickI (looksX A T σ all) (i0 :: rs) with
     | some i=>match all.toList[i]? with
      | none=>.stuck (.drx all hk (m + 1) b :: K) σ
      | some o=>match wantA all σ o with
       | .stuck=>.stuck (.drx all hk (m + 1) b :: K) σ
       | .no=>run A T n (.drx all hk m (setM b i) :: K) (σ.put o.dst (.t []))
       | .ask d x=>.split x (.drx all hk (m + 1) b :: K) (σ.put (some d) (.v (.bool true))) (.drx all hk (m + 1) b :: K) (σ.put (some d) (.v (.bool false)))
       | .yes=>match opLook A T σ o (.drx all hk m (setM b i) :: K) with
        | .run K σ => run A T n K σ
        | .stop s=>s
        | .none=>.stuck (.drx all hk (m + 1) b :: K) σ
     | none=>match pickI (calmX A T σ all b) (i0 :: rs) with
     | some i=>match all.toList[i]? with
      | none=>.stuck (.drx all hk (m + 1) b :: K) σ
      | some o=>match opStep A T σ o (.drx all hk m (setM b i) :: K) with
       | .run K σ => run A T n K σ
       | .stop s=>s
       | .none=>.stuck (.drx all hk (m + 1) b :: K) σ
     | none=>forks (fun i=>match all.toList[i]? with
       | none=>.stuck (.drx all hk (m + 1) b :: K) σ
       | some o=>match wantA all σ o with
        | .stuck=>.stuck (.drx all hk (m + 1) b :: K) σ
        | .no=>run A T n (.drx all hk m (setM b i) :: K) (σ.put o.dst (.t []))
        | .ask d x=>.split x (.drx all hk (m + 1) b :: K) (σ.put (some d) (.v (.bool true))) (.drx all hk (m + 1) b :: K) (σ.put (some d) (.v (.bool false)))
        | .yes=>match opStep A T σ o (.drx all hk m (setM b i) :: K) with
         | .run K σ => run A T n K σ
         | .stop s=>s
         | .none=>.stuck (.drx all hk (m + 1) b :: K) σ) (i0 :: rs)
  | .c .skip :: K=>run A T n K σ
  | .c (.label _) :: K=>run A T n K σ
  | .c (.seq x y) :: K=>run A T n (.c x :: .c y :: K) σ
  | .c (.block id x) :: K=>run A T n (.c x :: .blk id :: K) σ
  | .c (.exit id) :: K=>match exitTo id K with
   | some K' => run A T n K' σ
   | none=>.stuck (.c (.exit id) :: K) σ
  | .c .ret :: _=>.ret σ
  | .c (.region id os false) :: K=>run A T n (.ops os os.toList :: K) σ
  | .c (.region id os true) :: K=>.draw os K σ
  | .c (.cond o x y) :: K=>match σ.get o with
   | .v (.bool true)=>run A T n (.c x :: K) σ
   | .v (.bool false)=>run A T n (.c y :: K) σ
   | .b b=>.split b (.c x :: K) σ (.c y :: K) σ
   | _=>.stuck (.c (.cond o x y) :: K) σ
  | .c (.loop x) :: K=>.loop x K σ
  | .c x :: K=>.stuck (.c x :: K) σ
def Enters (P:Program) (f:Nat):Prop:=∃ fn,P.funcs[f]? = some fn ∧ (fn.name == "runtime.NumGoroutine") = false ∧ fn.body.isNone = false
def CallT (P:Program) (f:Nat) (vs:Array Value) (W:World) (R:Value → World → Prop):Prop :=
 (Enters P f ∧ Calls P f vs W fun e W' => ∃ v,e = .returned v ∧ R v W') ∨ ∃ u W', (callFunc f vs).run P W = .ok (.value u) W' ∧ R u W'
section
variable (P:Program) (Q:Exit → Act → World → Prop) (W0:World) (mine:Nat → Prop) (kn:Kn)
def AW (K:List Item) (σ : St):Prop:=∀ h E a W,(∀ b o,h b = some o → E.h b = some o) → Rel W0 mine kn E σ a W → wpT P Q (holdsH h) K a W
def AW0 (K:List Item) (σ : St):Prop:=∀ E a W,Rel W0 mine kn E σ a W → wp0 P Q K .normal a W
def Good:Stop → Prop
 | .ret σ => ∀ E a W,Rel W0 mine kn E σ a W → Q .ret a W
 | .fin σ => ∀ E a W,Rel W0 mine kn E σ a W → Q .normal a W
 | .back B σ => ∀ E a W,Rel W0 mine kn E σ a W → B a W
 | .call f args dst K σ => ∀ (h:Nat → Option Obj) (E:Env) (a:Act) (W:World) (vs:List Value),(∀ b o,h b = some o → E.h b = some o) → Rel W0 mine kn E σ a W → args.length = vs.length →
   (∀ (i:Nat) (x:AV) (u:Value),args[i]? = some x → vs[i]? = some u → RAV E true x u ∧ Bl σ.own.length x) → CallT P f vs.toArray W fun v W' => holdsH h W' ∧ wpT P Q (holdsH h) K (a.put dst v) W'
 | .need p K σ => p ∧ AW P Q W0 mine kn K σ
 | .idx es n q dst K σ => ∃ (i:Nat) (cells:List AV),es[i]? = some cells ∧ n = i ∧ AW P Q W0 mine kn K (σ.put dst (match q with|none=>.ip cells|some (k,sz)=>.q k sz i 0))
 | .ldq es i off size agg dst K σ => ∃ cells,es[i]? = some cells ∧ AW P Q W0 mine kn K (σ.put dst (mkA agg ((cells.drop off).take size)))
 | .stq k ety sz i off es ds K σ => ∃ cells,es[i]? = some cells ∧ AW P Q W0 mine kn K { σ with own:=σ.own.set k (.row ety sz (es.set i (cells.take off ++ ds ++ cells.drop (off + ds.length)))) }
 | .str es dst K σ => ∃ s,es = sbytes s ∧ AW P Q W0 mine kn K (σ.put dst (.v (.string s)))
 | .draw all K σ => ∃ hk:okReg all = true,AW P Q W0 mine kn (.drx all hk all.size 0 :: K) σ
 | .split x K1 σ1 K2 σ2=>(x = true → AW P Q W0 mine kn K1 σ1) ∧ (x = false → AW P Q W0 mine kn K2 σ2)
 | .loop x K σ => AW P Q W0 mine kn (.c (.loop x) :: K) σ
 | .stuck _ _=>False
 | .fork s1 s2=>Good s1 ∧ Good s2
 | .idxw k sz lo n z dst K σ => ∃ i j:Nat,z = i ∧ i < n ∧ j = lo + i ∧ AW P Q W0 mine kn K (σ.put dst (.q k sz j 0))
 | .cutr k sz es l h dst K σ => ∃ a m:Nat,CutsAt l h a m es.length ∧ AW P Q W0 mine kn K (σ.put dst (.w k sz a m))
 | .cutw k sz lo n l h dst K σ => ∃ a m lo' : Nat,CutsAt l h a m n ∧ lo' = lo + a ∧ AW P Q W0 mine kn K (σ.put dst (.w k sz lo' m))
 | .coin neg es dst K σ => ∀ b:Bool,(b = !neg → es = []) → AW P Q W0 mine kn K (σ.put dst (.b b))
 | .ixa k off sz n z dst K σ => ∃ i:Nat,z = i ∧ i < n ∧ AW P Q W0 mine kn K (σ.put dst (.p k (off + i * sz)))
 | .halt K σ => AW P Q W0 mine kn K σ
end
section
variable {P:Program} {Q:Exit → Act → World → Prop} {W0:World} {mine:Nat → Prop} {kn:Kn} {A:Ari} {T:Tab} {E:Env} {σ : St} {a:Act} {W:World}
theorem AW.to0 {K:List Item} (hw:AW P Q W0 mine kn K σ):AW0 P Q W0 mine kn K σ:=fun E a W hR=>(hw E.h E a W (fun _ _ h=>h) hR).to0
theorem holdsH.of (hR:Rel W0 mine kn E σ a W) {h:Nat → Option Obj} (hh:∀ b o,h b = some o → E.h b = some o):holdsH h W:=fun b o hb=>hR.mem.facts b o (hh b o hb)
theorem wpT_ret:∀ (K:List Item) (a:Act) (w:World),Q .ret a w → wp0 P Q K .ret a w
 | [],_,_,h=>h
 | .c _ :: K,a,w,h=>wpT_ret K a w h
 | .blk _ :: K,a,w,h=>wpT_ret K a w h
 | .ops _ _ :: K,a,w,h=>wpT_ret K a w h
 | .back _ :: K,a,w,h=>wpT_ret K a w h
 | .drx _ _ _ _ :: K,a,w,h=>wpT_ret K a w h
theorem wp0_panic (hQ:∀ c (a:Act) d v w,Q (.panic c) (a.put d v) w → Q (.panic c) a w):∀ (K:List Item) c (a:Act) d v w,wp0 P Q K (.panic c) (a.put d v) w → wp0 P Q K (.panic c) a w
 | [],c,a,d,v,w,h=>hQ c a d v w h
 | .c _ :: K,c,a,d,v,w,h=>wp0_panic hQ K c a d v w h
 | .blk _ :: K,c,a,d,v,w,h=>wp0_panic hQ K c a d v w h
 | .ops _ _ :: K,c,a,d,v,w,h=>wp0_panic hQ K c a d v w h
 | .back _ :: K,c,a,d,v,w,h=>wp0_panic hQ K c a d v w h
 | .drx _ _ _ _ :: K,c,a,d,v,w,h=>wp0_panic hQ K c a d v w h
theorem wpT_exit {id:Nat}:∀ (K K' : List Item) (a:Act) (w:World),exitTo id K = some K' → wp0 P Q K' .normal a w → wp0 P Q K (.exit id) a w
 | [],_,_,_,h,_=>by simp [exitTo] at h
 | .c _ :: K,K', a,w,h,hk=>wpT_exit K K' a w (by simpa [exitTo] using h) hk
 | .ops _ _ :: K,K', a,w,h,hk=>wpT_exit K K' a w (by simpa [exitTo] using h) hk
 | .back _ :: K,K', a,w,h,hk=>wpT_exit K K' a w (by simpa [exitTo] using h) hk
 | .drx _ _ _ _ :: K,K', a,w,h,hk=>wpT_exit K K' a w (by simpa [exitTo] using h) hk
 | .blk i :: K,K', a,w,h,hk=>by
  simp only [exitTo] at h
  simp only [wp0]
  split at h
  ·rename_i hi; cases h; rw [if_pos hi]; exact hk
  ·rename_i hi; rw [if_neg hi]; exact wpT_exit K K' a w h hk
theorem Good.aw_ret {K:List Item} {σ : St} (h:Good P Q W0 mine kn (.ret σ)):AW P Q W0 mine kn (.c .ret :: K) σ :=
 fun _ E a W _ hR=>wp_ret (wpT_ret K a W (h E a W hR))
theorem Rel.unwanted (hR:Rel W0 mine kn E σ a W) (d:Option Nat):Rel W0 mine kn E (σ.put d (.t [])) (a.put d undef) W:=hR.put (.t _ _ [] rfl (by simp)) (.t _ (by simp))
def WdOK (E:Env) (a:Act) (all:Array Oper) (o:Oper):Wd → Prop
 | .yes=>Region.wanted o (yielded all a.tmps) = true
 | .no=>Region.wanted o (yielded all a.tmps) = false
 | .ask d x=>a.tmps.getD d undef = .bool x
 | .stuck=>True
theorem wanted_of (hR:Rel W0 mine kn E σ a W) {all:Array Oper} {o:Oper}:WdOK E a all o (wantA all σ o):=by
 unfold wantA
 cases hg:o.guard with
 | none=>simp [WdOK,Region.wanted,hg]
 | some g =>
  obtain ⟨j,w⟩:=g
  simp only
  cases hj:all.toList[j]? with
  | none=>trivial
  | some oj =>
   simp only
   cases hd:oj.dst with
   | none=>trivial
   | some d =>
    simp only
    have hj' : all[j]? = some oj:=by simpa using hj
    have key:∀ (b:Bool),(∃ x,σ.tm[d]? = some x ∧ RAV E true x (.bool b) ∧ a.tmps.getD d undef = .bool b) → yielded all a.tmps j = some b:=by
     rintro b ⟨x,hx,_,hv⟩
     have hlt:d < a.tmps.size:=by rw [hR.len]; exact (List.getElem?_eq_some_iff.1 hx).1
     have:a.tmps[d]? = some (.bool b):=by
      rw [Array.getD_eq_getD_getElem?,Array.getElem?_eq_getElem hlt] at hv
      rw [Array.getElem?_eq_getElem hlt]; exact congrArg some hv
     simp [yielded,hj', hd,this]
    split
    ·rename_i hx
     have hr:=hR.tm d _ hx
     have hv:=hr.vInv
     have hy:=key true ⟨_,hx,hv ▸ hr,hv⟩
     cases w <;> simp [WdOK,Region.wanted,hg,hy]
    ·rename_i hx
     have hr:=hR.tm d _ hx
     have hv:=hr.vInv
     have hy:=key false ⟨_,hx,hv ▸ hr,hv⟩
     cases w <;> simp [WdOK,Region.wanted,hg,hy]
    ·rename_i x hx
     exact (hR.tm d _ hx).bInv
    ·rename_i hx
     have hr:=hR.tm d _ hx
     generalize hv:a.tmps.getD d undef = v at hr
     have hv' : v = .tuple #[]:=by
      cases hr with
      | t _ _ us hl _ =>
       cases us with
       | nil=>rfl
       | cons u us=>simp at hl
     subst hv'
     have:yielded all a.tmps j = none:=by
      have hlt:d < a.tmps.size:=by rw [hR.len]; exact (List.getElem?_eq_some_iff.1 hx).1
      have h1:a.tmps[d]? = some (.tuple #[]):=by
       rw [Array.getD_eq_getD_getElem?,Array.getElem?_eq_getElem hlt] at hv
       rw [Array.getElem?_eq_getElem hlt]; exact congrArg some hv
      simp [yielded,hj', hd,h1]
     simp [WdOK,Region.wanted,hg,this]
    ·trivial
theorem wp_of_run {o:Oper} {QQ:Exit → Act → World → Prop} {F:Act → World → Prop} {u:Value} {W' : World}
  (hrun:(execOp a.eval o).run P W = .ok (.value u) W' ∨ ((execOp a.eval o).run P W = .ok .skip W' ∧ u = undef)) (h:F (a.put o.dst u) W'):o.wp P a W F QQ:=by
 unfold Oper.wp
 rcases hrun with hrun|⟨hrun,rfl⟩ <;> rw [hrun] <;> exact h
def RRBl (n:Nat):RR → Prop
 | .ok x=>Bl n x
 | .need _ x=>Bl n x
 | .idx _ _ (some (k,_))=>k < n
 | .idxw k _ _ _ _=>k < n
 | .cutr k _ _ _ _=>k < n
 | .cutw k _ _ _ _ _=>k < n
 | .ixa k _ _ _ _=>k < n
 | _=>True
theorem mkA_bl {n:Nat} {g:Bool} {cs:List AV} (h:∀ x ∈ cs,Bl n x):Bl n (mkA g cs):=by
 unfold mkA
 split
 ·exact .a _ h
 ·split
  ·exact h _ (by simp)
  ·exact .any
theorem ip_bl {m:Bool} {cs:List AV} {u:Value} (h:RAV E m (.ip cs) u) (n:Nat):∀ c ∈ cs,Bl n c:=by
 cases h with
 | ip _ _ b off vals ty fr hb hl h1 hc =>
  intro c hcm
  obtain ⟨i,hi,rfl⟩:=List.getElem_of_mem hcm
  have hlt:off + i < vals.size:=by omega
  exact ((hc i _ vals[off + i] (List.getElem?_eq_getElem hi) (Array.getElem?_eq_getElem hlt)).bl rfl).mono fun _ h=>h.elim
theorem loadA_bl (hR:Rel W0 mine kn E σ a W) {ty:Nat} {x:AV} {u:Value} (hx:RAV E true x u):RRBl σ.own.length (loadA T σ ty x):=by
 unfold loadA
 split
 ·trivial
 ·split
  ·split
   ·rename_i hk
    split
    ·exact mkA_bl fun y hy=>hR.wfo _ _ _ hk y (List.mem_of_mem_drop (List.mem_of_mem_take hy))
    ·trivial
   ·trivial
  ·split
   ·exact mkA_bl fun y hy=>ip_bl hx _ y (List.mem_of_mem_take hy)
   ·trivial
  ·split
   ·split
    ·split <;> trivial
    ·trivial
   ·trivial
  ·trivial
theorem fillA_bl {n:Nat} {fs:List (Nat × Nat × Bool)}:∀ (ps:List (Nat × AV)) (cs ds:List AV),fillA fs cs ps = some ds → (∀ p ∈ ps,Bl n p.2) → (∀ c ∈ cs,Bl n c) → ∀ c ∈ ds,Bl n c
 | [],cs,ds,h,_,hc=>by simp [fillA] at h; subst h; exact hc
 | (i,x) :: ps,cs,ds,h,hp,hc=>by
  simp only [fillA] at h
  split at h
  ·cases h
  ·split at h
   ·refine fillA_bl ps _ ds h (fun p hpm=>hp p (by simp [hpm])) fun c hcm=>?_
    simp only [List.append_assoc,List.mem_append] at hcm
    rcases hcm with hcm|hcm|hcm
    ·exact hc c (List.mem_of_mem_take hcm)
    ·exact cells_bl (hp (i,x) (by simp)) c hcm
    ·exact hc c (List.mem_of_mem_drop hcm)
   ·cases h
theorem bndA_bl {n:Nat} {lo hi:Option AV} {len:Int} {f:Int → Int → AV} (h:∀ l r,Bl n (f l r)):RRBl n (bndA lo hi len f):=by
 unfold bndA
 split <;> first|exact h _ _|trivial
theorem cutB_bl {n:Nat} {lo hi:Option AV} {f:Option Int → Option Int → RR} (h:∀ l r,RRBl n (f l r)):RRBl n (cutB lo hi f):=by
 unfold cutB
 split <;> first|exact h _ _|trivial
theorem eqA_bl {n:Nat} {op:BinOp} {t:Nat} {x y:AV}:RRBl n (eqA A T op t x y):=by
 unfold eqA
 split
 ·split
  ·exact .v _
  ·split
   ·split
    ·exact .b _
    ·trivial
   ·trivial
 ·split
  ·exact .v _
  ·split
   ·split
    ·exact .b _
    ·trivial
   ·trivial
 ·trivial
theorem mgetA_bl {n:Nat} {vk:MK} {g:Value → Option Value} {key:Value}:Bl n (mgetA A vk g key):=by
 cases vk <;> first|exact .b _|exact .v _
theorem lookupA_bl {n:Nat} {t:Nat} {x i:AV} {ok:Bool}:RRBl n (lookupA A T σ t x i ok):=by
 unfold lookupA
 split
 ·split
  ·split
   ·split
    ·split
     ·split
      ·exact .t _ fun c hc=>by
        simp only [List.mem_cons,List.not_mem_nil,or_false] at hc
        rcases hc with rfl|rfl
        ·exact mgetA_bl
        ·exact .b _
      ·exact mgetA_bl
     ·trivial
    ·trivial
   ·trivial
  ·trivial
 ·trivial
theorem opR_bl (hR:Rel W0 mine kn E σ a W) (o:Op):RRBl σ.own.length (opR A T σ o):=by
 unfold opR
 split
 ·exact (hR.get _).2
 ·exact (hR.get _).2
 ·split
  ·exact (hR.get _).2
  ·exact (hR.get _).2
  ·trivial
 ·exact loadA_bl hR (hR.get _).1
 ·rename_i ty x f
  obtain ⟨hx,hb⟩:=hR.get x
  generalize σ.get x = vx at hx hb
  unfold fieldAddrA
  split
  ·split
   ·split
    ·trivial
    ·split
     ·cases hb with|p _ _ h=>exact .p _ _ h
     ·split
      ·exact .ip _
      ·trivial
     ·cases hb with|q _ _ _ _ h=>exact .q _ _ _ _ h
     ·trivial
   ·trivial
  ·trivial
 ·rename_i ty x f
  obtain ⟨hx,hb⟩:=hR.get x
  generalize σ.get x = vx at hx hb
  unfold fieldA
  split
  ·split
   ·split
    ·cases hb with|a _ h=>exact mkA_bl fun y hy=>h y (List.mem_of_mem_drop (List.mem_of_mem_take hy))
    ·trivial
   ·trivial
  ·trivial
 ·rename_i ty ps
  unfold buildA
  split
  ·split
   ·rename_i hf
    refine .a _ (fillA_bl _ _ _ hf (fun p hp=>?_) fun c hc=>?_)
    ·obtain ⟨y,_,rfl⟩:=List.mem_map.1 hp
     exact (hR.get _).2
    ·obtain ⟨y,_,rfl⟩:=List.mem_map.1 hc
     exact zeroA_ment
   ·trivial
  ·trivial
 ·rename_i x i
  obtain ⟨hx,hb⟩:=hR.get x
  split
  ·rename_i vs h
   rw [h] at hb
   split
   ·rename_i y hy
    cases hb with|t _ hb=>exact hb y (List.mem_of_getElem? hy)
   ·trivial
  ·trivial
 ·rename_i x
  obtain ⟨hx,hb⟩:=hR.get x
  split <;> (try trivial) <;> (rename_i h; rw [h] at hb; exact hb)
 ·split
  ·refine .f _ _ fun c hc=>?_
   rw [← List.map_append] at hc
   obtain ⟨y,_,rfl⟩:=List.mem_map.1 hc
   exact (hR.get _).2
  ·trivial
 ·unfold unA
  split <;> first|exact .v _|exact .b _|trivial
 ·unfold nilIfA
  split
  ·split <;> first|exact .v _|trivial
  ·trivial
 ·unfold nilSlA
  (repeat' split) <;> first|exact .v _|trivial
 ·unfold binA
  split
  ·split
   ·exact .v _
   ·exact .v _
   ·split
    ·split <;> first|exact .v _|exact .b _|trivial
    ·trivial
  ·split <;> first|exact .v _|exact .b _|trivial
  ·split
   ·split
    ·split <;> first|exact .b _|trivial
    ·trivial
   ·exact eqA_bl
 ·unfold convA
  split
  ·split <;> first|exact .v _|trivial
  ·split
   ·split <;> first|exact .v _|trivial
   ·split <;> first|exact .v _|trivial
   ·split
    ·split <;> trivial
    ·trivial
   ·split
    ·split
     ·split <;> trivial
     ·trivial
    ·trivial
   ·trivial
  ·trivial
 ·unfold indexA
  split <;> first|exact .v _|trivial
 ·rename_i ty x i
  obtain ⟨hx,hb⟩:=hR.get x
  generalize σ.get x = vx at hx hb
  unfold indexAddrA
  split
  ·split
   ·split <;> trivial
   ·split
    ·split
     ·cases hb with|r _ h=>exact h
     ·trivial
    ·trivial
   ·split
    ·cases hb with|w _ _ _ _ h=>exact h
    ·trivial
   ·trivial
  ·split
   ·split
    ·split
     ·cases hb with|p _ _ h=>exact h
     ·trivial
    ·trivial
   ·trivial
  ·trivial
 ·rename_i ty x lo hi
  obtain ⟨hx,hb⟩:=hR.get x
  generalize σ.get x = vx at hx hb
  unfold sliceA
  split
  ·split
   ·split
    ·cases hb with|r _ h=>exact cutB_bl fun _ _=>h
    ·trivial
   ·trivial
  ·split
   ·cases hb with|w _ _ _ _ h=>exact cutB_bl fun _ _=>h
   ·trivial
  ·split
   ·split
    ·split
     ·exact .l _ _
     ·trivial
    ·trivial
   ·trivial
  ·exact bndA_bl fun _ _=>.v _
  ·split
   ·exact bndA_bl fun _ _=>.l _ _
   ·trivial
  ·trivial
 ·split
  ·unfold lenA
   split <;> first|exact .v _|trivial|(split <;> first|exact .v _|trivial)
  ·trivial
 ·unfold maxA; split <;> first|exact .v _|trivial
 ·unfold maxA; split <;> first|exact .v _|trivial
 ·exact lookupA_bl
 ·trivial
theorem lookupA_own {t:Nat} {x i:AV} {ok:Bool} (h:lookupA A T { tm:=σ.tm,own:=[] } t x i ok ≠ .no):lookupA A T σ t x i ok = lookupA A T { tm:=σ.tm,own:=[] } t x i ok:=by
 unfold lookupA at h ⊢
 split
 ·rename_i h1
  rw [h1] at h
  cases x <;> simp at h ⊢
 ·rfl
theorem loadA_own {t:Nat} {x:AV} (h:loadA T { tm:=σ.tm,own:=[] } t x ≠ .no):loadA T σ t x = loadA T { tm:=σ.tm,own:=[] } t x:=by
 unfold loadA at h ⊢
 cases hl:look T t with
 | none=>rfl
 | some i =>
  rw [hl] at h
  cases x <;> simp [rowOf] at h ⊢
theorem indexAddrA_own {t:Nat} {x i:AV} (h:indexAddrA T { tm:=σ.tm,own:=[] } t x i ≠ .no):indexAddrA T σ t x i = indexAddrA T { tm:=σ.tm,own:=[] } t x i:=by
 unfold indexAddrA at h ⊢
 split
 ·rename_i h1
  rw [h1] at h
  cases x <;> simp [rowOf] at h ⊢
 ·rfl
 ·rfl
theorem sliceA_own {t:Nat} {x:AV} {lo hi:Option AV} (h:sliceA A T { tm:=σ.tm,own:=[] } t x lo hi ≠ .no):sliceA A T σ t x lo hi = sliceA A T { tm:=σ.tm,own:=[] } t x lo hi:=by
 unfold sliceA at h ⊢
 split
 ·rename_i h1
  rw [h1] at h
  simp [rowOf] at h
 all_goals rfl
theorem nilSlA_own {op:BinOp} {t:Nat} {x:AV} (h:nilSlA T { tm:=σ.tm,own:=[] } op t x ≠ .no):nilSlA T σ op t x = nilSlA T { tm:=σ.tm,own:=[] } op t x:=by
 unfold nilSlA at h ⊢
 split
 ·rename_i h1
  rw [h1] at h
  cases op <;> simp only at h ⊢ <;> (split <;> first|rfl|simp [rowOf] at h)
 ·rfl
theorem lenA_own {t:Nat} {x:AV} (h:lenA A T { tm:=σ.tm,own:=[] } t x ≠ .no):lenA A T σ t x = lenA A T { tm:=σ.tm,own:=[] } t x:=by
 unfold lenA at h ⊢
 split
 ·rfl
 ·rfl
 ·rename_i k h1
  rw [h1] at h
  simp [rowOf] at h
 ·rfl
 ·rfl
 ·rfl
theorem convA_own {s d:Nat} {x:AV} (h:convA A T { tm:=σ.tm,own:=[] } s d x ≠ .no):convA A T σ s d x = convA A T { tm:=σ.tm,own:=[] } s d x:=by
 unfold convA at h ⊢
 split
 ·rfl
 ·rename_i hd
  rw [hd] at h
  split
  ·rfl
  ·rfl
  ·rfl
  ·cases hu:isU8 T s <;> simp [hu,rowOf] at h ⊢
  ·rfl
 ·rfl
theorem opR_own (o:Op) (hne:opR A T { tm:=σ.tm,own:=[] } o ≠ .no):opR A T σ o = opR A T { tm:=σ.tm,own:=[] } o:=by
 have hget:({ tm:=σ.tm,own:=[] }:St).get = σ.get:=by funext x; cases x <;> rfl
 unfold opR at hne ⊢
 simp only [hget] at hne ⊢
 split
 all_goals first
  | rfl
  | exact loadA_own hne
  | exact indexAddrA_own hne
  | exact convA_own hne
  | exact lookupA_own hne
  | exact sliceA_own hne
  | exact nilSlA_own hne
  | skip
 ·split
  ·rename_i h1 h2
   simp only [h1,h2] at hne
   exact lenA_own hne
  ·rfl
theorem Rel.drew (hR:Rel W0 mine kn E σ a W):Rel W0 mine kn E σ a { W with drawn:=W.drawn + 1 }:=by
 have hM:=hR.mem
 exact ⟨⟨hM.os,hM.tape,hM.output,hM.size,hM.keep,hM.facts,hM.old,fun k ob h=>(hM.owns k ob h).snap fun _=>rfl,hM.disj,hM.sep,hM.anch,hM.glob⟩,hR.defs,hR.len,hR.tm,hR.wf,hR.wfo⟩
theorem opStep_ok (hA : A = std) (hT : TabOK P T) {h : Nat → Option Obj} (hh : ∀ b o, h b = some o → E.h b = some o) (hR : Rel W0 mine kn E σ a W) {o : Oper} {K : List Item} {QQ : Exit → Act → World → Prop} {F : Act → World → Prop}
    (hF : ∀ a' W', holdsH h W' → (wrB o = false → W' = W) → wpT P Q (holdsH h) K a' W' → F a' W')
    (hg : match opStep A T σ o K with | .run K σ => AW P Q W0 mine kn K σ | .stop s => Good P Q W0 mine kn s | .none => False) : o.wp P a W F QQ := by
  have hr := opR_ok (P := P) (T := T) (o := o) hA hT hR.mem (fun x => (hR.get x).1)
  have hrb := opR_bl (A := A) (T := T) hR o.op
  have he := opE_ok (P := P) (o := o) hA hT hR
  have hreads : ∀ x, Reads P E σ.own W a.eval o x → (∀ u, RAV E true x u → Bl σ.own.length x) → AW P Q W0 mine kn K (σ.put o.dst x) → o.wp P a W F QQ := by
    rintro x ⟨u, hu, hrun⟩ hx hk
    exact wp_of_run (.inl (hrun W hR.mem.snap)) (hF _ _ (holdsH.of hR hh) (fun _ => rfl) (hk h E _ W hh (hR.put hu (hx u hu))))
  have hwr : opE A T σ o.op ≠ .no → wrB o = true := by
    unfold opE wrB
    split <;> simp_all
  have hdoes : wrB o = true → ∀ x σ', Does P W0 mine kn E a W o x σ' → AW P Q W0 mine kn K (σ'.put o.dst x) → o.wp P a W F QQ := by
    rintro hw x σ' ⟨u, W', E', hrun, hEh, hR', hu, hb⟩ hk
    have hh' : ∀ b o, h b = some o → E'.h b = some o := fun b o hb' => by rw [hEh]; exact hh b o hb'
    exact wp_of_run hrun (hF _ _ (holdsH.of hR' hh') (fun h => by rw [hw] at h; cases h) (hk h E' _ W' hh' (hR'.put hu hb)))
  unfold opStep at hg
  generalize opR A T σ o.op = rr at hr hrb hg
  cases rr with
  | ok x => exact hreads x hr (fun _ _ => hrb) hg
  | need p x => exact hreads x (hr hg.1) (fun _ _ => hrb) hg.2
  | idx es m q =>
    obtain ⟨i, cells, h1, h2, h3⟩ := hg
    refine hreads _ (hr i cells h1 h2) (fun _ _ => ?_) h3
    cases q with
    | none => exact .ip _
    | some q => exact .q _ _ _ _ hrb
  | ldq es i off size agg =>
    obtain ⟨cells, h1, h2⟩ := hg
    obtain ⟨h3, h4⟩ := hr cells h1
    exact hreads _ h3 (fun _ _ => h4.mono (Nat.zero_le _)) h2
  | str es =>
    obtain ⟨s, h1, h2⟩ := hg
    exact hreads _ (hr s h1) (fun _ _ => .v _) h2
  | idxw k sz lo n z =>
    obtain ⟨i, j, h1, h2, h3, h4⟩ := hg
    exact hreads _ (hr i j h1 h2 h3) (fun _ _ => .q _ _ _ _ hrb) h4
  | cutr k sz es l h =>
    obtain ⟨b, m, h1, h2⟩ := hg
    exact hreads _ (hr b m h1) (fun _ _ => .w _ _ _ _ hrb) h2
  | cutw k sz lo n l h =>
    obtain ⟨b, m, lo', h1, h2, h3⟩ := hg
    exact hreads _ (hr b m lo' h1 h2) (fun _ _ => .w _ _ _ _ hrb) h3
  | coin neg es =>
    obtain ⟨b, h1, h2⟩ := hr
    exact hreads _ h2 (fun _ _ => .b _) (hg b h1)
  | ixa k off sz n z =>
    obtain ⟨i, h1, h2, h3⟩ := hg
    exact hreads _ (hr i h1 h2) (fun _ _ => .p _ _ hrb) h3
  | no =>
    simp only at hg
    generalize opE A T σ o.op = er at he hg hwr
    cases er with
    | ok x σ' => exact hdoes (hwr (by simp)) _ _ he hg
    | need p x σ' => exact hdoes (hwr (by simp)) _ _ (he hg.1) hg.2
    | stq k ety sz i off es ds σ' =>
      simp only at hg
      cases hd : o.dst with
      | some d => rw [hd] at hg; exact hg.elim
      | none =>
        rw [hd] at hg
        obtain ⟨cells, h1, h2⟩ := hg
        refine hdoes (hwr (by simp)) _ _ (he cells h1) ?_
        rw [hd]; exact h2
    | no =>
      simp only at hg
      cases hc : callA σ o.op with
      | none => rw [hc] at hg; exact hg.elim
      | some fa =>
        obtain ⟨f, args⟩ := fa
        rw [hc] at hg
        unfold callA at hc
        split at hc
        · rename_i g as tys hop
          have hw : wrB o = true := by unfold wrB; rw [hop]
          have hF : ∀ a' W', holdsH h W' → wpT P Q (holdsH h) K a' W' → F a' W' := fun a' W' h1 h2 => hF a' W' h1 (fun h => by rw [hw] at h; cases h) h2
          obtain ⟨hgg, hgb⟩ := hR.get g
          generalize hgv : a.eval g = gv at hgg
          split at hc
          · rename_i f' caps hgf
            simp only [Option.some.injEq, Prod.mk.injEq, bindA_eq] at hc
            obtain ⟨rfl, rfl⟩ := hc
            rw [hgf] at hgg hgb
            cases hgg with
            | f _ _ _ us hl hcv =>
              cases hgb with
              | f _ _ hgb =>
                have hcall := hg h E a W (us.take (f' / 1000000) ++ (as.toList.map a.eval ++ us.drop (f' / 1000000))) hh hR (by simp [hl]) (by
                  intro i x u hx hu
                  have hcap : ∀ i x u, caps[i]? = some x → us[i]? = some u → RAV E true x u ∧ Bl σ.own.length x := fun i x u hx hu => ⟨hcv _ x u hx hu, hgb x (List.mem_of_getElem? hx)⟩
                  have hkl : (caps.take (f' / 1000000)).length = (us.take (f' / 1000000)).length := by simp [hl]
                  by_cases hi : i < (caps.take (f' / 1000000)).length
                  · rw [List.getElem?_append_left hi] at hx
                    rw [List.getElem?_append_left (hkl ▸ hi)] at hu
                    have hlt : i < f' / 1000000 := Nat.lt_of_lt_of_le hi (List.length_take_le _ _)
                    rw [List.getElem?_take_of_lt hlt] at hx hu
                    exact hcap i x u hx hu
                  · rw [List.getElem?_append_right (by omega)] at hx
                    rw [List.getElem?_append_right (by omega)] at hu
                    rw [← hkl] at hu
                    generalize i - (caps.take (f' / 1000000)).length = i at hx hu
                    by_cases hi : i < as.toList.length
                    · rw [List.getElem?_append_left (by simpa using hi)] at hx hu
                      simp only [List.getElem?_map] at hx hu
                      cases hq : as.toList[i]? with
                      | none => rw [hq] at hx; cases hx
                      | some y => rw [hq] at hx hu; simp at hx hu; subst hx; subst hu; exact hR.get y
                    · rw [List.getElem?_append_right (by simp; simpa using hi)] at hx hu
                      simp only [List.length_map, List.getElem?_drop] at hx hu
                      exact hcap _ x u hx hu)
                have hex : (execOp a.eval o).run P W = (callFunc (f' % 1000000) (us.take (f' / 1000000) ++ (as.toList.map a.eval ++ us.drop (f' / 1000000))).toArray).run P W := by
                  have he1 : Array.map a.eval as = (as.toList.map a.eval).toArray := by apply Array.ext'; simp
                  simp [execOp, hop, resolve, Deferred.ofValue, hgv, invoke, he1]
                unfold Oper.wp
                rw [hex]
                rcases hcall with ⟨⟨fn, hf1, hf2, hf3⟩, hcalls⟩ | ⟨u, W', hrun, hk⟩
                · have : (callFunc (f' % 1000000) (us.take (f' / 1000000) ++ (as.toList.map a.eval ++ us.drop (f' / 1000000))).toArray).run P W = .ok (.enter (f' % 1000000) (us.take (f' / 1000000) ++ (as.toList.map a.eval ++ us.drop (f' / 1000000))).toArray) W := by
                    have hf2' : ¬ (fn.name = "runtime.NumGoroutine") := by simpa using hf2
                    obtain ⟨c, hc⟩ : ∃ c, fn.body = some c := Option.isSome_iff_exists.1 (by cases hb : fn.body <;> simp_all)
                    simp [callFunc, hf1, hf2', hc, Result.andThen]
                  rw [this]
                  refine hcalls.mono fun e W' ⟨v, he, hv⟩ => ?_
                  subst he
                  exact hF _ _ hv.1 hv.2
                · rw [hrun]; exact hF _ _ hk.1 hk.2
          · cases hc
        · cases hc
theorem opRead_ok (hA:A = std) (hT:TabOK P T) (hR:Rel W0 mine kn E σ a W) {all:Array Oper} {o:Oper} {K:List Item} (hw:Region.wanted o (yielded all a.tmps) = true) (hne:opR A T σ o.op ≠ .no)
  (hg:match opStep A T σ o K with | .run K σ => AW P Q W0 mine kn K σ | .stop s=>Good P Q W0 mine kn s | .none=>False):∃ v,YieldsIf P all (fun w' => w' = W) o v a ∧ wpT P Q (holdsH E.h) K (a.put o.dst v) W:=by
 have hr:=opR_ok (P:=P) (T:=T) (o:=o) hA hT hR.mem (fun x=>(hR.get x).1)
 have hrb:=opR_bl (A:=A) (T:=T) hR o.op
 have hreads:∀ x,Reads P E σ.own W a.eval o x → (∀ u,RAV E true x u → Bl σ.own.length x) → AW P Q W0 mine kn K (σ.put o.dst x) → ∃ v,YieldsIf P all (fun w' => w' = W) o v a ∧ wpT P Q (holdsH E.h) K (a.put o.dst v) W:=by
  rintro x ⟨u,hu,hrun⟩ hx hk
  exact ⟨u,.inl ⟨hw,fun w hS=>by rw [hS]; exact hrun W hR.mem.snap⟩,hk E.h E _ W (fun _ _ h=>h) (hR.put hu (hx u hu))⟩
 unfold opStep at hg
 generalize opR A T σ o.op = rr at hr hrb hg hne
 cases rr with
 | ok x=>exact hreads x hr (fun _ _=>hrb) hg
 | need p x=>exact hreads x (hr hg.1) (fun _ _=>hrb) hg.2
 | idx es m q =>
  obtain ⟨i,cells,h1,h2,h3⟩:=hg
  refine hreads _ (hr i cells h1 h2) (fun _ _=>?_) h3
  cases q with
  | none=>exact .ip _
  | some q=>exact .q _ _ _ _ hrb
 | ldq es i off size agg =>
  obtain ⟨cells,h1,h2⟩:=hg
  obtain ⟨h3,h4⟩:=hr cells h1
  exact hreads _ h3 (fun _ _=>h4.mono (Nat.zero_le _)) h2
 | str es =>
  obtain ⟨s,h1,h2⟩:=hg
  exact hreads _ (hr s h1) (fun _ _=>.v _) h2
 | idxw k sz lo n z =>
  obtain ⟨i,j,h1,h2,h3,h4⟩:=hg
  exact hreads _ (hr i j h1 h2 h3) (fun _ _=>.q _ _ _ _ hrb) h4
 | cutr k sz es l h =>
  obtain ⟨b,m,h1,h2⟩:=hg
  exact hreads _ (hr b m h1) (fun _ _=>.w _ _ _ _ hrb) h2
 | cutw k sz lo n l h =>
  obtain ⟨b,m,lo', h1,h2,h3⟩:=hg
  exact hreads _ (hr b m lo' h1 h2) (fun _ _=>.w _ _ _ _ hrb) h3
 | coin neg es =>
  obtain ⟨b,h1,h2⟩:=hr
  exact hreads _ h2 (fun _ _=>.b _) (hg b h1)
 | ixa k off sz n z =>
  obtain ⟨i,h1,h2,h3⟩:=hg
  exact hreads _ (hr i h1 h2) (fun _ _=>.p _ _ hrb) h3
 | no=>exact absurd rfl hne
theorem opLook_ok (hA:A = std) (hT:TabOK P T) (hR:Rel W0 mine kn E σ a W) {all:Array Oper} {o:Oper} {K:List Item} (hw:Region.wanted o (yielded all a.tmps) = true)
  (hg:match opLook A T σ o K with | .run K σ => AW P Q W0 mine kn K σ | .stop s=>Good P Q W0 mine kn s | .none=>False):∃ v,YieldsIf P all (holdsH E.h) o v a ∧ wpT P Q (holdsH E.h) K (a.put o.dst v) W:=by
 have hget:∀ x,({ tm:=σ.tm,own:=[] }:St).get x = σ.get x:=fun x=>by cases x <;> rfl
 have hM0:Mem W0 mine ⟨kn.is,fun _=>none,fun _=>none⟩ E ({ tm:=σ.tm,own:=[] }:St).own W:=by
  have hM:=hR.mem
  exact ⟨hM.os,hM.tape,hM.output,hM.size,hM.keep,hM.facts,hM.old,fun k ob h=>by simp at h,fun k k' ob ob' h=>by simp at h,fun k ob h=>by simp at h,fun k b h=>(by cases h),fun b o h=>(by cases h)⟩
 have hr:=opR_ok (P:=P) (T:=T) (o:=o) hA hT hM0 (ev:=a.eval) (fun x=>by rw [hget]; exact (hR.get x).1)
 have hown:=opR_own (A:=A) (T:=T) (σ:=σ) o.op
 have hrb:=opR_bl (A:=A) (T:=T) hR o.op
 have hgo:∀ x,Reads P E [] W a.eval o x → (∀ u,RAV E true x u → Bl σ.own.length x) → AW P Q W0 mine kn K (σ.put o.dst x) → ∃ v,YieldsIf P all (holdsH E.h) o v a ∧ wpT P Q (holdsH E.h) K (a.put o.dst v) W:=by
  rintro x ⟨u,hu,hrun⟩ hx hk
  exact ⟨u,.inl ⟨hw,fun w hS=>hrun w ⟨hS,fun k ob h=>by simp at h⟩⟩,hk E.h E _ W (fun _ _ h=>h) (hR.put hu (hx u hu))⟩
 unfold opLook at hg
 generalize opR A T { tm:=σ.tm,own:=[] } o.op = rr at hr hown hg
 cases rr with
 | ok x =>
  rw [hown (by simp)] at hrb
  exact hgo x hr (fun _ _=>hrb) hg
 | need p x =>
  rw [hown (by simp)] at hrb
  exact hgo x (hr hg.1) (fun _ _=>hrb) hg.2
 | idx es m q =>
  cases q with
  | none =>
   obtain ⟨i,cells,h1,h2,h3⟩:=hg
   exact hgo _ (hr i cells h1 h2) (fun _ _=>.ip _) h3
  | some q=>exact hg.elim
 | ldq es i off size agg=>exact hg.elim
 | str es =>
  obtain ⟨s,h1,h2⟩:=hg
  exact hgo _ (hr s h1) (fun _ _=>.v _) h2
 | idxw k sz lo n z =>
  rw [hown (by simp)] at hrb
  obtain ⟨i,j,h1,h2,h3,h4⟩:=hg
  exact hgo _ (hr i j h1 h2 h3) (fun _ _=>.q _ _ _ _ hrb) h4
 | cutr=>exact hg.elim
 | cutw=>exact hg.elim
 | coin=>exact hg.elim
 | ixa=>exact hg.elim
 | no=>exact hg.elim
theorem pickI_yes {f:Nat → Bool}:∀ {l:List Nat} {i:Nat},pickI f l = some i → f i = true
 | [],_,h=>by cases h
 | j :: l,i,h=>by
  simp only [pickI] at h
  split at h
  ·rename_i hj; cases h; exact hj
  ·exact pickI_yes h
theorem pickI_mem {f:Nat → Bool}:∀ {l:List Nat} {i:Nat},pickI f l = some i → i ∈ l
 | [],_,h=>by cases h
 | j :: l,i,h=>by
  simp only [pickI] at h
  split at h
  ·cases h; simp
  ·exact List.mem_cons_of_mem _ (pickI_mem h)
theorem put_same {d:Nat} {x:Bool} (hv:a.tmps.getD d undef = .bool x):a.put (some d) (.bool x) = a:=by
 have:a.tmps.setIfInBounds d (.bool x) = a.tmps:=by
  apply Array.ext_getElem?
  intro i
  by_cases hid:d = i
  ·subst hid
   rw [Array.getElem?_setIfInBounds]
   by_cases hlt:d < a.tmps.size
   ·rw [if_pos rfl,if_pos hlt]
    rw [Array.getD_eq_getD_getElem?,Array.getElem?_eq_getElem hlt] at hv
    rw [Array.getElem?_eq_getElem hlt]; exact congrArg some hv.symm
   ·rw [if_pos rfl,if_neg hlt,Array.getElem?_eq_none (by omega)]
  ·rw [Array.getElem?_setIfInBounds_ne hid]
 simp [Act.put,this]
theorem split_ok {h:Nat → Option Obj} (hh:∀ b o,h b = some o → E.h b = some o) (hR:Rel W0 mine kn E σ a W) {d:Nat} {x:Bool} (hv:a.tmps.getD d undef = .bool x) {K:List Item}
  (hg:Good P Q W0 mine kn (.split x K (σ.put (some d) (.v (.bool true))) K (σ.put (some d) (.v (.bool false))))):wpT P Q (holdsH h) K a W:=by
 have hput:=put_same hv
 cases x with
 | true =>
  have:=hg.1 rfl h E (a.put (some d) (.bool true)) W hh (hR.put (d:=some d) (.v _ _ rfl) (.v _))
  rwa [hput] at this
 | false =>
  have:=hg.2 rfl h E (a.put (some d) (.bool false)) W hh (hR.put (d:=some d) (.v _ _ rfl) (.v _))
  rwa [hput] at this
theorem forks_good {f:Nat → Stop}:∀ (l:List Nat),Good P Q W0 mine kn (forks f l) → ∀ i ∈ l,Good P Q W0 mine kn (f i)
 | [],_,i,hi=>by simp at hi
 | [j],h,i,hi=>by simp at hi; subst hi; exact h
 | j :: k :: l,h,i,hi=>by
  rcases List.mem_cons.1 hi with rfl|hi
  ·exact h.1
  ·exact forks_good (k :: l) h.2 i hi
theorem run_good (hA:A = std) (hT:TabOK P T) (hM:P.follows .mixedOrders = true) (hQ:∀ c (a:Act) d v w,Q (.panic c) (a.put d v) w → Q (.panic c) a w) :
  ∀ (n:Nat) (K:List Item) (σ : St),Good P Q W0 mine kn (run A T n K σ) → AW P Q W0 mine kn K σ
 | 0,K,σ,h=>h.2
 | n + 1,[],σ,h=>fun _ E a W _ hR=>h E a W hR
 | n + 1,.blk id :: K,σ,h=>fun _ E a W _ hR=>(run_good hA hT hM hQ n K σ h).to0 E a W hR
 | n + 1,.back B :: K,σ,h=>fun _ E a W _ hR=>h E a W hR
 | n + 1,.ops all [] :: K,σ,h=>fun _ E a W _ hR=>(run_good hA hT hM hQ n K σ h).to0 E a W hR
 | n + 1,.ops all (o :: os) :: K,σ,h=>fun hp E a W hh hR=>by
  have hwd:=wanted_of hR (all:=all) (o:=o)
  simp only [run] at h
  generalize wantA all σ o = wd at hwd h
  cases wd with
  | stuck=>exact h.elim
  | no =>
   have:=(run_good hA hT hM hQ n _ _ h).to0 E _ W (hR.unwanted o.dst)
   show wpList P all (wp0 P Q K) (o :: os) a W
   unfold wpList
   rw [if_neg (by rw [show Region.wanted o (yielded all a.tmps) = false from hwd]; simp)]
   exact this
  | ask d x=>exact split_ok hh hR hwd h
  | yes =>
   have hw:Region.wanted o (yielded all a.tmps) = true:=hwd
   simp only at h
   show wpList P all (wp0 P Q K) (o :: os) a W
   unfold wpList
   rw [if_pos hw]
   cases hsr:opStep A T σ o (.ops all os :: K) with
   | none =>
    rw [hsr] at h
    have h2:wpList P all (wp0 P Q K) (o :: os) a W:=(show AW P Q W0 mine kn (.ops all (o :: os) :: K) σ from h) hp E a W hh hR
    unfold wpList at h2
    rwa [if_pos hw] at h2
   | run K' σ' =>
    rw [hsr] at h
    refine .inl (opStep_ok hA hT (h:=hp) hh hR (K:=.ops all os :: K) (F:=wpList P all (wp0 P Q K) os) (fun a' W' _ _ h2=>h2.to0) ?_)
    rw [hsr]
    exact run_good hA hT hM hQ n K' σ' h
   | stop s =>
    rw [hsr] at h
    refine .inl (opStep_ok hA hT (h:=hp) hh hR (K:=.ops all os :: K) (F:=wpList P all (wp0 P Q K) os) (fun a' W' _ _ h2=>h2.to0) ?_)
    rw [hsr]
    exact h
 | n + 1,.drx all hk m b :: K,σ,h=>fun hp E a W hh hR=>by
  show wpAnyM P all (wp0 P Q K) (holdsH hp) m (lst all.size b) a W
  simp only [run] at h
  cases hready:rdM b all.toList 0 with
  | nil =>
   rw [hready] at h
   exact wpAnyM_done (by
    refine List.eq_nil_iff_forall_not_mem.2 fun j hj=>?_
    have:=(rdM_ready hk).2 hj
    rw [hready] at this; cases this) ((run_good hA hT hM hQ n K σ h).to0 E a W hR) m
  | cons i0 rs =>
   rw [hready] at h
   cases m with
   | zero=>exact h.elim
   | succ m =>
    simp only at h
    cases hpick:pickI (looksX A T σ all) (i0 :: rs) with
    | some i =>
     rw [hpick] at h
     simp only at h
     cases hi:all.toList[i]? with
     | none=>rw [hi] at h; exact h.elim
     | some o =>
      rw [hi] at h
      simp only at h
      have hi' : all[i]? = some o:=by simpa using hi
      have hmem:i ∈ rdM b all.toList 0:=by rw [hready]; exact pickI_mem hpick
      have hwd:=wanted_of hR (all:=all) (o:=o)
      generalize wantA all σ o = wd at hwd h
      have htake:∀ v,YieldsIf P all (holdsH E.h) o v a → wpT P Q (holdsH E.h) (.drx all hk m (setM b i) :: K) (a.put o.dst v) W →
        wpAnyM P all (wp0 P Q K) (holdsH hp) (m + 1) (lst all.size b) a W:=by
       intro v hy hrest
       exact wpAnyM_mono (S' := holdsH E.h) (fun w hw b o hb=>hw b o (hh b o hb)) _ _ _ _
        (wpAnyM_takeX hk hi' hmem (fun c a w hq=>wp0_panic hQ K c a _ v w hq) hy (holdsH.of hR (fun _ _ h=>h)) hrest)
      cases wd with
      | stuck=>exact h.elim
      | no =>
       simp only at h
       exact htake undef (.inr ⟨hwd,rfl⟩) (run_good hA hT hM hQ n _ _ h E.h E _ W (fun _ _ h=>h) (hR.unwanted o.dst))
      | ask d x=>exact split_ok hh hR hwd h
      | yes =>
       simp only at h
       ·obtain ⟨v,hy,hrest⟩:=opLook_ok (Q:=Q) hA hT hR (all:=all) (o:=o) (K:=.drx all hk m (setM b i) :: K) hwd (by
         generalize opLook A T σ o (.drx all hk m (setM b i) :: K) = sr at h
         cases sr with
         | run K' σ' => exact run_good hA hT hM hQ n K' σ' h
         | stop s=>exact h
         | none=>exact h.elim)
        exact htake v hy hrest
    | none =>
     rw [hpick] at h
     simp only at h
     cases hcalm:pickI (calmX A T σ all b) (i0 :: rs) with
     | some i =>
      rw [hcalm] at h
      simp only at h
      have hc:=pickI_yes hcalm
      unfold calmX at hc
      cases hi:all.toList[i]? with
      | none=>rw [hi] at h; exact h.elim
      | some o =>
       rw [hi] at h hc
       simp only at h hc
       have hi' : all[i]? = some o:=by simpa using hi
       have hmem:i ∈ rdM b all.toList 0:=by rw [hready]; exact pickI_mem hcalm
       have hwd:=wanted_of hR (all:=all) (o:=o)
       generalize wantA all σ o = wd at hwd hc
       cases wd with
       | yes =>
        simp only at hc
        have hne:opR A T σ o.op ≠ .no:=fun he=>by rw [he] at hc; cases hc
        have hfs:calmM all b i = true:=by
         cases hq:opR A T σ o.op <;> rw [hq] at hc <;> first|exact hc|cases hc
        obtain ⟨v,hy,hrest⟩:=opRead_ok (Q:=Q) hA hT hR (all:=all) (o:=o) (K:=.drx all hk m (setM b i) :: K) hwd hne (by
         generalize opStep A T σ o (.drx all hk m (setM b i) :: K) = sr at h
         cases sr with
         | run K' σ' => exact run_good hA hT hM hQ n K' σ' h
         | stop s=>exact h
         | none=>exact h.elim)
        exact wpAnyM_mono (S' := holdsH E.h) (fun w hw b o hb=>hw b o (hh b o hb)) _ _ _ _
         (wpAnyM_takeC hk hi' hmem hfs (fun c a w hq=>wp0_panic hQ K c a _ v w hq) hy (holdsH.of hR (fun _ _ h=>h)) hrest)
       | _=>cases hc
     | none =>
     rw [hcalm] at h
     simp only at h
     refine ⟨fun h0=>absurd ((rdM_ready hk (b:=b) (j:=i0)).1 (by rw [hready]; simp)) (by rw [h0]; simp),fun i hi2=>?_⟩
     have hi2' := hi2
     replace hi2:=(rdM_ready hk).2 hi2
     rw [hready] at hi2
     rw [lst_set]
     have h:=forks_good _ h i hi2
     try simp only at h
     cases hi:all.toList[i]? with
     | none=>rw [hi] at h; exact h.elim
     | some o =>
      rw [hi] at h
      simp only at h
      have hi' : all[i]? = some o:=by simpa using hi
      have hwd:=wanted_of hR (all:=all) (o:=o)
      generalize wantA all σ o = wd at hwd h
      cases wd with
      | stuck=>exact h.elim
      | no =>
       have hR' := hR.unwanted o.dst
       have:=run_good hA hT hM hQ n _ _ h hp E _ W hh hR'
       unfold wpOp
       simp only [hi']
       rw [if_neg (by rw [show Region.wanted o (yielded all a.tmps) = false from hwd]; simp)]
       exact ⟨holdsH.of hR hh,by simp,this⟩
      | ask d x =>
       have:=split_ok hh hR hwd h
       have h9:=this.2 i hi2'
       rw [lst_set] at h9
       exact h9
      | yes =>
       unfold wpOp
       simp only [hi']
       rw [if_pos (show Region.wanted o (yielded all a.tmps) = true from hwd)]
       simp only at h
       refine .inl (opStep_ok hA hT (h:=hp) hh hR (K:=.drx all hk m (setM b i) :: K) (fun a' W' h1 h2 h3=>⟨h1,fun hw=>h2 (by simpa [wrAt,hi] using hw),h3⟩) ?_)
       generalize opStep A T σ o (.drx all hk m (setM b i) :: K) = sr at h
       cases sr with
       | run K' σ' => exact run_good hA hT hM hQ n K' σ' h
       | stop s=>exact h
       | none=>exact h.elim
 | n + 1,.c .skip :: K,σ,h=>fun _ E a W _ hR=>wp_skip ((run_good hA hT hM hQ n K σ h).to0 E a W hR)
 | n + 1,.c (.label l) :: K,σ,h=>fun _ E a W _ hR=>wp_label ((run_good hA hT hM hQ n K σ h).to0 E a W hR)
 | n + 1,.c (.seq x y) :: K,σ,h=>fun _ E a W _ hR=>by
  have:=(run_good hA hT hM hQ n _ σ h).to0 E a W hR
  refine wp_seq (wp_mono this fun e a w hq=>?_)
  cases e <;> exact hq
 | n + 1,.c (.block id x) :: K,σ,h=>fun _ E a W _ hR=>by
  have:=(run_good hA hT hM hQ n _ σ h).to0 E a W hR
  refine wp_block (wp_mono this fun e a w hq=>?_)
  cases e with
  | exit i=>simpa [wp0,Exit.inBlock] using hq
  | _=>exact hq
 | n + 1,.c (.exit id) :: K,σ,h=>fun _ E a W _ hR=>by
  simp only [run] at h
  cases hk:exitTo id K with
  | none=>rw [hk] at h; exact h.elim
  | some K' => rw [hk] at h; exact wp_exit (wpT_exit K K' a W hk ((run_good hA hT hM hQ n K' σ h).to0 E a W hR))
 | n + 1,.c .ret :: K,σ,h=>Good.aw_ret h
 | n + 1,.c (.region id os false) :: K,σ,h=>fun _ E a W _ hR=>by
  have:=(run_good hA hT hM hQ n _ σ h).to0 E a W hR
  exact wp_region_list this
 | n + 1,.c (.region id os true) :: K,σ,h=>fun _ E a W _ hR=>by
  obtain ⟨hk,h⟩:=(show ∃ hk:okReg os = true,AW P Q W0 mine kn (.drx os hk os.size 0 :: K) σ from h)
  have h1:=h E.h E a _ (fun _ _ h=>h) hR.drew
  have h2:wpAnyM P os (wp0 P Q K) (holdsH E.h) os.size (lst os.size 0) a { W with drawn:=W.drawn + 1 }:=h1
  rw [lst_zero] at h2
  exact wp_region_any hM (wpAny_of_M _ _ _ _ h2)
 | n + 1,.c (.cond o x y) :: K,σ,h=>fun _ E a W _ hR=>by
  obtain ⟨ho,_⟩:=hR.get o
  simp only [run] at h
  split at h
  ·rename_i hv; rw [hv] at ho
   exact wp_cond_true ho.vInv ((run_good hA hT hM hQ n _ σ h).to0 E a W hR)
  ·rename_i hv; rw [hv] at ho
   exact wp_cond_false ho.vInv ((run_good hA hT hM hQ n _ σ h).to0 E a W hR)
  ·rename_i b hv; rw [hv] at ho
   exact wp_cond_split ho.bInv (fun hb=>(h.1 hb).to0 E a W hR) (fun hb=>(h.2 hb).to0 E a W hR)
  ·exact h.elim
 | n + 1,.c (.loop x) :: K,σ,h=>h
 | n + 1,.c (.rangeFunc f ps as b) :: K,σ,h=>h.elim
 | n + 1,.c (.scope x) :: K,σ,h=>h.elim
 | n + 1,.c (.goto l) :: K,σ,h=>h.elim
 | n + 1,.c (.refuse w) :: K,σ,h=>h.elim
end
end Go.AE
