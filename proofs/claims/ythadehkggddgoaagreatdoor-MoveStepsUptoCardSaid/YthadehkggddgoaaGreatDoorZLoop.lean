/- What all walks of this seat use: short words; bytes and digits as elements. Contracts of Go's library at this dump, for walks. The table that the library's functions read, out of a row's own conditions. strings.Trim in this program (the laid facts were printed by the kit's tool for contracts of the shelf). Loops over lists, for walks. Loops over lists that grow own rows, for walks. -/
import Derived.Test.YthadehkggddgoaaGreatDoorZTypes
import Derived.Test.YthadehkggddgoaaGreatDoorAE14
import Derived.Test.YthadehkggddgoaaGreatDoorZLibA
import Derived.Test.YthadehkggddgoaaGreatDoorZLibT
import Derived.Test.YthadehkggddgoaaGreatDoorZBits
import Derived.Lib.LaidTab
import Derived.MakeChecks
import Derived.Test.YthadehkggddgoaaGreatDoorZData
section
section
set_option linter.unusedVariables false
namespace Go.Proofs.YthadehkggddgoaaGreatDoor
open Go
def bodyOf (f:Func):Code:=f.body.getD .skip
theorem mixed:Tryz.prog.follows .mixedOrders = true:=by kernel_rfl
theorem bl_ex:∃ g:List UInt8 → List (List AE.AV),∀ l,g l = l.map fun b=>[.v (.int .u8 b.toNat)]:=⟨_,fun _=>rfl⟩
noncomputable def bl:List UInt8 → List (List AE.AV):=bl_ex.choose
theorem bl_eq (l:List UInt8):bl l = l.map fun b=>[.v (.int .u8 b.toNat)]:=bl_ex.choose_spec l
theorem wl_ex:∃ g:List Nat → List (List AE.AV),∀ l,g l = l.map fun b=>[.v (.int .u32 b)]:=⟨_,fun _=>rfl⟩
noncomputable def wl:List Nat → List (List AE.AV):=wl_ex.choose
theorem wl_eq (l:List Nat):wl l = l.map fun b=>[.v (.int .u32 b)]:=wl_ex.choose_spec l
theorem ql_ex:∃ g:List Nat → List (List AE.AV),∀ l,g l = l.map fun b=>[.v (.int .u64 b)]:=⟨_,fun _=>rfl⟩
noncomputable def ql:List Nat → List (List AE.AV):=ql_ex.choose
theorem ql_eq (l:List Nat):ql l = l.map fun b=>[.v (.int .u64 b)]:=ql_ex.choose_spec l
theorem bl_len (l:List UInt8):(bl l).length = l.length:=by simp [bl_eq]
theorem wl_len (l:List Nat):(wl l).length = l.length:=by simp [wl_eq]
theorem ql_len (l:List Nat):(ql l).length = l.length:=by simp [ql_eq]
theorem bl_get {l:List UInt8} {i:Nat} {b:UInt8} (h:l[i]? = some b):(bl l)[i]? = some [.v (.int .u8 b.toNat)]:=by simp [bl_eq,h]
theorem wl_get {l:List Nat} {i d:Nat} (h:l[i]? = some d):(wl l)[i]? = some [.v (.int .u32 d)]:=by simp [wl_eq,h]
theorem ql_get {l:List Nat} {i d:Nat} (h:l[i]? = some d):(ql l)[i]? = some [.v (.int .u64 d)]:=by simp [ql_eq,h]
theorem bl_set (l:List UInt8) (i:Nat) (b:UInt8):(bl l).set i [.v (.int .u8 b.toNat)] = bl (l.set i b):=by rw [bl_eq,bl_eq,List.map_set]
theorem wl_set (l:List Nat) (i d:Nat):(wl l).set i [.v (.int .u32 d)] = wl (l.set i d):=by rw [wl_eq,wl_eq,List.map_set]
theorem ql_set (l:List Nat) (i d:Nat):(ql l).set i [.v (.int .u64 d)] = ql (l.set i d):=by rw [ql_eq,ql_eq,List.map_set]
theorem bl_sbytes {l:List UInt8} {s:ByteArray} (h:s.data.toList = l):bl l = AE.sbytes s:=by rw [bl_eq,AE.sbytes_eq,h]
theorem bl_rep (n:Nat):List.replicate n [AE.AV.v (.int .u8 0)] = bl (List.replicate n 0):=by rw [bl_eq,List.map_replicate]; rfl
theorem wl_rep (n:Nat):List.replicate n [AE.AV.v (.int .u32 0)] = wl (List.replicate n 0):=by rw [wl_eq,List.map_replicate]; rfl
theorem ql_rep (n:Nat):List.replicate n [AE.AV.v (.int .u64 0)] = ql (List.replicate n 0):=by rw [ql_eq,List.map_replicate]; rfl
theorem slen {A:AE.Ari} (hA:A = AE.std) (s:ByteArray):A.slen s = (s.size:Int):=by subst hA; rfl
theorem llen {A:AE.Ari} (hA:A = AE.std) (es:List (List AE.AV)):A.llen es = (es.length:Int):=by subst hA; rfl
end Go.Proofs.YthadehkggddgoaaGreatDoor
end
section
set_option linter.unusedVariables false
set_option linter.unusedSimpArgs false
namespace Go.Proofs.YthadehkggddgoaaGreatDoor
open Go Go.Num
theorem enters {f:Nat} {fn:Func} (h:Tryz.prog.funcs[f]? = some fn) (h1:(fn.name == "runtime.NumGoroutine") = false) (h2:fn.body.isNone = false):AE.Enters Tryz.prog f:=⟨fn,h,h1,h2⟩
structure LibOK (W:World):Prop where
 tz:TabAt 1 Lib.deBruijn64tab W
def GG (h:Nat → Option Obj):Prop:=∀ W:World,(∀ b o,h b = some o → W.heap[b]? = some o) → LibOK W
theorem GG_stays:AE.Stays GG:=fun h h' hh hg W hW=>hg W fun b o hb=>hW b o (hh b o hb)
theorem compare_ok (a b:ByteArray) (r:Int) (hr:r = Lib.compareBytes a.data.toList b.data.toList):AE.ACall Tryz.prog 167 [] [.v (.string a),.v (.string b)] [] (.v (.int .i64 r)):=by
 subst hr
 exact AE.ACall.of_calls (args:=[.string a,.string b]) (enters Tryz.func167 rfl rfl) rfl (fun _ _ _ h=>by simp at h) fun W=>(Tryz.strings_Compare a b W).mono fun e w' ⟨h1,h2⟩=>⟨h1,h2 ▸ AE.Grew.refl _⟩
theorem compare_val:∀ {a b:List UInt8},a.length = b.length → Lib.compareBytes a b = if val a < val b then -1 else if val b < val a then 1 else 0
 | [],[],_=>by simp [Lib.compareBytes]
 | x :: a,y :: b,hl=>by
  have hl' : a.length = b.length:=by simpa using hl
  have ha:=val_lt a
  have hb:=val_lt b
  rw [hl'] at ha
  have hP:0 < 256 ^ b.length:=Nat.pow_pos (by decide)
  rw [Lib.compareBytes,compare_val hl', val_cons,val_cons,hl']
  by_cases h1:x < y
  ·have h1' : x.toNat + 1 ≤ y.toNat:=h1
   have:=Nat.mul_le_mul_right (256 ^ b.length) h1'
   rw [Nat.add_mul] at this
   rw [if_pos h1,if_pos (by omega)]
  ·by_cases h2:y < x
   ·have h2' : y.toNat + 1 ≤ x.toNat:=h2
    have:=Nat.mul_le_mul_right (256 ^ b.length) h2'
    rw [Nat.add_mul] at this
    rw [if_neg h1,if_pos h2,if_neg (by omega),if_pos (by omega)]
   ·have he:x.toNat = y.toNat:=by
     have e1:¬ x.toNat < y.toNat:=h1
     have e2:¬ y.toNat < x.toNat:=h2
     omega
    have e3:(y.toNat * 256 ^ b.length + val a < y.toNat * 256 ^ b.length + val b) ↔ val a < val b:=by omega
    have e4:(y.toNat * 256 ^ b.length + val b < y.toNat * 256 ^ b.length + val a) ↔ val b < val a:=by omega
    rw [if_neg h1,if_neg h2,he]
    simp only [e3,e4]
 | [],_ :: _,hl=>by simp at hl
 | _ :: _,[],hl=>by simp at hl
theorem lz32_ok (d:Nat) (hd:d < 2 ^ 32) (x r:Int) (hx:x = d) (hr:r = 32 - (Lib.bitLen d:Int)):AE.ACall Tryz.prog 226 [] [.v (.int .u32 x)] [] (.v (.int .i64 r)):=by
 subst hr; subst hx
 exact AE.ACall.of_calls (args:=[.int .u32 (d:Int)]) (enters Tryz.func226 rfl rfl) rfl (fun _ _ _ h=>by simp at h) fun W=>(Tryz.bits_LeadingZeros32 (d:Int) W (Int.natCast_nonneg _) (by omega)).mono fun e w' ⟨h1,h2⟩=>⟨h1,h2 ▸ AE.Grew.refl _⟩
theorem tz64_ok (d:Nat) (hd:d < 2 ^ 64) (x r:Int) (hx:x = d) (hr:r = (Lib.ctz 64 d:Int)):AE.ACallG GG Tryz.prog 236 [] [.v (.int .u64 x)] [] (.v (.int .i64 r)):=by
 subst hr; subst hx
 exact AE.ACallG.of_calls (args:=[.int .u64 (d:Int)]) (enters Tryz.func236 rfl rfl) rfl (fun _ _ _ h=>by simp at h) fun W h0 hW hG=>(Any7.bits_TrailingZeros64 Tryz.lays29 d (by omega) W fun _=>(hG W hW).tz).mono fun e w' ⟨h1,h2⟩=>⟨h1,h2 ▸ AE.Grew.refl _⟩
end Go.Proofs.YthadehkggddgoaaGreatDoor
end
section
set_option linter.unusedVariables false
namespace Go.Proofs.YthadehkggddgoaaGreatDoor
open Go
theorem tab_at {P:Program} {W:World} {name:String} {g:Nat} {l:List Nat} (hg:P.globalNamed name = some g) (h:Lib.TabIs P W name .u8 (l.map fun n:Nat=>(n:Int))):TabAt g l W:=by
 unfold Lib.TabIs World.var? at h
 rw [hg] at h
 simp only [Option.bind_some] at h
 intro j hj
 cases ho:W.heap[g]? with
 | none=>simp [ho] at h
 | some o =>
  rw [ho] at h
  cases o with
  | cells cs t fr =>
   simp only [Option.some.injEq] at h
   subst h
   simp only [World.cell?,ho]
   simp [hj]
  | _=>cases h
theorem gg_of {W:World} (h:LibOK W):GG (fun b=>W.heap[b]?):=by
 intro W' hW
 refine ⟨fun j hj=>?_⟩
 have h1:=h.tz j hj
 unfold World.cell? at h1 ⊢
 cases hh:W.heap[(⟨1,j,none⟩:Addr).block]? with
 | none=>rw [hh] at h1; cases h1
 | some o=>rw [hW _ o hh]; rw [hh] at h1; exact h1
end Go.Proofs.YthadehkggddgoaaGreatDoor
end
end
section
section
set_option linter.unusedVariables false
namespace Go.Proofs.YthadehkggddgoaaGreatDoor
open Go Go.Num
variable {A:AE.Ari} {P:Program} {T:AE.Tab} {fn:Func} {n0:Nat} {own' : List AE.OB} {res:AE.AV} {GG:(Nat → Option Obj) → Prop}
theorem ranges (X:AE.Walk A P T fn n0 own' res GG) {x:Code} {K:List AE.Item} {σ : AE.St} (b n:Nat) (I:Nat → Prop) (ps:Int → Nat → List (Nat × AE.AV)) (own:Nat → List AE.OB) (i0:I 0) (h0:AE.Says n0 σ (σ.carry x (ps b 0) (own 0)))
  (step:∀ (i:Nat) (z:Int),z = ((b + i:Nat):Int) → i < n → I i → ∀ B:Act → World → Prop,(∀ z' : Int,z' = ((b + i + 1:Nat):Int) → I (i + 1) → ∀ σ' : AE.St,AE.Says n0 σ' (σ.carry x (ps z' (i + 1)) (own (i + 1))) → X.G (.back B σ')) → X.H (.c x :: .back B :: K) (σ.carry x (ps z i) (own i)))
  (fin:∀ z:Int,z = ((b + n:Nat):Int) → I n → ∀ B:Act → World → Prop,X.H (.c x :: .back B :: K) (σ.carry x (ps z n) (own n))):X.G (.loop x K σ):=by
 refine X.carries (ι:={ p:Nat × Int // p.1 ≤ n ∧ p.2 = ((b + p.1:Nat):Int) ∧ I p.1 }) (fun p=>ps p.1.2 p.1.1) (fun p=>own p.1.1) (fun p=>n - p.1.1) ⟨(0,(b:Int)),Nat.zero_le _,rfl,i0⟩ h0 fun p B hB=>?_
 obtain ⟨⟨i,z⟩,hi,hz,hI⟩:=p
 by_cases h:i < n
 ·refine step i z hz h hI B fun z' hz' hI' σ' hs=>hB ⟨(i + 1,z'),h,hz', hI'⟩ σ' (by show n - (i + 1) < n - i; omega) hs
 ·have e:i = n:=by have:i ≤ n:=hi; omega
  subst e
  exact fin z hz hI B
theorem rangeL (X:AE.Walk A P T fn n0 own' res GG) (hA:A = AE.std) {x:Code} {K:List AE.Item} {σ : AE.St} {α : Type} {f:α → List AE.AV} {l:List α} {es:List (List AE.AV)} (hes:es = lsAv f l) (hl:l.length < 2 ^ 61) (I:Nat → Prop) (ps:Int → Nat → List (Nat × AE.AV)) (own:Nat → List AE.OB) (i0:I 0) (h0:AE.Says n0 σ (σ.carry x (ps 0 0) (own 0)))
  (step:∀ (i:Nat) (z:Int) (y:α),z = i → l[i]? = some y → es[i]? = some (f y) → A.cmp .lss z (A.llen es) = true → I i → ∀ B:Act → World → Prop,(I (i + 1) → ∀ σ' : AE.St,AE.Says n0 σ' (σ.carry x (ps (A.bin .add .i64 z 1) (i + 1)) (own (i + 1))) → X.G (.back B σ')) → X.H (.c x :: .back B :: K) (σ.carry x (ps z i) (own i)))
  (fin:∀ z:Int,A.cmp .lss z (A.llen es) = false → I l.length → ∀ B:Act → World → Prop,X.H (.c x :: .back B :: K) (σ.carry x (ps z l.length) (own l.length))):X.G (.loop x K σ):=by
 have hlen:A.llen es = (l.length:Int):=by rw [llen hA,hes,lsAv_len]
 refine ranges X 0 l.length I ps own i0 h0 (fun i z hz hi hI B hB=>?_) fun z hz hI B=>fin z (ltF hA hz hlen (by omega)) hI B
 rw [Nat.zero_add] at hz
 have hy:l[i]? = some l[i]:=List.getElem?_eq_getElem hi
 exact step i z l[i] hz hy (by rw [hes]; exact lsAv_get hy) (ltT hA hz hlen hi) hI B fun hI' σ' hs=>hB _ (by rw [Nat.zero_add]; exact addI hA hz (y:=1) (b:=1) rfl (by omega)) hI' σ' hs
theorem rangeL0 (X:AE.Walk A P T fn n0 own' res GG) (hA:A = AE.std) {x:Code} {K:List AE.Item} {σ : AE.St} {α : Type} {f:α → List AE.AV} {l:List α} {es:List (List AE.AV)} (hes:es = lsAv f l) (hl:l.length < 2 ^ 61) (I:Nat → Prop) (ps:Int → Nat → List (Nat × AE.AV)) (i0:I 0) (h0:AE.Says n0 σ (σ.carry x (ps 0 0) σ.own))
  (step:∀ (i:Nat) (z:Int) (y:α),z = i → l[i]? = some y → es[i]? = some (f y) → A.cmp .lss z (A.llen es) = true → I i → ∀ B:Act → World → Prop,(I (i + 1) → ∀ σ' : AE.St,AE.Says n0 σ' (σ.carry x (ps (A.bin .add .i64 z 1) (i + 1)) σ.own) → X.G (.back B σ')) → X.H (.c x :: .back B :: K) (σ.carry x (ps z i) σ.own))
  (fin:∀ z:Int,A.cmp .lss z (A.llen es) = false → I l.length → ∀ B:Act → World → Prop,X.H (.c x :: .back B :: K) (σ.carry x (ps z l.length) σ.own)):X.G (.loop x K σ) :=
 rangeL X hA hes hl I ps (fun _=>σ.own) i0 h0 step fin
theorem ranges0 (X:AE.Walk A P T fn n0 own' res GG) {x:Code} {K:List AE.Item} {σ : AE.St} (b n:Nat) (I:Nat → Prop) (ps:Int → Nat → List (Nat × AE.AV)) (i0:I 0) (h0:AE.Says n0 σ (σ.carry x (ps b 0) σ.own))
  (step:∀ (i:Nat) (z:Int),z = ((b + i:Nat):Int) → i < n → I i → ∀ B:Act → World → Prop,(∀ z' : Int,z' = ((b + i + 1:Nat):Int) → I (i + 1) → ∀ σ' : AE.St,AE.Says n0 σ' (σ.carry x (ps z' (i + 1)) σ.own) → X.G (.back B σ')) → X.H (.c x :: .back B :: K) (σ.carry x (ps z i) σ.own))
  (fin:∀ z:Int,z = ((b + n:Nat):Int) → I n → ∀ B:Act → World → Prop,X.H (.c x :: .back B :: K) (σ.carry x (ps z n) σ.own)):X.G (.loop x K σ) :=
 ranges X b n I ps (fun _=>σ.own) i0 h0 step fin
end Go.Proofs.YthadehkggddgoaaGreatDoor
end
section
set_option linter.unusedVariables false
namespace Go.Proofs.YthadehkggddgoaaGreatDoor
open Go Go.Num
variable {A:AE.Ari} {P:Program} {T:AE.Tab} {fn:Func} {n0:Nat} {own' : List AE.OB} {res:AE.AV} {GG:(Nat → Option Obj) → Prop}
theorem rangeLS (X:AE.Walk A P T fn n0 own' res GG) (hA:A = AE.std) {x:Code} {K:List AE.Item} {σ : AE.St} {α : Type} {f:α → List AE.AV} {l:List α} {es:List (List AE.AV)} (hes:es = lsAv f l) (hl:l.length < 2 ^ 61) (I:Nat → Prop) (ps:Int → Nat → List (Nat × AE.AV)) (own:Nat → List AE.OB → List AE.OB) (i0:I 0) (h0:AE.Says n0 σ (σ.carry x (ps 0 0) (own 0 σ.own)))
  (step:∀ (i:Nat) (z:Int) (y:α),z = i → l[i]? = some y → es[i]? = some (f y) → A.cmp .lss z (A.llen es) = true → I i → ∀ B:Act → World → Prop,(I (i + 1) → ∀ σ' : AE.St,AE.Says n0 σ' (σ.carry x (ps (A.bin .add .i64 z 1) (i + 1)) (own (i + 1) σ.own)) → X.G (.back B σ')) → X.H (.c x :: .back B :: K) (σ.carry x (ps z i) (own i σ.own)))
  (fin:∀ z:Int,A.cmp .lss z (A.llen es) = false → I l.length → ∀ B:Act → World → Prop,X.H (.c x :: .back B :: K) (σ.carry x (ps z l.length) (own l.length σ.own))):X.G (.loop x K σ) :=
 rangeL X hA hes hl I ps (fun i=>own i σ.own) i0 h0 step fin
theorem take_snoc {α : Type} {l:List α} {i:Nat} {y:α} (h:l[i]? = some y):l.take (i + 1) = l.take i ++ [y]:=by rw [List.take_add_one,h]; rfl
theorem lapp_take {A:AE.Ari} (hA:A = AE.std) {α : Type} {f:α → List AE.AV} {l:List α} {i:Nat} {y:α} (h:l[i]? = some y) {es es' : List (List AE.AV)} (h1:es = lsAv f (l.take i)) (h2:es' = lsAv f (l.take (i + 1))):A.lapp es [f y] = es' := by
 subst hA
 rw [h1,h2,take_snoc h,← lsAv_app,show lsAv f [y] = [f y] by rw [lsAv_eq]; rfl]; rfl
theorem grow1 {A:AE.Ari} (hA:A = AE.std) {es:List (List AE.AV)} {n:Nat} (h:es.length ≤ n) {c:List AE.AV} {b:Nat} (hb:(n + 1) * b ≤ 140737488355328) (hn:n < 2 ^ 60):AE.GrowR (A.llen es) (A.llen [c]) b:=by
 have h1:A.llen [c] = 1:=by subst hA; rfl
 have h2:A.llen es = (es.length:Int):=llen hA es
 have h3:(es.length + 1) * b ≤ (n + 1) * b:=Nat.mul_le_mul_right _ (by omega)
 constructor
 ·rw [h1,h2]; omega
 ·rw [h1,h2]
  have:(((es.length:Int) + 1) * (b:Int)) = (((es.length + 1) * b:Nat):Int):=by rw [Int.natCast_mul]; rfl
  rw [this]; omega
theorem take_len {α : Type} (f:α → List AE.AV) (l:List α) (i:Nat):(lsAv f (l.take i)).length ≤ l.length:=by rw [lsAv_len,List.length_take]; omega
end Go.Proofs.YthadehkggddgoaaGreatDoor
end
end
