/- AE, part 2: the operations that only read, as functions of abstract values; a table of types; that the machine does just this. -/
import Derived.Test.YthadehkggddgoaaGreatDoorAE1
set_option linter.unusedVariables false
set_option linter.unusedSimpArgs false
namespace Go.AE
structure Ari where
 bin:BinOp → IntKind → Int → Int → Int
 cmp:BinOp → Int → Int → Bool
 scmp:BinOp → ByteArray → ByteArray → Bool
 bcmp:BinOp → Bool → Bool → Bool
 bnot:Bool → Bool
 un:UnOp → IntKind → Int → Int
 conv:IntKind → Int → Int
 cat:ByteArray → ByteArray → ByteArray
 slen:ByteArray → Int
 sidx:ByteArray → Int → Int
 ssub:ByteArray → Int → Int → ByteArray
 llen:List (List AV) → Int
 lsub:List (List AV) → Int → Int → List (List AV)
 lset:List (List AV) → Nat → List AV → List (List AV)
 lapp:List (List AV) → List (List AV) → List (List AV)
 lrep:Int → List AV → List (List AV)
 band:Bool → Bool → Bool
 imax:Int → Int → Int
 imin:Int → Int → Int
 mnew:Value → Option Value
 mhas:(Value → Option Value) → Value → Bool
 mB:(Value → Option Value) → Value → Bool
 mI:(Value → Option Value) → Value → Int
 mS:(Value → Option Value) → Value → ByteArray
 mset:(Value → Option Value) → Value → Value → Value → Option Value
open Classical in
noncomputable def msetF (g:Value → Option Value) (k v:Value):Value → Option Value:=fun j=>if j = k then some v else g j
def cmpI (op:BinOp) (a b:Int):Bool :=
 match op with
 | .eql=>a == b | .neq=>a != b | .lss=>decide (a < b) | .leq=>decide (a ≤ b) | .gtr=>decide (a > b) | .geq=>decide (a ≥ b)|_=>false
def cmpS (op:BinOp) (a b:ByteArray):Bool :=
 match op with
 | .eql=>a.toList == b.toList | .neq=>!(a.toList == b.toList) | .lss=>Op.bytesLess a.toList b.toList | .leq=>Op.bytesLess a.toList b.toList || a.toList == b.toList
 | .gtr=>!(Op.bytesLess a.toList b.toList || a.toList == b.toList) | .geq=>!Op.bytesLess a.toList b.toList|_=>false
def bitsI (op:BinOp) (k:IntKind) (x y:Int):Int :=
 let a:=BitVec.ofInt k.bits x
 let b:=BitVec.ofInt k.bits y
 match op with
 | .and=>k.wrap (a &&& b).toNat | .or=>k.wrap (a ||| b).toNat | .xor=>k.wrap (a ^^^ b).toNat | .andNot=>k.wrap (a &&& ~~~b).toNat|_=>0
def binI (op:BinOp) (k:IntKind) (a b:Int):Int :=
 match op with
 | .add=>k.wrap (a + b) | .sub=>k.wrap (a - b) | .mul=>k.wrap (a * b) | .quo=>k.wrap (a.tdiv b) | .rem=>a.tmod b
 | .shl=>k.wrap (a * 2 ^ min b.toNat k.bits) | .shr=>a.fdiv (2 ^ min b.toNat k.bits)|op=>bitsI op k a b
def bAt (s:ByteArray) (i:Int):Int:=((s.data.toList[i.toNat]?).getD 0).toNat
noncomputable def std:Ari where
 bin:=binI
 cmp:=cmpI
 scmp:=cmpS
 bcmp op a b:=match op with | .eql=>a == b|_=>a != b
 bnot b:=!b
 un op k n:=match op with | .neg=>k.wrap (0 - n)|_=>bitsI .xor k (if k.signed then -1 else k.max) n
 conv k n:=k.wrap n
 cat a b:=a ++ b
 slen s:=s.size
 sidx:=bAt
 ssub s lo hi:=s.extract lo.toNat hi.toNat
 llen es:=es.length
 lsub es lo hi:=(es.take hi.toNat).drop lo.toNat
 lset es i c:=es.set i c
 lapp es ds:=es ++ ds
 lrep n c:=List.replicate n.toNat c
 band a b:=a && b
 imax a b:=if b > a then b else a
 imin a b:=if b < a then b else a
 mnew _:=none
 mhas g k:=(g k).isSome
 mB g k:=match g k with|some (.bool b)=>b|_=>false
 mI g k:=match g k with|some (.int _ n)=>n|_=>0
 mS g k:=match g k with|some (.string s)=>s|_=>ByteArray.empty
 mset:=msetF
inductive TK where
 | int (k:IntKind)|bool|str
 | struct (fs:List (Nat × Nat × Bool)) (eq:Option (List Nat))
 | slice (e:Nat)|array (n e:Nat)|ptr (e:Nat)|map (k e:Nat)|iface|other
structure TI where
 kind:TK
 size:Nat
 bytes:Nat
 zero:List Value
def TK.agg:TK → Bool
 | .struct _ _ | .array _ _=>true
 | _=>false
abbrev Tab:=List (Nat × TI)
def look (T:Tab) (t:Nat):Option TI :=
 match T with
 | []=>none
 | (k,i) :: r=>if k = t then some i else look r t
def KindOK (P:Program) (t:Nat):TK → Prop
 | .int k=>P.underlying t = some (.int k)
 | .bool=>P.underlying t = some .bool
 | .str=>P.underlying t = some .string
 | .struct fs eq=>∃ fields:Array Field,P.underlying t = some (.struct fields) ∧ fs.length = fields.size ∧
   (∀ (i:Nat) (f:Field) (x:Nat × Nat × Bool),fields[i]? = some f → fs[i]? = some x → f.offset = x.1 ∧ (P.info? f.type).map (·.size) = some x.2.1 ∧ (∀ W,(isAgg f.type).run P W = .ok x.2.2 W) ∧ (x.2.2 = false → x.2.1 = 1)) ∧
   ∀ tys,eq = some tys → P.stoodInHeld t = false ∧ P.eqGuardType P.depth t = false ∧ tys.length = fields.size ∧ ∀ (i:Nat) (f:Field) (ty:Nat),fields[i]? = some f → tys[i]? = some ty → f.type = ty ∧ f.name ≠ "_"
 | .slice e=>P.underlying t = some (.slice e)
 | .array n e=>P.underlying t = some (.array n e)
 | .ptr e=>P.underlying t = some (.pointer e)
 | .map k e=>P.underlying t = some (.map k e) ∧ ∃ z,(P.info? e).bind (·.zero) = some z ∧ z.oneCell' = true
 | .iface=>∃ ms,P.underlying t = some (.interface ms)
 | .other=>∀ W,(isAgg t).run P W = .ok false W
structure TypeOK (P:Program) (t:Nat) (i:TI):Prop where
 kind:KindOK P t i.kind
 info:∃ f:TypeInfo,P.info? t = some f ∧ f.size = i.size ∧ f.bytes = i.bytes ∧ ∃ z,f.zero = some z ∧ z.cells = i.zero.toArray
 one:∀ x ∈ i.zero,x.oneCell' = true
 len:i.zero.length = i.size
 one1:i.kind.agg = false → i.size = 1
def TabOK (P:Program) (T:Tab):Prop:=∀ t i,look T t = some i → TypeOK P t i
def AV.cells:AV → List AV
 | .a cs=>cs
 | x=>[x]
def mkA (agg:Bool) (cs:List AV):AV :=
 match agg with
 | true=>.a cs
 | false=>match cs with
  | [x]=>x
  | _=>.any
def ofConst (x:Value):AV :=
 match x with
 | .agg cs=>if cs.toList.all Value.oneCell' then .a (cs.toList.map .v) else .any
 | .tuple _=>.any
 | x=>.v x
def St.get (σ : St):Operand → AV
 | .tmp t=>σ.tm.getD t .any
 | .const x=>ofConst x
 | .func f=>match decide (f < 1000000) with
  | true=>.f f []
  | false=>.any
 | .global _=>.any
theorem sbytes_ex:∃ g:ByteArray → List (List AV),∀ s,g s = s.data.toList.map fun b=>[.v (.int .u8 b.toNat)]:=⟨_,fun _=>rfl⟩
noncomputable def sbytes:ByteArray → List (List AV):=sbytes_ex.choose
theorem sbytes_eq (s:ByteArray):sbytes s = s.data.toList.map fun b=>[.v (.int .u8 b.toNat)]:=sbytes_ex.choose_spec s
structure SFit (a b:Int):Prop where
 h:a + b ≤ 9223372036854775807
structure InR (n len:Int):Prop where
 h0:0 ≤ n
 h1:n < len
structure CutR (l len:Int):Prop where
 h0:0 ≤ l
 h1:l ≤ len
structure CutR2 (l h len:Int):Prop where
 h0:0 ≤ l
 h1:l ≤ h
 h2:h ≤ len
structure AtR (n:Nat) (es:List (List AV)):Prop where
 h:n < es.length
structure MakeR (n m:Int) (bytes:Nat):Prop where
 h0:0 ≤ n
 h1:n = m
 h2:bytes * n ≤ 281474976710656
 h3:n ≤ 9223372036854775807
structure GrowR (a b:Int) (bytes:Nat):Prop where
 h0:a + b ≤ 9223372036854775807
 h1:(a + b) * bytes ≤ 140737488355328
structure NewR (a:Int) (bytes:Nat):Prop where
 h0:a ≤ 9223372036854775807
 h1:a * bytes ≤ 140737488355328
inductive RR where
 | ok (x:AV)
 | need (p:Prop) (x:AV)
 | idx (es:List (List AV)) (n:Int) (own:Option (Nat × Nat))
 | ldq (es:List (List AV)) (i off size:Nat) (agg:Bool)
 | str (es:List (List AV))
 | idxw (k sz lo n:Nat) (z:Int)
 | cutr (k sz:Nat) (es:List (List AV)) (l h:Option Int)
 | cutw (k sz lo n:Nat) (l h:Option Int)
 | coin (neg:Bool) (es:List (List AV))
 | ixa (k off sz n:Nat) (z:Int)
 | no
def rowOf (σ : St) (k:Nat):Option (Nat × List (List AV)) :=
 match σ.own[k]? with
 | some (.row _ sz es)=>some (sz,es)
 | _=>none
def srcOf (σ : St) (x:AV):Option (Nat × List (List AV)) :=
 match x with
 | .l sz es=>some (sz,es)
 | .r k=>rowOf σ k
 | _=>none
def asB:AV → Option Bool
 | .b x=>some x
 | .v (.bool x)=>some x
 | _=>none
def eqV (A:Ari) (T:Tab):Nat → Nat → AV → AV → Option Bool
 | 0,_,_,_=>none
 | n + 1,t,x,y=>match look T t with
  | some ⟨.int _,_,_,_⟩=>match x,y with
   | .v (.int k a),.v (.int k' b)=>if k = k' then some (A.cmp .eql a b) else none
   | _,_=>none
  | some ⟨.str,_,_,_⟩=>match x,y with
   | .v (.string a),.v (.string b)=>some (A.scmp .eql a b)
   | _,_=>none
  | some ⟨.bool,_,_,_⟩=>match asB x,asB y with
   | some a,some b=>some (A.bcmp .eql a b)
   | _,_=>none
  | some ⟨.struct fs (some tys),_,_,_⟩=>match x,y with
   | .a cs,.a ds=>go n fs tys cs ds
   | _,_=>none
  | _=>none
where
 go (n:Nat):List (Nat × Nat × Bool) → List Nat → List AV → List AV → Option Bool
 | [(off,size,agg)],[t],cs,ds=>if off + size ≤ cs.length ∧ off + size ≤ ds.length then eqV A T n t (mkA agg ((cs.drop off).take size)) (mkA agg ((ds.drop off).take size)) else none
 | (off,size,agg) :: fs,t :: tys,cs,ds=>if off + size ≤ cs.length ∧ off + size ≤ ds.length then
   match eqV A T n t (mkA agg ((cs.drop off).take size)) (mkA agg ((ds.drop off).take size)),go n fs tys cs ds with
   | some a,some b=>some (A.band a b)
   | _,_=>none
  else none
 | _,_,_,_=>none
def eqP (T:Tab) (t:Nat) (x y:AV):Option Bool :=
 match look T t with
 | some ⟨.ptr e,_,_,_⟩=>match x,y with
  | .v (.pointer none),.v (.pointer none)=>some true
  | .p _ _,.v (.pointer none)=>some false
  | .q _ _ _ _,.v (.pointer none)=>some false
  | .ip _,.v (.pointer none)=>some false
  | .v (.pointer none),.p _ _=>some false
  | .v (.pointer none),.q _ _ _ _=>some false
  | .v (.pointer none),.ip _=>some false
  | .p k o,.p k' o' => if k = k' then match look T e with
    | some i=>if i.size ≠ 0 then some (decide (o = o')) else none
    | none=>none
   else none
  | _,_=>none
 | _=>none
def eqA (A:Ari) (T:Tab) (op:BinOp) (t:Nat) (x y:AV):RR :=
 match op with
 | .eql=>match eqP T t x y with
  | some b=>.ok (.v (.bool b))
  | none=>match x,y with
   | .a cs,.a ds=>match eqV A T 20 t (.a cs) (.a ds) with
    | some b=>.ok (.b b)
    | none=>.no
   | _,_=>.no
 | .neq=>match eqP T t x y with
  | some b=>.ok (.v (.bool (!b)))
  | none=>match x,y with
   | .a cs,.a ds=>match eqV A T 20 t (.a cs) (.a ds) with
    | some b=>.ok (.b (A.bnot b))
    | none=>.no
   | _,_=>.no
 | _=>.no
def binA (A:Ari) (T:Tab) (op:BinOp) (t:Nat) (x y:AV):RR :=
 match x,y with
 | .v (.int k a),.v (.int k' b) =>
  match op with
  | .shl | .shr=>.need (0 ≤ b) (.v (.int k (A.bin op k a b)))
  | op=>if k = k' then
    match op with
    | .add | .sub | .mul | .and | .or | .xor | .andNot=>.ok (.v (.int k (A.bin op k a b)))
    | .quo | .rem=>.need (b ≠ 0) (.v (.int k (A.bin op k a b)))
    | .eql | .neq | .lss | .leq | .gtr | .geq=>.ok (.b (A.cmp op a b))
    | _=>.no
   else .no
 | .v (.string a),.v (.string b) =>
  match op with
  | .add=>.need (SFit (A.slen a) (A.slen b)) (.v (.string (A.cat a b)))
  | .eql | .neq | .lss | .leq | .gtr | .geq=>.ok (.b (A.scmp op a b))
  | _=>.no
 | x,y=>match asB x,asB y with
  | some a,some b=>match look T t with
   | some ⟨.bool,_,_,_⟩=>match op with
    | .eql | .neq=>.ok (.b (A.bcmp op a b))
    | _=>.no
   | _=>.no
  | _,_=>eqA A T op t x y
def unA (A:Ari) (op:UnOp) (x:AV):RR :=
 match op,x with
 | .not,.v (.bool true)=>.ok (.v (.bool false))
 | .not,.v (.bool false)=>.ok (.v (.bool true))
 | .not,.b b=>.ok (.b (A.bnot b))
 | .neg,.v (.int k n)=>.ok (.v (.int k (A.un .neg k n)))
 | .xor,.v (.int k n)=>.ok (.v (.int k (A.un .xor k n)))
 | _,_=>.no
def loadA (T:Tab) (σ : St) (ty:Nat) (x:AV):RR :=
 match look T ty with
 | none=>.no
 | some i=>match x with
  | .p k off=>match σ.own[k]? with
   | some (.box cs _)=>if off + i.size ≤ cs.length then .ok (mkA i.kind.agg ((cs.drop off).take i.size)) else .no
   | _=>.no
  | .ip cs=>if i.size ≤ cs.length then .ok (mkA i.kind.agg (cs.take i.size)) else .no
  | .q k sz n off=>match rowOf σ k with
   | some (sz', es)=>if sz = sz' then (if off + i.size ≤ sz then .ldq es n off i.size i.kind.agg else .no) else .no
   | none=>.no
  | _=>.no
def fieldAddrA (T:Tab) (ty:Nat) (x:AV) (f:Nat):RR :=
 match look T ty with
 | some ⟨.struct fs _,_,_,_⟩=>match fs[f]? with
  | some (off,size,_)=>if size = 0 then .no else match x with
   | .p k o=>.ok (.p k (o + off))
   | .ip cs=>if off ≤ cs.length then .ok (.ip (cs.drop off)) else .no
   | .q k sz n o=>.ok (.q k sz n (o + off))
   | _=>.no
  | none=>.no
 | _=>.no
def fieldA (T:Tab) (ty:Nat) (x:AV) (f:Nat):RR :=
 match look T ty,x with
 | some ⟨.struct fs _,_,_,_⟩,.a cs=>match fs[f]? with
  | some (off,size,agg)=>if off + size ≤ cs.length then .ok (mkA agg ((cs.drop off).take size)) else .no
  | none=>.no
 | _,_=>.no
def fillA (fs:List (Nat × Nat × Bool)):List AV → List (Nat × AV) → Option (List AV)
 | cs,[]=>some cs
 | cs,(i,x) :: rest =>
  match fs[i]? with
  | none=>none
  | some (off,size,_)=>if x.cells.length = size ∧ off + size ≤ cs.length ∧ x.cells.all AV.cell = true then fillA fs (cs.take off ++ x.cells ++ cs.drop (off + size)) rest else none
def zeroA (x:Value):AV :=
 match x with
 | .bool b=>.b b
 | x=>.v x
theorem zeroA_rav {E:Env} {m:Bool} {x:Value} (h:x.oneCell' = true):RAV E m (zeroA x) x:=by
 unfold zeroA; split
 ·exact .b _ _
 ·exact .v _ _ h
theorem zeroA_ment {S:Nat → Prop} {x:Value}:Ment S (zeroA x):=by
 unfold zeroA; split
 ·exact .b _
 ·exact .v _
def buildA (T:Tab) (ty:Nat) (ps:List (Nat × AV)):RR :=
 match look T ty with
 | some ⟨.struct fs _,_,_,z⟩=>match fillA fs (z.map zeroA) ps with
  | some cs=>.ok (.a cs)
  | none=>.no
 | _=>.no
def lenA (A:Ari) (T:Tab) (σ : St) (ty:Nat) (x:AV):RR :=
 match look T ty,x with
 | some ⟨.str,_,_,_⟩,.v (.string s)=>.ok (.v (.int .i64 (A.slen s)))
 | some ⟨.slice _,_,_,_⟩,.l _ es=>.ok (.v (.int .i64 (A.llen es)))
 | some ⟨.slice _,_,_,_⟩,.r k=>match rowOf σ k with
  | some (_,es)=>.ok (.v (.int .i64 (A.llen es)))
  | none=>.no
 | some ⟨.slice _,_,_,_⟩,.v (.slice none 0 0)=>.ok (.v (.int .i64 0))
 | some ⟨.slice _,_,_,_⟩,.w _ _ _ n=>.ok (.v (.int .i64 (Int.ofNat n)))
 | _,_=>.no
def isSlice (T:Tab) (ty:Nat):Option Nat :=
 match look T ty with
 | some ⟨.slice e,_,_,_⟩=>(look T e).map (·.size)
 | _=>none
def indexAddrA (T:Tab) (σ : St) (ty:Nat) (x i:AV):RR :=
 match isSlice T ty,i with
 | some sz,.v (.int _ n)=>match x with
  | .l sz' es=>if sz = sz' then .idx es n none else .no
  | .r k=>match rowOf σ k with
   | some (sz', es)=>if sz = sz' then .idx es n (some (k,sz)) else .no
   | none=>.no
  | .w k sz' lo m=>if sz = sz' then .idxw k sz lo m n else .no
  | _=>.no
 | none,.v (.int _ z)=>match look T ty with
  | some ⟨.array n e,_,_,_⟩=>match x with
   | .p k off=>match look T e with
    | some i=>.ixa k off i.size n z
    | none=>.no
   | _=>.no
  | _=>.no
 | _,_=>.no
def indexA (A:Ari) (T:Tab) (ty:Nat) (x i:AV):RR :=
 match look T ty,x,i with
 | some ⟨.str,_,_,_⟩,.v (.string s),.v (.int _ n)=>.need (InR n (A.slen s)) (.v (.int .u8 (A.sidx s n)))
 | _,_,_=>.no
def bndA (lo hi:Option AV) (len:Int) (f:Int → Int → AV):RR :=
 match lo,hi with
 | none,none=>.ok (f 0 len)
 | some (.v (.int _ l)),none=>.need (CutR l len) (f l len)
 | none,some (.v (.int _ h))=>.need (CutR h len) (f 0 h)
 | some (.v (.int _ l)),some (.v (.int _ h))=>.need (CutR2 l h len) (f l h)
 | _,_=>.no
def cutB (lo hi:Option AV) (f:Option Int → Option Int → RR):RR :=
 match lo,hi with
 | none,none=>f none none
 | some (.v (.int _ l)),none=>f (some l) none
 | none,some (.v (.int _ h))=>f none (some h)
 | some (.v (.int _ l)),some (.v (.int _ h))=>f (some l) (some h)
 | _,_=>.no
def chunks (sz:Nat):Nat → List AV → List (List AV)
 | 0,_=>[]
 | n + 1,cs=>cs.take sz :: chunks sz n (cs.drop sz)
def sliceA (A:Ari) (T:Tab) (σ : St) (ty:Nat) (x:AV) (lo hi:Option AV):RR :=
 match look T ty,x with
 | some ⟨.slice e,_,_,_⟩,.r k=>match rowOf σ k with
  | some (sz,es)=>if (look T e).map (·.size) = some sz then cutB lo hi (.cutr k sz es) else .no
  | none=>.no
 | some ⟨.slice e,_,_,_⟩,.w k sz l n=>if (look T e).map (·.size) = some sz then cutB lo hi (.cutw k sz l n) else .no
 | some ⟨.array n e,_,_,_⟩,.ip cs=>match lo,hi with
  | none,none=>match look T e with
   | some i=>if 0 < n ∧ n * i.size ≤ cs.length ∧ n ≤ maxLen then .ok (.l i.size (chunks i.size n cs)) else .no
   | none=>.no
  | _,_=>.no
 | some ⟨.str,_,_,_⟩,.v (.string s)=>bndA lo hi (A.slen s) fun l h=>.v (.string (A.ssub s l h))
 | some ⟨.slice e,_,_,_⟩,.l sz es=>if (look T e).map (·.size) = some sz then bndA lo hi (A.llen es) fun l h=>.l sz (A.lsub es l h) else .no
 | _,_=>.no
def isU8 (T:Tab) (ty:Nat):Bool :=
 match look T ty with
 | some ⟨.slice e,_,_,_⟩=>match look T e with
  | some ⟨.int .u8,_,_,_⟩=>true
  | _=>false
 | _=>false
def convA (A:Ari) (T:Tab) (σ : St) (src dst:Nat) (x:AV):RR :=
 match look T dst with
 | some ⟨.int k,_,_,_⟩=>match look T src,x with
  | some ⟨.int _,_,_,_⟩,.v (.int _ n)=>.ok (.v (.int k (A.conv k n)))
  | _,_=>.no
 | some ⟨.str,_,_,_⟩=>match x with
  | .v (.string s)=>match look T src with
   | some ⟨.str,_,_,_⟩=>.ok (.v (.string s))
   | _=>.no
  | .v (.slice none 0 0)=>match isU8 T src with
   | true=>.ok (.v (.string ByteArray.empty))
   | false=>.no
  | .l sz es=>match isU8 T src with
   | true=>if sz = 1 then .str es else .no
   | false=>.no
  | .r k=>match isU8 T src with
   | true=>match rowOf σ k with
    | some (sz,es)=>if sz = 1 then .str es else .no
    | none=>.no
   | false=>.no
  | _=>.no
 | _=>.no
def mkOf (T:Tab) (t:Nat):Option MK :=
 match look T t with
 | some ⟨.int k,_,_,[.int k' 0]⟩=>if k = k' then some (.int k) else none
 | some ⟨.str,_,_,[.string s]⟩=>if s.size = 0 then some .str else none
 | some ⟨.bool,_,_,[.bool false]⟩=>some .bool
 | _=>none
def mvOf (m:MK) (x:AV):Option Value :=
 match m,x with
 | .int k,.v (.int k' n)=>if k = k' then some (.int k n) else none
 | .str,.v (.string s)=>some (.string s)
 | .bool,.b b=>some (.bool b)
 | .bool,.v (.bool b)=>some (.bool b)
 | _,_=>none
def mgetA (A:Ari) (vk:MK) (g:Value → Option Value) (key:Value):AV :=
 match vk with
 | .bool=>.b (A.mB g key)
 | .int k=>.v (.int k (A.mI g key))
 | .str=>.v (.string (A.mS g key))
def lookupA (A:Ari) (T:Tab) (σ : St) (ty:Nat) (x i:AV) (ok:Bool):RR :=
 match look T ty with
 | some ⟨.map k e,_,_,_⟩=>match x with
  | .r j=>match σ.own[j]? with
   | some (.mp kk vk g)=>match mvOf kk i with
    | some key=>if mkOf T k = some kk ∧ mkOf T e = some vk ∧ kk ≠ .bool then
      match ok with
      | true=>.ok (.t [mgetA A vk g key,.b (A.mhas g key)])
      | false=>.ok (mgetA A vk g key)
     else .no
    | none=>.no
   | _=>.no
  | _=>.no
 | _=>.no
def maxA (A:Ari) (mx:Bool):List AV → RR
 | [.v (.int k a),.v (.int _ b)]=>.ok (.v (.int k (match mx with|true=>A.imax a b|false=>A.imin a b)))
 | _=>.no
def nilIfA (T:Tab) (op:BinOp) (t:Nat) (x:AV):RR :=
 match look T t with
 | some ⟨.iface,_,_,_⟩=>match op,x with
  | .eql,.v .nilIface=>.ok (.v (.bool true))
  | .eql,.ni=>.ok (.v (.bool false))
  | .neq,.v .nilIface=>.ok (.v (.bool false))
  | .neq,.ni=>.ok (.v (.bool true))
  | _,_=>.no
 | _=>.no
def nilSlA (T:Tab) (σ : St) (op:BinOp) (t:Nat) (x:AV):RR :=
 match look T t with
 | some ⟨.slice _,_,_,_⟩=>match op with
  | .eql=>match x with
   | .v (.slice none 0 0)=>.ok (.v (.bool true))
   | .l _ es=>.coin false es
   | .r k=>match rowOf σ k with
    | some (_,es)=>.coin false es
    | none=>.no
   | _=>.no
  | .neq=>match x with
   | .v (.slice none 0 0)=>.ok (.v (.bool false))
   | .l _ es=>.coin true es
   | .r k=>match rowOf σ k with
    | some (_,es)=>.coin true es
    | none=>.no
   | _=>.no
  | _=>.no
 | _=>.no
def opR (A:Ari) (T:Tab) (σ : St) (o:Op):RR :=
 match o with
 | .move x | .assign x=>.ok (σ.get x)
 | .pick c x y=>match σ.get c with
  | .v (.bool true)=>.ok (σ.get x)
  | .v (.bool false)=>.ok (σ.get y)
  | _=>.no
 | .load ty x=>loadA T σ ty (σ.get x)
 | .fieldAddr ty x f=>fieldAddrA T ty (σ.get x) f
 | .field ty x f=>fieldA T ty (σ.get x) f
 | .build ty ps=>buildA T ty (ps.toList.map fun y=>(y.1,σ.get y.2))
 | .extract x i=>match σ.get x with
  | .t vs=>match vs[i]? with
   | some y=>.ok y
   | none=>.no
  | _=>.no
 | .nilCheck x=>match σ.get x with
  | .p k off=>.ok (.p k off)
  | .q k sz i off=>.ok (.q k sz i off)
  | .ip cs=>.ok (.ip cs)
  | .f fn cs=>.ok (.f fn cs)
  | _=>.no
 | .makeFunc (.func fn) first cap=>match decide (fn < 1000000) with
  | true=>.ok (.f (fn + 1000000 * first.size) (first.toList.map σ.get ++ cap.toList.map σ.get))
  | false=>.no
 | .unOp op _ x=>unA A op (σ.get x)
 | .binOp op t x (.const .nilIface) _=>nilIfA T op t (σ.get x)
 | .binOp op t x (.const (.slice none 0 0)) _=>nilSlA T σ op t (σ.get x)
 | .binOp op t x y _=>binA A T op t (σ.get x) (σ.get y)
 | .convert src dst x=>convA A T σ src dst (σ.get x)
 | .index ty x i=>indexA A T ty (σ.get x) (σ.get i)
 | .indexAddr ty x i=>indexAddrA T σ ty (σ.get x) (σ.get i)
 | .slice ty x lo hi none=>sliceA A T σ ty (σ.get x) (lo.map σ.get) (hi.map σ.get)
 | .call ⟨.builtin .len,args,tys⟩=>match args.toList,tys.toList with
  | [x],[ty]=>lenA A T σ ty (σ.get x)
  | _,_=>.no
 | .call ⟨.builtin .max,args,_⟩=>maxA A true (args.toList.map σ.get)
 | .call ⟨.builtin .min,args,_⟩=>maxA A false (args.toList.map σ.get)
 | .lookup ty x i ok=>lookupA A T σ ty (σ.get x) (σ.get i) ok
 | _=>.no
end Go.AE
