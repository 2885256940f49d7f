/- AE, part 14: the arithmetic laid open, for the plain side of a walk. AE, part 15: from a row's readings of its arguments to abstract values. AE, part 16: contracts of functions that were walked otherwise: they return a value and leave all that stood as it was. -/
import Derived.Test.YthadehkggddgoaaGreatDoorAE11
import Derived.ChangeArms
import Derived.DataReads
section
namespace Go.AE
open Go
theorem wrap_u8 (n:Int):IntKind.wrap .u8 n = n % 256:=by simp [IntKind.wrap,IntKind.bits,IntKind.signed]
theorem wrap_u32 (n:Int):IntKind.wrap .u32 n = n % 4294967296:=by simp [IntKind.wrap,IntKind.bits,IntKind.signed]
theorem wrap_u64 (n:Int):IntKind.wrap .u64 n = n % 18446744073709551616:=by simp [IntKind.wrap,IntKind.bits,IntKind.signed]
theorem wrap_i64 {n:Int} (h0:-9223372036854775808 ≤ n) (h1:n ≤ 9223372036854775807):IntKind.wrap .i64 n = n:=by
 simp [IntKind.wrap,IntKind.bits,IntKind.signed]; omega
theorem std_add {a b:Int} (h0:-9223372036854775808 ≤ a + b) (h:a + b ≤ 9223372036854775807):std.bin .add .i64 a b = a + b:=wrap_i64 h0 h
theorem std_sub {a b:Int} (h0:-9223372036854775808 ≤ a - b) (h:a - b ≤ 9223372036854775807):std.bin .sub .i64 a b = a - b:=wrap_i64 h0 h
theorem addN {A:Ari} (hA:A = std) {i:Nat} (h:i < 2 ^ 62):A.bin .add .i64 (Int.ofNat i) 1 = ((i + 1:Nat):Int):=by
 subst hA; show std.bin .add .i64 (i:Int) 1 = _; rw [std_add] <;> omega
theorem c_lss {A:Ari} (hA:A = std) (a b:Int):A.cmp .lss a b = (decide (a < b)):=by subst hA; rfl
theorem c_leq {A:Ari} (hA:A = std) (a b:Int):A.cmp .leq a b = (decide (a ≤ b)):=by subst hA; rfl
theorem c_gtr {A:Ari} (hA:A = std) (a b:Int):A.cmp .gtr a b = (decide (b < a)):=by subst hA; rfl
theorem c_geq {A:Ari} (hA:A = std) (a b:Int):A.cmp .geq a b = (decide (b ≤ a)):=by subst hA; rfl
theorem c_eql {A:Ari} (hA:A = std) (a b:Int):A.cmp .eql a b = (decide (a = b)):=by subst hA; show (a == b) = _; by_cases h:a = b <;> simp [h]
theorem c_neq {A:Ari} (hA:A = std) (a b:Int):A.cmp .neq a b = (!decide (a = b)):=by subst hA; show (a != b) = _; by_cases h:a = b <;> simp [h]
theorem c_not {A:Ari} (hA:A = std) (b:Bool):A.bnot b = !b:=by subst hA; rfl
theorem c_and {A:Ari} (hA:A = std) (a b:Bool):A.band a b = (a && b):=by subst hA; rfl
theorem c_beq {A:Ari} (hA:A = std) (a b:Bool):A.bcmp .eql a b = (a == b):=by subst hA; rfl
theorem c_bne {A:Ari} (hA:A = std) (a b:Bool):A.bcmp .neq a b = (a != b):=by subst hA; rfl
theorem c_mset {A:Ari} (hA:A = std) (g:Value → Option Value) (k v:Value):A.mset g k v = msetF g k v:=by subst hA; rfl
theorem ltT {A:Ari} (hA:A = std) {a b:Int} (h:A.cmp .lss a b = true):a < b:=by subst hA; simpa [std,cmpI] using h
theorem ltF {A:Ari} (hA:A = std) {a b:Int} (h:A.cmp .lss a b = false):b ≤ a:=by subst hA; simpa [std,cmpI] using h
theorem leT {A:Ari} (hA:A = std) {a b:Int} (h:A.cmp .leq a b = true):a ≤ b:=by subst hA; simpa [std,cmpI] using h
theorem leF {A:Ari} (hA:A = std) {a b:Int} (h:A.cmp .leq a b = false):b < a:=by subst hA; simpa [std,cmpI] using h
theorem gtT {A:Ari} (hA:A = std) {a b:Int} (h:A.cmp .gtr a b = true):b < a:=by subst hA; simpa [std,cmpI] using h
theorem gtF {A:Ari} (hA:A = std) {a b:Int} (h:A.cmp .gtr a b = false):a ≤ b:=by subst hA; simpa [std,cmpI] using h
theorem geT {A:Ari} (hA:A = std) {a b:Int} (h:A.cmp .geq a b = true):b ≤ a:=by subst hA; simpa [std,cmpI] using h
theorem geF {A:Ari} (hA:A = std) {a b:Int} (h:A.cmp .geq a b = false):a < b:=by subst hA; simpa [std,cmpI] using h
theorem eqT {A:Ari} (hA:A = std) {a b:Int} (h:A.cmp .eql a b = true):a = b:=by subst hA; simpa [std,cmpI] using h
theorem eqF {A:Ari} (hA:A = std) {a b:Int} (h:A.cmp .eql a b = false):a ≠ b:=by subst hA; simpa [std,cmpI] using h
theorem neT {A:Ari} (hA:A = std) {a b:Int} (h:A.cmp .neq a b = true):a ≠ b:=by subst hA; simpa [std,cmpI] using h
theorem neF {A:Ari} (hA:A = std) {a b:Int} (h:A.cmp .neq a b = false):a = b:=by subst hA; simpa [std,cmpI] using h
end Go.AE
end
section
set_option linter.unusedVariables false
set_option linter.unusedSimpArgs false
namespace Go.AE
open Go
def RdL (E:Env) (cs:List AV) (vs:List Value):Prop:=cs.length = vs.length ∧ (∀ x ∈ vs,x.oneCell' = true) ∧ ∀ (i:Nat) (c:AV) (u:Value),cs[i]? = some c → vs[i]? = some u → RAV E false c u
theorem RdL.nil {E:Env}:RdL E [] []:=⟨rfl,by simp,by simp⟩
theorem RdL.one {E:Env} {c:AV} {u:Value} (h1:u.oneCell' = true) (h:RAV E false c u):RdL E [c] [u]:=by
 refine ⟨rfl,by simpa using h1,fun i c' u' hc hu=>?_⟩
 cases i with
 | zero=>simp at hc hu; subst hc; subst hu; exact h
 | succ i=>simp at hc
theorem RdL.app {E:Env} {c1 c2:List AV} {v1 v2:List Value} (h1:RdL E c1 v1) (h2:RdL E c2 v2):RdL E (c1 ++ c2) (v1 ++ v2):=by
 refine ⟨by simp [h1.1,h2.1],fun x hx=>?_,fun i c u hc hu=>?_⟩
 ·rcases List.mem_append.1 hx with h|h
  ·exact h1.2.1 x h
  ·exact h2.2.1 x h
 ·by_cases hi:i < c1.length
  ·rw [List.getElem?_append_left hi] at hc
   rw [List.getElem?_append_left (h1.1 ▸ hi)] at hu
   exact h1.2.2 i c u hc hu
  ·rw [List.getElem?_append_right (Nat.le_of_not_lt hi)] at hc
   rw [List.getElem?_append_right (by rw [← h1.1]; exact Nat.le_of_not_lt hi),← h1.1] at hu
   exact h2.2.2 _ c u hc hu
section
variable {H:Type} (enc:TypeId × Value → H) (P:Program) (W:World) (E:Env) (bulk:DataW H → Nat)
structure BulkOK:Prop where
 one:∀ d,1 ≤ bulk d
 str:∀ l:List UInt8,l.length ≤ bulk (.lit (.string l))
 agg:∀ l:List (DataW H),(l.map bulk).sum ≤ bulk (.agg l)
 slice:∀ l m:List (DataW H),(l.map bulk).sum + 1 ≤ bulk (.slice l m)
def Opens (t:TypeId) {α : Type} (av:α → List AV) (ρ : α → Nat):Prop :=
 ∀ (fuel:Nat) (cs:List Value) (x:DataW H × List MemPlace),DataW.trod enc P W 0 (fun _=>true) true fuel t cs = some x → ∃ a,RdL E (av a) cs ∧ ρ a ≤ bulk x.1
variable {enc P W E bulk}
theorem Opens.int (hb:BulkOK bulk) {t:TypeId} {k:IntKind} (ht:P.underlying t = some (.int k)):Opens enc P W E bulk t (fun n:Int=>[.v (.int k n)]) (fun _=>1):=by
 intro fuel cs x h
 obtain ⟨n,rfl,rfl,_⟩:=DataW.trod_int ht h
 exact ⟨n,.one rfl (.v _ _ rfl),hb.one _⟩
theorem Opens.intWf (hb:BulkOK bulk) {t:TypeId} {k:IntKind} (ht:P.underlying t = some (.int k)):Opens enc P W E bulk t (fun n:{ n:Int // (Lit.int k n).wf = true }=>[.v (.int k n.1)]) (fun _=>1):=by
 intro fuel cs x h
 obtain ⟨n,rfl,rfl,hw⟩:=DataW.trod_int ht h
 exact ⟨⟨n,hw⟩,.one rfl (.v _ _ rfl),hb.one _⟩
theorem Opens.bool (hb:BulkOK bulk) {t:TypeId} (ht:P.underlying t = some .bool):Opens enc P W E bulk t (fun x:Bool=>[.b x]) (fun _=>1):=by
 intro fuel cs x h
 obtain ⟨n,rfl,rfl⟩:=DataW.trod_bool ht h
 exact ⟨n,.one rfl (.b _ _),hb.one _⟩
theorem Opens.str (hb:BulkOK bulk) {t:TypeId} (ht:P.underlying t = some .string):Opens enc P W E bulk t (fun s:ByteArray=>[.v (.string s)]) (fun s=>s.size):=by
 intro fuel cs x h
 obtain ⟨s,rfl,rfl,_⟩:=DataW.trod_string ht h
 refine ⟨s,.one rfl (.v _ _ rfl),?_⟩
 have:=hb.str s.data.toList
 rwa [Array.length_toList] at this
theorem Opens.to {t:TypeId} {α β : Type} {av:α → List AV} {ρ : α → Nat} {av' : β → List AV} {ρ' : β → Nat} (h:Opens enc P W E bulk t av ρ) (f:α → β) (h1:∀ a,av' (f a) = av a) (h2:∀ a,ρ' (f a) ≤ ρ a):Opens enc P W E bulk t av' ρ' := by
 intro fuel cs x hx
 obtain ⟨a,ha,hr⟩:=h fuel cs x hx
 exact ⟨f a,by rw [h1]; exact ha,Nat.le_trans (h2 a) hr⟩
def OpensFs (fs:List Field) (off:Nat) {α : Type} (av:α → List AV) (ρ : α → Nat):Prop :=
 ∀ (n:Nat) (cs:List Value) (xs:List (DataW H × List MemPlace)),xs.length = fs.length →
  (∀ (i:Nat) (f:Field),fs[i]? = some f → DataW.trod enc P W 0 (fun _=>true) true n f.type ((cs.drop f.offset).take (P.cellsOf f.type)) = xs[i]?) →
  off ≤ cs.length → cs.length = (fs.map fun f=>P.cellsOf f.type).sum + off → ∃ a,RdL E (av a) (cs.drop off) ∧ ρ a ≤ ((xs.map (·.1)).map bulk).sum
theorem OpensFs.nil {off:Nat}:OpensFs (enc:=enc) (P:=P) (W:=W) (E:=E) (bulk:=bulk) [] off (fun _:Unit=>[]) (fun _=>0):=by
 intro n cs xs hl _ _ hlen
 simp at hlen
 refine ⟨(),?_,Nat.zero_le _⟩
 rw [List.drop_eq_nil_of_le (by omega)]
 exact .nil
theorem OpensFs.cons {f:Field} {fs:List Field} {off sz:Nat} {α β : Type} {av:α → List AV} {ρ : α → Nat} {av' : β → List AV} {ρ' : β → Nat} (h:Opens enc P W E bulk f.type av ρ) (hs:P.cellsOf f.type = sz) (ho:f.offset = off)
  (t:OpensFs (enc:=enc) (P:=P) (W:=W) (E:=E) (bulk:=bulk) fs (off + sz) av' ρ'):OpensFs (enc:=enc) (P:=P) (W:=W) (E:=E) (bulk:=bulk) (f :: fs) off (fun p:α × β => av p.1 ++ av' p.2) (fun p=>ρ p.1 + ρ' p.2):=by
 intro n cs xs hl hx hoff hlen
 cases xs with
 | nil=>simp at hl
 | cons x xs =>
  have h0:=hx 0 f rfl
  simp only [List.getElem?_cons_zero] at h0
  rw [ho,hs] at h0
  obtain ⟨a,ha,hra⟩:=h n _ x h0
  simp only [List.map_cons,List.sum_cons,hs] at hlen
  obtain ⟨b,hb,hrb⟩:=t n cs xs (by simpa using hl) (fun i g hg=>by simpa using hx (i + 1) g (by simpa using hg)) (by omega) (by omega)
  refine ⟨(a,b),?_,?_⟩
  ·have:cs.drop off = (cs.drop off).take sz ++ cs.drop (off + sz):=by
    rw [← List.drop_drop]; exact (List.take_append_drop sz (cs.drop off)).symm
   rw [this]
   exact ha.app hb
  ·simp only [List.map_cons,List.sum_cons]
   omega
theorem Opens.struct (hb:BulkOK bulk) {t:TypeId} {fs:Array Field} {α : Type} {av:α → List AV} {ρ : α → Nat} (ht:P.underlying t = some (.struct fs)) (hsz:P.cellsOf t = (fs.toList.map fun f=>P.cellsOf f.type).sum)
  (h:OpensFs (enc:=enc) (P:=P) (W:=W) (E:=E) (bulk:=bulk) fs.toList 0 av ρ):Opens enc P W E bulk t av ρ:=by
 intro fuel cs x hx
 obtain ⟨xs,n,rfl,rfl,hl,hxl,hf⟩:=DataW.trod_struct ht hx
 obtain ⟨a,ha,hr⟩:=h n cs xs (by simpa using hxl) (fun i f hi=>hf i f (by simpa using hi)) (Nat.zero_le _) (by rw [hl,hsz]; rfl)
 exact ⟨a,by simpa using ha,Nat.le_trans hr (hb.agg _)⟩
theorem cells_get {w:World} {b:Nat} {a:Addr} {n:Nat} {cs:List Value} (h:w.cells? b a n = some cs):cs.length = n ∧ ∀ j,j < n → w.cell? (a.add j) = cs[j]?:=by
 unfold World.cells? at h
 split at h
 ·have hl:=mapM_some_length h
  simp at hl
  exact ⟨hl,fun j hj=>by have:=mapM_some_get h j j (by simp [hj]); simpa using this⟩
 ·cases h
theorem Opens.slice (hE:∀ b o,W.heap[b]? = some o → E.h b = some o) (hb:BulkOK bulk) {t e:TypeId} {sz:Nat} (hpos:0 < sz) {α : Type} {av:α → List AV} {ρ : α → Nat} (ht:P.underlying t = some (.slice e)) (hs:P.cellsOf e = sz)
  (h:Opens enc P W E bulk e av ρ):Opens enc P W E bulk t (fun l:List α => [.l sz (l.map av)]) (fun l=>(l.map ρ).sum + 1):=by
 intro fuel cs x hx
 rcases DataW.trod_slice ht hx with ⟨rfl,rfl⟩|⟨a,len,cap,elems,rest,n,rfl,rfl,rfl,_,hlc,hcm,hel,hget,_,_⟩
 ·exact ⟨[],.one rfl (.lnil _ _),hb.one _⟩
 ·rw [hs] at hget
  have key:∀ m,m ≤ len → ∃ l:List α,l.length = m ∧ (∀ i (hi:i < l.length),∃ vs,W.cells? 0 (a.add (i * sz)) sz = some vs ∧ RdL E (av l[i]) vs) ∧ (l.map ρ).sum ≤ (((elems.take m).map (·.1)).map bulk).sum:=by
   intro m
   induction m with
   | zero=>intro _; exact ⟨[],rfl,by simp,by simp⟩
   | succ m ih =>
    intro hm
    obtain ⟨l,hl,hread,hsum⟩:=ih (by omega)
    have hg:=hget m (by omega)
    have hme:m < elems.length:=by omega
    rw [List.getElem?_eq_getElem hme] at hg
    obtain ⟨vs,hvs,hv⟩:=Option.bind_eq_some_iff.1 hg
    obtain ⟨y,hy,hry⟩:=h n vs _ hv
    refine ⟨l ++ [y],by simp [hl],fun i hi=>?_,?_⟩
    ·by_cases him:i < l.length
     ·obtain ⟨vs', h1,h2⟩:=hread i him
      exact ⟨vs', h1,by rw [List.getElem_append_left him]; exact h2⟩
     ·have:i = m:=by simp at hi; omega
      subst this
      refine ⟨vs,hvs,?_⟩
      rw [List.getElem_append_right (by omega)]
      simp [hl]; exact hy
    ·rw [List.take_add_one,List.getElem?_eq_getElem hme]
     simp only [List.map_append,List.sum_append,List.map_cons,List.map_nil,List.sum_cons,List.sum_nil,Option.toList]
     omega
  obtain ⟨l,hl,hread,hsum⟩:=key len (Nat.le_refl _)
  refine ⟨l,.one rfl ?_,?_⟩
  ·by_cases h0:len = 0
   ·subst h0
    have:l = []:=List.eq_nil_of_length_eq_zero hl
    subst this
    exact .lzero _ _ a cap hcm
   ·
    obtain ⟨vs0,h1,h2⟩:=hread 0 (by omega)
    have hcell0:=(cells_get h1).2 0 hpos
    obtain ⟨hvl,_⟩:=cells_get h1
    rw [List.getElem?_eq_getElem (by omega)] at hcell0
    simp only [Nat.zero_mul] at hcell0
    have ha0:(a.add 0).add 0 = a:=by simp [Addr.add]
    rw [ha0] at hcell0
    have hspot:=World.cell?_spot hcell0
    obtain ⟨b,off,spot⟩:=a
    simp only at hspot
    subst hspot
    unfold World.cell? at hcell0
    cases hblk:W.heap[b]? with
    | none=>simp [hblk] at hcell0
    | some o =>
     cases o with
     | cells vals ty fr =>
      have hcell:∀ (i:Nat) (hi:i < l.length) (j:Nat),j < sz → ∃ u,vals[off + i * sz + j]? = some u ∧ u.oneCell' = true ∧ ∀ c,(av l[i])[j]? = some c → RAV E false c u:=by
       intro i hi j hj
       obtain ⟨vs,g1,g2⟩:=hread i hi
       obtain ⟨gl,gg⟩:=cells_get g1
       have g3:=gg j hj
       have hjv:j < vs.length:=by omega
       rw [List.getElem?_eq_getElem hjv,Addr.add_lit,Addr.add_lit] at g3
       simp only [World.cell?,hblk] at g3
       refine ⟨vs[j],by simpa using g3,g2.2.1 _ (List.getElem_mem hjv),fun c hc=>g2.2.2 j c _ hc (List.getElem?_eq_getElem hjv)⟩
      have hlen:off + l.length * sz ≤ vals.size:=by
       have hl1:l.length - 1 < l.length:=by omega
       obtain ⟨u,hu,_⟩:=hcell (l.length - 1) hl1 (sz - 1) (by omega)
       have:=(Array.getElem?_eq_some_iff.1 hu).1
       have e:l.length * sz = (l.length - 1) * sz + sz:=by
        conv=>lhs; rw [show l.length = (l.length - 1) + 1 by omega,Nat.add_mul,Nat.one_mul]
       omega
      have hsplit:∀ q,q < l.length * sz → ∃ i j,i < l.length ∧ j < sz ∧ q = i * sz + j:=by
       intro q hq
       refine ⟨q / sz,q % sz,?_,Nat.mod_lt _ hpos,by rw [Nat.mul_comm]; exact (Nat.div_add_mod q sz).symm⟩
       exact (Nat.div_lt_iff_lt_mul hpos).2 hq
      have hml:(l.map av).length = len:=by simp [hl]
      have:=RAV.l (E:=E) false sz (l.map av) b off cap vals ty fr (hE b _ hblk) (fun e he=>by
        obtain ⟨y,hy,rfl⟩:=List.mem_map.1 he
        obtain ⟨i,hi,rfl⟩:=List.getElem_of_mem hy
        obtain ⟨vs,g1,g2⟩:=hread i hi
        rw [g2.1]; exact (cells_get g1).1) (by simpa using hlen) (by omega) hcm (fun q u hq hu=>by
        rw [List.length_map] at hq
        obtain ⟨i,j,hi,hj,rfl⟩:=hsplit q hq
        obtain ⟨u', hu', h1', _⟩:=hcell i hi j hj
        rw [← Nat.add_assoc,hu'] at hu
        cases hu; exact h1') (fun i j e c u he hj hu=>by
        rw [List.getElem?_map] at he
        cases hq:l[i]? with
        | none=>rw [hq] at he; cases he
        | some y =>
         rw [hq] at he; cases he
         obtain ⟨hi,rfl⟩:=List.getElem?_eq_some_iff.1 hq
         obtain ⟨vs,g1,g2⟩:=hread i hi
         have hjs:j < sz:=by rw [← (cells_get g1).1,← g2.1]; exact (List.getElem?_eq_some_iff.1 hj).1
         obtain ⟨u', hu', _,hr'⟩:=hcell i hi j hjs
         rw [hu'] at hu; cases hu
         exact hr' c hj)
      rw [hml] at this
      exact this
     | _=>simp [hblk] at hcell0
  ·refine Nat.le_trans (Nat.add_le_add_right hsum 1) (Nat.le_trans (Nat.le_of_eq ?_) (hb.slice _ _))
   rw [List.take_of_length_le (by omega)]
end
end Go.AE
end
section
set_option linter.unusedVariables false
namespace Go.AE
open Go
theorem vals_of {E:Env} {n:Nat}:∀ {args:List Value} {vs:List Value},(args.map AV.v).length = vs.length → (∀ (i:Nat) (x:AV) (u:Value),(args.map AV.v)[i]? = some x → vs[i]? = some u → RAV E true x u ∧ Bl n x) → vs = args
 | [],[],_,_=>rfl
 | a :: as,v :: vs,hl,h=>by
  have h0:=(h 0 (.v a) v rfl rfl).1.vInv
  have h1:=vals_of (args:=as) (vs:=vs) (by simpa using hl) fun i x u hx hu=>h (i + 1) x u (by simpa using hx) (by simpa using hu)
  rw [h0,h1]
 | [],_ :: _,hl,_=>by simp at hl
 | _ :: _,[],hl,_=>by simp at hl
theorem ACall.of_calls {P:Program} {f:Nat} (he:Enters P f) {args:List Value} {v:Value} {own:List OB} (hv:v.oneCell' = true) (hw:Wfo own) (h:∀ W,Calls P f args.toArray W fun e w' => e = .returned v ∧ Grew W w'):ACall P f own (args.map .v) own (.v v):=by
 intro E W vs hM hwf hlen hargs
 have:=vals_of hlen hargs
 subst this
 refine .inl ⟨he,(h W).mono ?_⟩
 rintro e w' ⟨rfl,hg⟩
 exact ⟨v,rfl,E,hM.grew hg,hw,.v _ _ hv,.v _⟩
theorem ACallG.of_calls {G:(Nat → Option Obj) → Prop} {P:Program} {f:Nat} (he:Enters P f) {args:List Value} {v:Value} {own:List OB} (hv:v.oneCell' = true) (hw:Wfo own)
  (h:∀ W h0,(∀ b o,h0 b = some o → W.heap[b]? = some o) → G h0 → Calls P f args.toArray W fun e w' => e = .returned v ∧ Grew W w'):ACallG G P f own (args.map .v) own (.v v):=by
 intro E W vs hG hM hwf hlen hargs
 have:=vals_of hlen hargs
 subst this
 refine .inl ⟨he,(h W E.h hM.facts hG).mono ?_⟩
 rintro e w' ⟨rfl,hg⟩
 exact ⟨v,rfl,E,hM.grew hg,hw,.v _ _ hv,.v _⟩
theorem Ment.all:∀ x:AV,Ment (fun _=>True) x
 | .any=>.any
 | .v x=>.v x
 | .b x=>.b x
 | .p k off=>.p k off trivial
 | .q k sz i off=>.q k sz i off trivial
 | .w k sz lo n=>.w k sz lo n trivial
 | .r k=>.r k trivial
 | .l sz es=>.l sz es
 | .ip cs=>.ip cs
 | .ni=>.ni
 | .a cs=>.a cs fun c hc=>Ment.all c
 | .t cs=>.t cs fun c hc=>Ment.all c
 | .f fn cs=>.f fn cs fun c hc=>Ment.all c
theorem OBOK.more {E E' : Env} {k:Nat} {W:World} {ob:OB} (hh:∀ b o,E.h b = some o → E'.h b = some o) (hb:E'.blk = E.blk) (hr:E'.row = E.row) (h:OBOK E k W ob):OBOK E' k W ob:=by
 have hm:∀ {x:AV} {u:Value},RAV E true x u → RAV E' true x u:=fun {x u} h=>h.mono (S:=fun _=>True) hh fun _=>⟨Ment.all x,fun k _=>⟨by rw [hb],by rw [hr]⟩⟩
 cases ob with
 | box cs ty=>obtain ⟨vs,hv,hl,h1,hc⟩:=h; exact ⟨vs,by rw [hb]; exact hv,hl,h1,fun i c u h2 h3=>hm (hc i c u h2 h3)⟩
 | row ety sz es=>obtain ⟨xs,h⟩:=h; exact ⟨xs,by rw [hr]; exact h.owns,h.len,h.one,fun i j e x u h1 h2 h3=>(h.rav i j e x u h1 h2 h3).imm hh,by rw [hr,hb]; exact h.blk⟩
 | dead=>trivial
 | mp kk vk g=>obtain ⟨es,c,hv,hw,hf⟩:=h; exact ⟨es,c,by rw [hb]; exact hv,by rw [hr,hb]; exact hw,hf⟩
end Go.AE
end
