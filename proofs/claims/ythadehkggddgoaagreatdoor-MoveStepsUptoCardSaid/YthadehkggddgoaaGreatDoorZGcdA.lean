/- Contracts: nat.common, nat.limbs. Contracts: bits.Sub64, nat.cut, nat.evens. -/
import Derived.Test.YthadehkggddgoaaGreatDoorZLongL
import Derived.Shelf.Spec.BitsCarry
set_option maxRecDepth 100000
set_option maxHeartbeats 0
section
set_option linter.unusedVariables false
set_option linter.unusedSimpArgs false
namespace Go.Proofs.YthadehkggddgoaaGreatDoor
open Go Go.Num
theorem common_ok (x y:Nat) (hx:x < 2 ^ 64) (hy:y < 2 ^ 64) (zx zy r:Int) (hzx:zx = (x:Int)) (hzy:zy = (y:Int)) (hr:r = ((Nat.gcd x y:Nat):Int)):AE.ACall Tryz.prog 198 [] [.v (.int .u64 zx),.v (.int .u64 zy)] [] (.v (.int .u64 r)):=by
 refine AE.ACall.of_walk (fn:=Tryz.f198) (c:=bodyOf Tryz.f198) tabOK Tryz.func198 rfl rfl mixed fun A hA X=>?_
 (refine X.g ?_; cbv)
 refine X.carries (ι:={ p:Nat × Nat × Int × Int // p.1 < 2 ^ 64 ∧ p.2.1 < 2 ^ 64 ∧ p.2.2.1 = (p.1:Int) ∧ p.2.2.2 = (p.2.1:Int) ∧ Nat.gcd x y = Nat.gcd p.2.1 p.1 }) (fun p=>[(0,.v (.int .u64 p.1.2.2.1)),(1,.v (.int .u64 p.1.2.2.2))]) (fun p=>[]) (fun p=>p.1.2.1) ⟨(x,y,zx,zy),hx,hy,hzx,hzy,Nat.gcd_comm _ _⟩ ?_ fun i B hB=>?_
 ·(cbv <;> (and_intros <;> first|rfl|trivial))
 obtain ⟨⟨a,b,za,zb⟩,ha,hb,hza,hzb,hg⟩:=i
 simp only at ha hb hza hzb hg
 by_cases h:0 < b
 ·have c1:A.cmp .gtr zb 0 = true:=gtT hA hzb (b:=0) rfl h
  have hn0:¬ zb = 0:=by omega
  obtain ⟨c,hc⟩:∃ c,c = a % b:=⟨_,rfl⟩
  have hcb:c < b:=by rw [hc]; exact Nat.mod_lt _ h
  obtain ⟨zc,hzc⟩:∃ z:Int,z = (c:Int):=⟨_,rfl⟩
  have e1:A.bin .rem .u64 za zb = zc:=(remU hA hza hzb).trans (by rw [hzc,hc])
  have hg2:Nat.gcd x y = Nat.gcd c b:=by rw [hg,hc,Nat.gcd_rec]
  (repeat' (first|(refine X.g ?_; cbv)|refine X.splitT ?_|refine X.splitF ?_|refine X.sp (fun hc=>?_) (fun hc=>?_)|refine X.needT ?_|refine X.drawX _ _ _ (by kernel_rfl) ?_|refine X.need _ _ _ hn0 ?_|refine X.fork _ _ ?_ ?_))
  all_goals (refine hB ⟨(b,c,zb,zc),hb,by show c < 2 ^ 64; omega,hzb,hzc,hg2⟩ _ (by show c < b; omega) ?_; clear hB; cbv <;> (and_intros <;> first|exact e1|rfl|trivial))
 ·have c1:A.cmp .gtr zb 0 = false:=gtF hA hzb (b:=0) rfl h
  have hb0:b = 0:=by omega
  have hrr:za = r:=by rw [hr,hg,hb0,Nat.gcd_zero_left,hza]
  clear hB
  (repeat' (first|(refine X.g ?_; cbv)|refine X.splitT ?_|refine X.splitF ?_|refine X.sp (fun hc=>?_) (fun hc=>?_)|refine X.needT ?_))
  all_goals (refine X.ret _ (X.done rfl ?_); cbv <;> (and_intros <;> first|exact hrr|rfl|trivial))
def W8:Nat:=256 ^ 8
theorem W8_eq:W8 = 18446744073709551616:=by decide
theorem W8pos:0 < W8:=by decide
def ln (x:Nat):Nat:=((enc x).size + 7) / 8
theorem ln_lt (x:Nat):x < W8 ^ ln x:=by
 have h:x < 256 ^ (enc x).size:=enc_size.1 (Nat.le_refl _)
 rw [W8,← Nat.pow_mul]
 exact Nat.lt_of_lt_of_le h (Nat.pow_le_pow_right (by decide) (by unfold ln; omega))
theorem limbs_ok (t:ByteArray) (ht40:t.size ≤ 2 ^ 40) (x m:Nat) (hx:x = bv t) (hm:m = (t.size + 7) / 8) (es:List (List AE.AV)) (hes:es = ql (dg W8 m x)) :
  AE.ACall Tryz.prog 220 [] [.v (.string t)] [.row 1000072 1 es] (.w 0 1 0 m):=by
 refine AE.ACall.of_walk (fn:=Tryz.f220) (c:=bodyOf Tryz.f220) tabOK Tryz.func220 rfl rfl mixed fun A hA X=>?_
 obtain ⟨n,hn⟩:∃ n,n = t.size:=⟨_,rfl⟩
 rw [← hn] at hm ht40
 have hm8:n ≤ 8 * m:=by omega
 have hsl:A.slen t = (n:Int):=by rw [slen hA,← hn]
 obtain ⟨z,hz⟩:∃ z:Int,z = (m:Int):=⟨_,rfl⟩
 have hq:A.bin .quo .i64 (A.bin .add .i64 (A.slen t) 7) 8 = z:=by
  rw [hz,hm]; exact quoI hA (addI hA hsl (y:=7) (b:=7) rfl (by omega)) (y:=8) (b:=8) rfl (by omega)
 have hmake:AE.MakeR (A.bin .quo .i64 (A.bin .add .i64 (A.slen t) 7) 8) (A.bin .quo .i64 (A.bin .add .i64 (A.slen t) 7) 8) 8:=by rw [hq,hz]; constructor <;> omega
 obtain ⟨e0,he0⟩:∃ e0,e0 = ql (dg W8 m (x % 256 ^ 0)):=⟨_,rfl⟩
 have hrep:A.lrep (A.bin .quo .i64 (A.bin .add .i64 (A.slen t) 7) 8) [.v (.int .u64 0)] = e0:=by
  rw [hq,hz,he0,Nat.pow_zero,Nat.mod_one,dg_zero,← ql_rep]; subst hA; rfl
 (repeat' (first|(refine X.g ?_; cbv)|refine X.splitT ?_|refine X.splitF ?_|refine X.sp (fun hc=>?_) (fun hc=>?_)|refine X.need _ _ _ hmake ?_|refine X.needT ?_))
 have hlen:m = (A.lrep (A.bin .quo .i64 (A.bin .add .i64 (A.slen t) 7) 8) [.v (.int .u64 0)]).length:=by rw [hrep,he0,ql_len,dg_len]
 refine X.loopG _ _ _ (X.fix 0 _ _ _ _ _ rfl (by decide) (X.asW 3 0 1 m _ _ _ rfl hlen ?_))
 (refine X.g ?_; cbv)
 refine X.carries (ι:={ p:Nat × Int × List (List AE.AV) // p.1 ≤ n ∧ p.2.1 = p.1 ∧ p.2.2 = ql (dg W8 m (x % 256 ^ p.1)) }) (fun p=>[(12,.v (.int .i64 p.1.2.1))]) (fun p=>[.row 1000072 1 p.1.2.2]) (fun p=>n - p.1.1) ⟨(0,0,e0),Nat.zero_le _,rfl,he0⟩ ?_ fun i B hB=>?_
 ·(cbv <;> (and_intros <;> first|exact hrep|rfl|trivial))
 obtain ⟨⟨i,j,ei⟩,hi,hj,hei⟩:=i
 simp only at hi hj hei
 by_cases h:i < n
 ·have c1:A.cmp .lss j (A.slen t) = true:=ltT hA hj hsl h
  obtain ⟨hc1,hc2,hc3,hc4⟩:=dg_byte (s:=8) (by decide) (x:=x) (m:=m) (i:=i) (by omega)
  obtain ⟨c,hc⟩:∃ c,c = (x % 256 ^ i) / (256 ^ 8) ^ (i / 8) % 256 ^ 8:=⟨_,rfl⟩
  obtain ⟨b,hb⟩:∃ b,b = x / 256 ^ i % 256:=⟨_,rfl⟩
  rw [← hc] at hc1 hc2
  rw [← hc,← hb] at hc3 hc4
  obtain ⟨ci,hci⟩:∃ ci:Int,ci = (c:Int):=⟨_,rfl⟩
  obtain ⟨k,hk⟩:∃ k,k = i / 8:=⟨_,rfl⟩
  have hr8:i % 8 < 8:=Nat.mod_lt _ (by decide)
  rw [← hk] at hc1 hc4
  have hcell:ei[k]? = some [.v (.int .u64 ci)]:=by rw [hei,hci]; exact ql_get hc1
  have hkm:k < m:=by rw [hk]; omega
  have e4:A.bin .quo .i64 j 8 = (k:Int):=by rw [hk]; exact quoI hA hj (y:=8) (b:=8) rfl (by omega)
  have hkn:A.bin .sub .i64 (A.bin .sub .i64 (A.slen t) 1) j = ((n - 1 - i:Nat):Int):=subI hA (subI hA hsl (y:=1) (b:=1) rfl (by omega) (by omega)) hj (by omega) (by omega)
  have hlt:n - 1 - i < t.data.toList.length:=by rw [size_data,← hn]; omega
  have hg:t.data.toList[n - 1 - i]? = some t.data.toList[n - 1 - i]:=List.getElem?_eq_getElem hlt
  have hsi:A.sidx t (A.bin .sub .i64 (A.bin .sub .i64 (A.slen t) 1) j) = (b:Int):=by
   rw [hkn]; subst hA
   show AE.bAt t _ = _
   rw [bAt_get hg]
   have:=val_digit t.data.toList i _ (by rw [size_data,← hn]; exact h) (by rw [size_data,← hn]; exact hg)
   rw [hb,← this]
   have:val t.data.toList = x:=hx.symm
   rw [this]
  have hin:AE.InR (A.bin .sub .i64 (A.bin .sub .i64 (A.slen t) 1) j) (A.slen t):=by rw [hkn,hsl]; exact ⟨Int.natCast_nonneg _,Int.ofNat_lt.2 (by omega)⟩
  have hsh:A.bin .mul .i64 (A.bin .rem .i64 j 8) 8 = ((i % 8 * 8:Nat):Int):=mulI hA (remI hA hj (y:=8) (b:=8) rfl) (y:=8) (b:=8) rfl (by omega)
  have hshn:0 ≤ A.bin .mul .i64 (A.bin .rem .i64 j 8) 8:=by rw [hsh]; exact Int.natCast_nonneg _
  obtain ⟨e', he'⟩:∃ e', e' = ql (dg W8 m (x % 256 ^ (i + 1))):=⟨_,rfl⟩
  obtain ⟨j', hj'⟩:∃ j' : Int,j' = ((i + 1:Nat):Int):=⟨_,rfl⟩
  have e1:A.bin .add .i64 j 1 = j' := by rw [hj,hj']; exact AE.addN hA (by omega)
  have hpw:(256:Nat) ^ (i % 8) = 2 ^ (i % 8 * 8):=by rw [Nat.mul_comm,Nat.pow_mul]
  have hpw1:(256:Nat) ^ (i % 8 + 1) ≤ 2 ^ 64:=by
   have:(256:Nat) ^ (i % 8 + 1) ≤ 256 ^ 8:=Nat.pow_le_pow_right (by decide) (by omega)
   exact this
  have hbl:b < 256:=by rw [hb]; exact Nat.mod_lt _ (by decide)
  have e2:A.lset ei k [.v (.int .u64 (A.bin .or .u64 ci (A.bin .shl .u64 (A.conv .u64 (A.sidx t (A.bin .sub .i64 (A.bin .sub .i64 (A.slen t) 1) j))) (A.bin .mul .i64 (A.bin .rem .i64 j 8) 8))))] = e' := by
   have g1:A.bin .shl .u64 (A.conv .u64 (A.sidx t (A.bin .sub .i64 (A.bin .sub .i64 (A.slen t) 1) j))) (A.bin .mul .i64 (A.bin .rem .i64 j 8) 8) = ((b * 2 ^ (i % 8 * 8):Nat):Int):=shlU hA (cv64 hA hsi (by omega)) hsh (by omega) (by rw [← hpw]; omega)
   rw [g1,he', hei,hci,W8,← hc4,lsetE hA]
   subst hA
   rw [or_u64 (by rw [← hpw]; omega) (by rw [← hpw]; exact hc2),← hpw]
   exact ql_set _ _ _
  have hat:AE.AtR k ei:=⟨by rw [hei,ql_len,dg_len]; exact hkm⟩
  clear hc1 hc2 hc3 hc4
  (repeat' (first|(refine X.g ?_; cbv)|refine X.splitT ?_|refine X.splitF ?_|refine X.sp (fun hc=>?_) (fun hc=>?_)|refine X.needT ?_|refine X.drawX _ _ _ (by kernel_rfl) ?_|refine X.need _ _ _ hin ?_|refine X.need _ _ _ hshn ?_|refine X.need _ _ _ hat ?_|refine X.idxw _ _ _ _ _ _ _ _ k k e4 hkm (Nat.zero_add k).symm ?_|refine X.ldq _ _ _ _ _ _ _ _ _ hcell ?_))
  all_goals (refine hB ⟨(i + 1,j', e'),h,hj', he'⟩ _ (by show n - (i + 1) < n - i; omega) ?_; clear hB; cbv <;> (and_intros <;> first|exact e1|exact e2|rfl|trivial))
 ·have c1:A.cmp .lss j (A.slen t) = false:=ltF hA hj hsl h
  have hin:i = n:=by omega
  have hee:ei = es:=by
   rw [hei,hes,hin]
   have:x < 256 ^ n:=by rw [hn,hx]; exact bv_lt t
   rw [Nat.mod_eq_of_lt this]
  clear hB
  (repeat' (first|(refine X.g ?_; cbv)|refine X.splitT ?_|refine X.splitF ?_|refine X.sp (fun hc=>?_) (fun hc=>?_)|refine X.needT ?_))
  all_goals (refine X.ret _ (X.done rfl ?_); cbv <;> (and_intros <;> first|exact hee|rfl|trivial))
end Go.Proofs.YthadehkggddgoaaGreatDoor
end
section
set_option linter.unusedVariables false
set_option linter.unusedSimpArgs false
namespace Go.AE
theorem ACall.of_entry {P:Program} {f:Nat} {args:List Value} {v:Value} {own:List OB} {res:AV} (hw:Wfo own) (hr:∀ E,RAV E true res v) (hb:Bl own.length res)
  (h:∀ W,(callFunc f args.toArray).run P W = .ok (.value v) W):ACall P f own (args.map .v) own res:=by
 intro E W vs hM hwf hlen hargs
 have:=vals_of hlen hargs
 subst this
 exact .inr ⟨v,W,h W,E,hM,hw,hr E,hb⟩
end Go.AE
namespace Go.Proofs.YthadehkggddgoaaGreatDoor
open Go Go.Num
theorem sub64_ok (x y b:Nat) (hb:b ≤ 1) (zx zy zb r c:Int) (hx:zx = (x:Int)) (hy:zy = (y:Int)) (hz:zb = (b:Int)) (hr:r = (((x + 18446744073709551616 - y - b) % 18446744073709551616:Nat):Int)) (hc:c = ((if x < y + b then 1 else 0:Nat):Int)) :
  AE.ACall Tryz.prog 238 [] [.v (.int .u64 zx),.v (.int .u64 zy),.v (.int .u64 zb)] [] (.t [.v (.int .u64 r),.v (.int .u64 c)]):=by
 subst hx hy hz hr hc
 refine AE.ACall.of_entry (v:=.tuple #[.int .u64 (((x + 18446744073709551616 - y - b) % 18446744073709551616:Nat):Int),.int .u64 ((if x < y + b then 1 else 0:Nat):Int)]) (args:=[.int .u64 (x:Int),.int .u64 (y:Int),.int .u64 (b:Int)]) (fun k cs ty h=>by simp at h) (fun E=>?_) (.t _ fun c hc=>?_) fun W=>?_
 ·refine .t _ _ [_,_] rfl fun i c u h1 h2=>?_
  match i with
  | 0=>simp at h1 h2; subst h1; subst h2; exact .v _ _ rfl
  | 1=>simp at h1 h2; subst h1; subst h2; exact .v _ _ rfl
  | i + 2=>simp at h1
 ·simp only [List.mem_cons,List.not_mem_nil,or_false] at hc
  rcases hc with rfl|rfl <;> exact .v _
 ·rw [run_callFunc_extern Tryz.func238 (by kernel_rfl) (by kernel_rfl) (by kernel_rfl) (e:=sub64Entry) (by kernel_rfl),run_sub64 x y b hb]
  rfl
theorem ln_le {x m:Nat}:ln x ≤ m ↔ x < W8 ^ m:=by
 rw [W8,← Nat.pow_mul,← enc_size]; unfold ln; omega
structure Win (L:List Nat) (lo n x:Nat):Prop where
 len:lo + n ≤ L.length
 dig:(L.drop lo).take n = dg W8 n x
 lt:x < W8 ^ n
theorem Win.get {L:List Nat} {lo n x i:Nat} (h:Win L lo n x) (hi:i < n):L[lo + i]? = some (x / W8 ^ i % W8):=by
 have h1:((L.drop lo).take n)[i]? = L[lo + i]?:=by rw [List.getElem?_take_of_lt hi,List.getElem?_drop]
 rw [← h1,h.dig,dg_get hi]
theorem dg_take8 {B:Nat}:∀ {m n x:Nat},n ≤ m → (dg B m x).take n = dg B n x
 | _,0,_,_=>by simp [dg]
 | 0,n + 1,_,h=>by omega
 | m + 1,n + 1,x,h=>by rw [dg,dg,List.take_succ_cons,dg_take8 (by omega)]
theorem Win.less {L:List Nat} {lo n x m:Nat} (h:Win L lo n x) (hm:m ≤ n) (hx:x < W8 ^ m):Win L lo m x :=
 ⟨by have:=h.len; omega,by rw [← dg_take8 hm,← h.dig,List.take_take,Nat.min_eq_left hm],hx⟩
theorem cut_ok (L:List Nat) (lo n x m:Nat) (hw:Win L lo n x) (hn:n ≤ 2 ^ 40) (hm:m = ln x) (es:List (List AE.AV)) (hes:es = ql L) :
  AE.ACall Tryz.prog 237 [.row 1000072 1 es] [.w 0 1 lo n] [.row 1000072 1 es] (.w 0 1 lo m):=by
 refine AE.ACall.of_walk (fn:=Tryz.f237) (c:=bodyOf Tryz.f237) tabOK Tryz.func237 rfl rfl mixed fun A hA X=>?_
 (refine X.g ?_; cbv)
 refine X.carries (ι:={ p:Nat // p ≤ n ∧ Win L lo p x }) (fun p=>[(0,.w 0 1 lo p.1)]) (fun _=>[.row 1000072 1 es]) (fun p=>p.1) ⟨n,Nat.le_refl _,hw⟩ ?_ fun i B hB=>?_
 ·(cbv <;> (and_intros <;> first|rfl|trivial))
 obtain ⟨k,hk,hwk⟩:=i
 have hmk:m ≤ k:=by rw [hm]; exact ln_le.2 hwk.lt
 by_cases hk0:k = 0
 ·subst hk0
  have c1:A.cmp .gtr (Int.ofNat 0) 0 = false:=gtF hA (x:=Int.ofNat 0) (a:=0) rfl (b:=0) rfl (by omega)
  have h0:0 = m:=by omega
  clear hB
  (repeat' (first|(refine X.g ?_; cbv)|refine X.splitT ?_|refine X.splitF ?_|refine X.sp (fun hc=>?_) (fun hc=>?_)|refine X.needT ?_))
  all_goals (refine X.ret _ (X.done rfl ?_); cbv <;> (and_intros <;> first|exact h0|rfl|trivial))
 ·obtain ⟨i,hki⟩:∃ i,k = i + 1:=⟨k - 1,by omega⟩
  have c1:A.cmp .gtr (Int.ofNat k) 0 = true:=gtT hA (x:=Int.ofNat k) (a:=k) rfl (b:=0) rfl (by omega)
  have z1:A.bin .sub .i64 (Int.ofNat k) 1 = (i:Int):=(subI hA (x:=Int.ofNat k) (a:=k) rfl (y:=1) (b:=1) rfl (by omega) (by omega)).trans (by omega)
  obtain ⟨d,hd⟩:∃ d,d = x / W8 ^ i % W8:=⟨_,rfl⟩
  obtain ⟨w,hww⟩:∃ w:Int,w = (d:Int):=⟨_,rfl⟩
  obtain ⟨p,hp⟩:∃ p,p = lo + i:=⟨_,rfl⟩
  have hcell:es[p]? = some [.v (.int .u64 w)]:=by rw [hes,hww,hp,hd]; exact ql_get (hwk.get (by omega))
  have hlt:x / W8 ^ i < W8:=by
   rw [Nat.div_lt_iff_lt_mul (Nat.pow_pos W8pos),Nat.mul_comm,← Nat.pow_succ]; have h2:=hwk.lt; rw [hki] at h2; exact h2
  rw [Nat.mod_eq_of_lt hlt] at hd
  by_cases h:d = 0
  ·have c2:A.cmp .eql w 0 = true:=eqT hA hww (b:=0) rfl h
   have hxi:x < W8 ^ i:=by
    apply Nat.lt_of_not_le; intro h2
    have:=Nat.div_pos h2 (Nat.pow_pos W8pos)
    omega
   have hcut:AE.CutsAt none (some (A.bin .sub .i64 (Int.ofNat k) 1)) 0 i k:=by
    constructor
    ·exact .inl ⟨rfl,rfl⟩
    ·exact .inr (by rw [z1,Nat.zero_add])
    ·omega
   (repeat' (first|(refine X.g ?_; cbv)|refine X.splitT ?_|refine X.splitF ?_|refine X.sp (fun hc=>?_) (fun hc=>?_)|refine X.needT ?_|refine X.idxw _ _ _ _ _ _ _ _ i p z1 (show i < k by omega) hp ?_|refine X.ldq _ _ _ _ _ _ _ _ _ hcell ?_|refine X.cutw _ _ _ _ _ _ _ _ _ 0 i lo hcut rfl ?_))
   all_goals (refine hB ⟨i,by show i ≤ n; omega,hwk.less (by omega) hxi⟩ _ (by show i < k; omega) ?_; clear hB; cbv <;> (and_intros <;> first|rfl|rfl|trivial))
  ·have c2:A.cmp .eql w 0 = false:=eqF hA hww (b:=0) rfl h
   have h0:k = m:=by
    have:¬ ln x ≤ i:=by
     rw [ln_le]; intro h2
     rw [Nat.div_eq_of_lt h2] at hd; exact h hd
    omega
   clear hB
   (repeat' (first|(refine X.g ?_; cbv)|refine X.splitT ?_|refine X.splitF ?_|refine X.sp (fun hc=>?_) (fun hc=>?_)|refine X.needT ?_|refine X.idxw _ _ _ _ _ _ _ _ i p z1 (show i < k by omega) hp ?_|refine X.ldq _ _ _ _ _ _ _ _ _ hcell ?_))
   all_goals (refine X.ret _ (X.done rfl ?_); cbv <;> (and_intros <;> first|exact h0|rfl|trivial))
def tz (x:Nat):Nat:=if h:x = 0 then 0 else if x % 2 = 1 then 0 else tz (x / 2) + 1
decreasing_by omega
theorem tz_spec:∀ x:Nat,0 < x → ∃ o,o % 2 = 1 ∧ x = o * 2 ^ tz x:=by
 intro x
 induction x using Nat.strongRecOn with
 | _ x ih =>
  intro h
  unfold tz
  rw [dif_neg (by omega)]
  by_cases h1:x % 2 = 1
  ·rw [if_pos h1]; exact ⟨x,h1,by simp⟩
  ·rw [if_neg h1]
   obtain ⟨o,ho,hx⟩:=ih (x / 2) (by omega) (by omega)
   refine ⟨o,ho,?_⟩
   rw [Nat.pow_succ,← Nat.mul_assoc,← hx]; omega
theorem tz_of {o k:Nat} (h:o % 2 = 1):tz (o * 2 ^ k) = k:=by
 induction k with
 | zero=>rw [Nat.pow_zero,Nat.mul_one,tz,dif_neg (by omega),if_pos h]
 | succ k ih =>
  have h0:0 < o * 2 ^ k:=Nat.mul_pos (by omega) (Nat.two_pow_pos k)
  rw [Nat.pow_succ,← Nat.mul_assoc,tz,dif_neg (by omega),if_neg (by omega),Nat.mul_div_cancel _ (by decide),ih]
theorem tz_digit {x k d:Nat} (h:x = d * W8 ^ k) (hd:0 < d):tz x = 64 * k + tz d:=by
 obtain ⟨o,ho,hx⟩:=tz_spec d hd
 have e:W8 ^ k = 2 ^ (64 * k):=by rw [W8,show (256:Nat) ^ 8 = 2 ^ 64 from rfl,← Nat.pow_mul]
 have:x = o * 2 ^ (64 * k + tz d):=by
  rw [h,e,Nat.add_comm,Nat.pow_add,← Nat.mul_assoc,← hx]
 rw [this,tz_of ho]
theorem tz_low {x d r k:Nat} (h:x = (r * W8 + d) * W8 ^ k) (hd:0 < d) (hdW:d < W8):tz x = 64 * k + tz d:=by
 obtain ⟨o,ho,hx⟩:=tz_spec d hd
 have hk:tz d < 64:=by
  apply Nat.lt_of_not_le; intro h2
  have h3:2 ^ 64 ≤ 2 ^ tz d:=Nat.pow_le_pow_right (by decide) h2
  have h4:2 ^ tz d ≤ o * 2 ^ tz d:=Nat.le_mul_of_pos_left _ (by omega)
  have:W8 = 2 ^ 64:=rfl
  omega
 have h1:r * W8 + d = (r * 2 ^ (64 - tz d) + o) * 2 ^ tz d:=by
  rw [Nat.add_mul,← hx,Nat.mul_assoc,← Nat.pow_add,Nat.sub_add_cancel (by omega)]; rfl
 have h5:(r * 2 ^ (64 - tz d) + o) % 2 = 1:=by
  have:r * 2 ^ (64 - tz d) = 2 * (r * 2 ^ (63 - tz d)):=by
   rw [show 64 - tz d = (63 - tz d) + 1 by omega,Nat.pow_succ]
   rw [← Nat.mul_assoc,Nat.mul_comm]
  omega
 have h6:tz (r * W8 + d) = tz d:=by rw [h1,tz_of h5]
 rw [tz_digit h (by omega),h6]
theorem ctz_tz {d:Nat} (h:0 < d) (hd:d < 2 ^ 64):Lib.ctz 64 d = tz d:=by
 obtain ⟨m,h1,h2⟩:=Lib.ctzFrom_spec 64 d h hd
 rw [Lib.ctz,if_neg (by omega)]
 conv=>rhs; rw [h1,Nat.mul_comm]
 rw [tz_of (by omega)]
theorem evens_ok (L:List Nat) (lo n x:Nat) (hw:Win L lo n x) (hn:n ≤ 2 ^ 40) (hx:0 < x) (r:Int) (hr:r = ((tz x:Nat):Int)) (es:List (List AE.AV)) (hes:es = ql L) :
  AE.ACallG GG Tryz.prog 221 [.row 1000072 1 es] [.w 0 1 lo n] [.row 1000072 1 es] (.v (.int .i64 r)):=by
 refine AE.ACallG.of_walk (fn:=Tryz.f221) (c:=bodyOf Tryz.f221) GG_stays tabOK Tryz.func221 rfl rfl mixed fun A hA X=>?_
 have hW8:W8 = 18446744073709551616:=W8_eq
 (refine X.g ?_; cbv)
 refine X.carries (ι:={ p:Nat × Int // p.2 = p.1 ∧ p.1 < n ∧ x % W8 ^ p.1 = 0 }) (fun p=>[(3,.v (.int .i64 p.1.2))]) (fun _=>[.row 1000072 1 es]) (fun p=>n - p.1.1) ⟨(0,0),rfl,by
  show 0 < n
  apply Nat.pos_of_ne_zero; intro h0
  have:=hw.lt; rw [h0] at this; simp at this; omega,by simp [Nat.mod_one]⟩ ?_ fun i B hB=>?_
 ·(cbv <;> (and_intros <;> first|rfl|trivial))
 obtain ⟨⟨i,j⟩,hj,hi,hm⟩:=i
 simp only at hj hi hm
 obtain ⟨d,hd⟩:∃ d,d = x / W8 ^ i % W8:=⟨_,rfl⟩
 have hdW:d < W8:=by rw [hd]; exact Nat.mod_lt _ W8pos
 obtain ⟨w,hww⟩:∃ w:Int,w = (d:Int):=⟨_,rfl⟩
 obtain ⟨p,hp⟩:∃ p,p = lo + i:=⟨_,rfl⟩
 have hcell:es[p]? = some [.v (.int .u64 w)]:=by rw [hes,hww,hp,hd]; exact ql_get (hw.get hi)
 have hxe:x = x / W8 ^ i * W8 ^ i:=by
  have:=Nat.div_add_mod x (W8 ^ i)
  rw [hm,Nat.add_zero,Nat.mul_comm] at this; exact this.symm
 by_cases h:d = 0
 ·have c1:A.cmp .eql w 0 = true:=eqT hA hww (b:=0) rfl h
  obtain ⟨j', hj'⟩:∃ j' : Int,j' = ((i + 1:Nat):Int):=⟨_,rfl⟩
  have e1:A.bin .add .i64 j 1 = j' := by rw [hj,hj']; exact AE.addN hA (by omega)
  have hm2:x % W8 ^ (i + 1) = 0:=by rw [mod_succ,← hd,h,hm]; simp
  have hi2:i + 1 < n:=by
   apply Nat.lt_of_not_le; intro h2
   have h3:n = i + 1:=by omega
   have h4:=hw.lt
   rw [h3] at h4
   rw [Nat.mod_eq_of_lt h4] at hm2
   omega
  (repeat' (first|(refine X.g ?_; cbv)|refine X.splitT ?_|refine X.splitF ?_|refine X.sp (fun hc=>?_) (fun hc=>?_)|refine X.needT ?_|refine X.idxw _ _ _ _ _ _ _ _ i p hj hi hp ?_|refine X.ldq _ _ _ _ _ _ _ _ _ hcell ?_))
  all_goals (refine hB ⟨(i + 1,j'),hj', hi2,hm2⟩ _ (by show n - (i + 1) < n - i; omega) ?_; clear hB; cbv <;> (and_intros <;> first|exact e1|rfl|trivial))
 ·have c1:A.cmp .eql w 0 = false:=eqF hA hww (b:=0) rfl h
  obtain ⟨zt,hzt⟩:∃ z:Int,z = (Lib.ctz 64 d:Int):=⟨_,rfl⟩
  have kt:=tz64_ok d (by omega) w zt hww hzt
  have hz:zt = ((tz d:Nat):Int):=by rw [hzt,ctz_tz (by omega) (by omega)]
  have htd:tz d < 64:=by
   obtain ⟨o,ho,hx2⟩:=tz_spec d (by omega)
   apply Nat.lt_of_not_le; intro h2
   have h3:2 ^ 64 ≤ 2 ^ tz d:=Nat.pow_le_pow_right (by decide) h2
   have h4:2 ^ tz d ≤ o * 2 ^ tz d:=Nat.le_mul_of_pos_left _ (by omega)
   omega
  have hfin:A.bin .add .i64 (A.bin .mul .i64 64 j) zt = r:=by
   have h5:tz x = 64 * i + tz d:=by
    have h6:=Nat.div_add_mod (x / W8 ^ i) W8
    refine tz_low (r:=x / W8 ^ i / W8) ?_ (by omega) hdW
    rw [hd,Nat.mul_comm (x / W8 ^ i / W8),h6]; exact hxe
   rw [hr,h5]
   exact addI hA (mulI hA (x:=64) (a:=64) rfl hj (by omega)) hz (by omega)
  clear hB
  (repeat' (first|(refine X.g ?_; cbv)|refine X.splitT ?_|refine X.splitF ?_|refine X.sp (fun hc=>?_) (fun hc=>?_)|refine X.needT ?_|refine X.idxw _ _ _ _ _ _ _ _ i p hj hi hp ?_|refine X.ldq _ _ _ _ _ _ _ _ _ hcell ?_|refine X.callsGA [] kt ?_))
  all_goals (refine X.ret _ (X.done rfl ?_); cbv <;> (and_intros <;> first|exact hfin|rfl|trivial))
end Go.Proofs.YthadehkggddgoaaGreatDoor
end
