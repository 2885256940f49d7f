/- PROVED HERE: WorldBytesUptoSaid: whatever state and whatever bytes come in, gantlaw2.WorldBytes returns true and both read behind the call as they read before. CONDITIONS: what is read is of bulk at most 1048576 (the given second form); no other. -/
import Derived.Test.YtjbnffclpebkkaaLaw
import Derived.Test.YtjbnffclpebkkaaAE15
import Derived.WalkKit
import Derived.ProofKit
import Derived.OpenShut
import Derived.JoinedCond
import Derived.WideKeyArgs
set_option linter.unusedVariables false
namespace Go.Proofs.Ytjbnffclpebkkaa.worldBytes
open Go Go.ChangeShapes Go.WideShapes Go.ChangeAt Go.RowKit

theorem own : ownKnob Try.prog.godebug = none := by kernel_rfl

theorem bulkAll_sum {H : Type} : ∀ l : List (DataW H), Rows.uptoBulkAll l = (l.map Rows.uptoBulk).sum
  | [] => rfl
  | d :: l => by simp only [Rows.uptoBulkAll, List.map_cons, List.sum_cons, bulkAll_sum l]
theorem bulkOK {H : Type} : AE.BulkOK (H := H) Rows.uptoBulk where
  one := by
    intro d
    cases d with
    | lit l => cases l <;> simp [Rows.uptoBulk]
    | nil => simp [Rows.uptoBulk]
    | ptr d => simp [Rows.uptoBulk]
    | slice elems spare => simp [Rows.uptoBulk]
    | agg parts => simp [Rows.uptoBulk]
    | iface t d => simp [Rows.uptoBulk]
    | map entries => simp [Rows.uptoBulk]
    | held h => simp [Rows.uptoBulk]
  str := by intro l; simp [Rows.uptoBulk]
  agg := by intro l; simp only [Rows.uptoBulk, bulkAll_sum]; omega
  slice := by intro l m; simp only [Rows.uptoBulk, bulkAll_sum]; omega

section
variable {H : Type} {enc : TypeId × Value → H} {W : World} {E : AE.Env}
def wQ (q : Q) : Nat := 1 + (q.num.size + (q.den.size + 0))
theorem openQ : AE.Opens enc Try.prog W E Rows.uptoBulk 46 Q.av wQ :=
  (AE.Opens.struct bulkOK Try.underlying46 (by kernel_rfl)
    (.cons (.bool bulkOK Try.underlying4) (sz := 1) (by kernel_rfl) rfl (.cons (.str bulkOK Try.underlying9) (sz := 1) (by kernel_rfl) rfl (.cons (.str bulkOK Try.underlying9) (sz := 1) (by kernel_rfl) rfl .nil)))).to
    (fun p => ⟨p.1, p.2.1, p.2.2.1⟩) (fun _ => rfl) (fun _ => Nat.le_refl _)
def wV (v : V2) : Nat := wQ v.x + (wQ v.y + 0)
theorem openV : AE.Opens enc Try.prog W E Rows.uptoBulk 48 V2.av wV :=
  (AE.Opens.struct bulkOK Try.underlying48 (by kernel_rfl) (.cons openQ (sz := 3) (by kernel_rfl) rfl (.cons openQ (sz := 3) (by kernel_rfl) rfl .nil))).to
    (fun p => ⟨p.1, p.2.1⟩) (fun _ => by simp [V2.av]) (fun _ => Nat.le_refl _)
theorem openT : AE.Opens enc Try.prog W E Rows.uptoBulk 50 (fun p : Bool × Q => .b p.1 :: p.2.av) (fun p => 1 + (wQ p.2 + 0)) :=
  (AE.Opens.struct bulkOK Try.underlying50 (by kernel_rfl) (.cons (.bool bulkOK Try.underlying4) (sz := 1) (by kernel_rfl) rfl (.cons openQ (sz := 3) (by kernel_rfl) rfl .nil))).to
    (fun p => (p.1, p.2.1)) (fun _ => by simp) (fun _ => Nat.le_refl _)
def wF (f : Fr) : Nat := wV f.at' + ((1 + (wQ f.t + 0)) + 0)
theorem openF : AE.Opens enc Try.prog W E Rows.uptoBulk 52 Fr.av wF :=
  (AE.Opens.struct bulkOK Try.underlying52 (by kernel_rfl) (.cons openV (sz := 6) (by kernel_rfl) rfl (.cons openT (sz := 4) (by kernel_rfl) rfl .nil))).to
    (fun p => ⟨p.1, p.2.1.1, p.2.1.2⟩) (fun _ => by simp [Fr.av, V2.av]) (fun _ => Nat.le_refl _)
def wA (x : ArmS) : Nat := ((x.q.map wQ).sum + 1) + (((x.v.map wQ).sum + 1) + (1 + (1 + 0)))
theorem openA (hE : ∀ b o, W.heap[b]? = some o → E.h b = some o) : AE.Opens enc Try.prog W E Rows.uptoBulk 42 ArmS.av wA :=
  (AE.Opens.struct bulkOK Try.underlying42 (by kernel_rfl)
    (.cons (AE.Opens.slice hE bulkOK (sz := 3) (by decide) Try.underlying40 (by kernel_rfl) (openQ (enc := enc))) (sz := 1) (by kernel_rfl) rfl
      (.cons (AE.Opens.slice hE bulkOK (sz := 3) (by decide) Try.underlying40 (by kernel_rfl) (openQ (enc := enc))) (sz := 1) (by kernel_rfl) rfl
        (.cons (.bool bulkOK Try.underlying4) (sz := 1) (by kernel_rfl) rfl (.cons (.int bulkOK Try.underlying3) (sz := 1) (by kernel_rfl) rfl .nil))))).to
    (fun p => ⟨p.1, p.2.1, p.2.2.1, p.2.2.2.1⟩) (fun _ => by simp only [ArmS.av, qsAv_eq]; rfl) (fun _ => Nat.le_refl _)
def wS (s : StS) : Nat := 1 + (((s.arms.map wA).sum + 1) + (((s.parts.map wF).sum + 1) + (((s.people.map wV).sum + 1) + (((s.opens.map fun _ => 1).sum + 1) + 0))))
theorem openS (hE : ∀ b o, W.heap[b]? = some o → E.h b = some o) : AE.Opens enc Try.prog W E Rows.uptoBulk 27 StS.av wS :=
  (AE.Opens.struct bulkOK Try.underlying27 (by kernel_rfl)
    (.cons (.int bulkOK Try.underlying3) (sz := 1) (by kernel_rfl) rfl
      (.cons (AE.Opens.slice hE bulkOK (sz := 4) (by decide) Try.underlying22 (by kernel_rfl) (openA hE)) (sz := 1) (by kernel_rfl) rfl
        (.cons (AE.Opens.slice hE bulkOK (sz := 10) (by decide) Try.underlying23 (by kernel_rfl) openF) (sz := 1) (by kernel_rfl) rfl
          (.cons (AE.Opens.slice hE bulkOK (sz := 6) (by decide) Try.underlying24 (by kernel_rfl) openV) (sz := 1) (by kernel_rfl) rfl
            (.cons (AE.Opens.slice hE bulkOK (sz := 1) (by decide) Try.underlying25 (by kernel_rfl) (.bool bulkOK Try.underlying4)) (sz := 1) (by kernel_rfl) rfl .nil)))))).to
    (fun p => ⟨p.1, p.2.1, p.2.2.1, p.2.2.2.1, p.2.2.2.2.1⟩) (fun _ => by simp only [StS.av, lsAv_eq]; rfl) (fun _ => Nat.le_refl _)
theorem openB (hE : ∀ b o, W.heap[b]? = some o → E.h b = some o) : AE.Opens enc Try.prog W E Rows.uptoBulk 28 (fun b : List UInt8 => [.l 1 (bl b)]) (fun b => b.length) :=
  (AE.Opens.slice hE bulkOK (sz := 1) (by decide) Try.underlying28 (by kernel_rfl) (.intWf bulkOK Try.underlying5)).to
    (fun l => l.map fun n => UInt8.ofNat n.1.toNat) (fun l => by
      have : bl (l.map fun n => UInt8.ofNat n.1.toNat) = l.map fun n => [AE.AV.v (.int .u8 n.1)] := by
        rw [bl_eq, List.map_map]
        apply List.map_congr_left
        intro n _
        have := bounds_u8 n.2
        have e : ((UInt8.ofNat n.1.toNat).toNat : Int) = n.1 := by simp; omega
        simp only [Function.comp]; rw [e]
      rw [this]) (fun l => by
      rw [List.length_map]
      have : ∀ m : List { n : Int // (Lit.int .u8 n).wf = true }, (m.map fun _ => 1).sum = m.length := by
        intro m; induction m with
        | nil => rfl
        | cons x m ih => simp only [List.map_cons, List.sum_cons, ih, List.length_cons]; omega
      rw [this]; omega)
end

theorem sum_le {α : Type} (f g : α → Nat) (c : Nat) (h : ∀ x, f x ≤ c * g x) : ∀ l : List α, (l.map f).sum ≤ c * (l.map g).sum
  | [] => by simp
  | x :: l => by
    have h1 := h x
    have h2 := sum_le f g c h l
    simp only [List.map_cons, List.sum_cons, Nat.mul_add]
    omega
theorem roomQ (q : Q) : q.room ≤ 30 * wQ q := by simp only [Q.room, wQ]; omega
theorem roomV (v : V2) : v.room ≤ 30 * wV v := by have := roomQ v.x; have := roomQ v.y; simp only [V2.room, wV]; omega
theorem roomF (f : Fr) : f.room ≤ 40 * wF f := by have := roomV f.at'; have := roomQ f.t; simp only [Fr.room, wF]; omega
theorem roomA (x : ArmS) : x.room ≤ 40 * wA x := by
  have h1 := sum_le Q.room wQ 30 roomQ x.q
  have h2 := sum_le Q.room wQ 30 roomQ x.v
  simp only [ArmS.room, qsRoom, wA]; omega
theorem roomS (s : StS) : s.room ≤ 60 * wS s := by
  have h1 := sum_le ArmS.room wA 40 roomA s.arms
  have h2 := sum_le Fr.room wF 40 roomF s.parts
  have h3 := sum_le V2.room wV 30 roomV s.people
  have h4 := sum_le bRoom (fun _ => 1) 10 (fun x => by simp [bRoom]) s.opens
  simp only [StS.room, wS]; omega

/-- What a call that keeps all old blocks leaves behind: the arguments read as they did. -/
theorem post_kept {H : Type} {enc : TypeId × Value → H} {W W' : World} {args : Array Value} {ds gs : List (DataW H)} {before : List MemPlace} {v : Value}
    (hW : DataW.Whole enc Try.prog Try.f3.params.toList Rows.worldBytesSpec.vars false W args.toList ds gs before) (hv : v = .bool true)
    (hfn : (Rows.worldBytesSpec.fn H (ds ++ gs)) = { results := [.lit (.bool true)], args := ds }) (hgs : gs = [])
    (hos : W'.os = W.os) (hout : W'.output = W.output) (hheap : ∀ b, b < W.heap.size → W'.heap[b]? = W.heap[b]?) :
    Rows.worldBytesSpec.post enc Try.prog Try.f3 false true false false W args v W' := by
  have hW' := hW
  obtain ⟨p, q, hA, hV, hpq, hfz, hnd⟩ := hW
  have hvars : Rows.worldBytesSpec.vars = [] := rfl
  rw [hvars] at hV
  obtain ⟨hq1, hq2⟩ := trodVars_none hV
  subst hq1; subst hq2
  have hlt := hA.lt
  have hsame : ∀ pl ∈ p, W.sameAt W' pl := by
    intro pl hpl
    have h1 := hlt pl hpl
    cases pl with
    | cell b off => simp only [World.sameAt, World.cell?]; rw [hheap b h1]
    | map b => exact hheap b h1
  have hargs : ∀ sp : Nat → Bool, (∀ pl ∈ p, sp pl.block = true) → DataW.TrodAll enc Try.prog W' 0 sp true Try.f3.params.toList args.toList ds p := by
    intro sp hsp
    rw [Try.params3] at hA ⊢
    obtain ⟨v0, vs0, d0, ds0, p0, q0, hargs, rfl, rfl, h0, r0⟩ := trodAll_cons hA
    obtain ⟨v1, vs1, d1, ds1, p1, q1, rfl, rfl, rfl, h1, r1⟩ := trodAll_cons r0
    obtain ⟨rfl, rfl, rfl⟩ := trodAll_nil r1
    rw [hargs]
    exact trodAll_cons_mk (Go.WideElems.Trod_stays (by kernel_rfl) (by kernel_rfl) (by decide +kernel) h0 (fun pl hpl => hsame pl (by simp [hpl])) (fun pl hpl => hsp pl (by simp [hpl])))
      (trodAll_cons_mk (Go.WideElems.Trod_stays (by kernel_rfl) (by kernel_rfl) (by decide +kernel) h1 (fun pl hpl => hsame pl (by simp [hpl])) (fun pl hpl => hsp pl (by simp [hpl]))) trodAll_mk0)
  have hold : ∀ pl ∈ p, (fun b => decide (b < W.heap.size)) pl.block = true := fun pl hpl => by simpa using hlt pl hpl
  refine ⟨ds, [], before, [], p, [], hW', ?_, ?_, ?_, ?_, fun h => by cases h⟩
  · rw [hfn, hv]
    exact trodAll_cons_mk (shut_bool Try.underlying4 _) trodAll_mk0
  · rw [hfn]; exact hargs _ hold
  · rw [hfn]; rfl
  · refine ⟨hos, hout, fun i hi => ?_⟩
    rw [hheap i hi]
    cases W.heap[i]? with
    | none => rfl
    | some o => cases o <;> simp

theorem contract (H : Type) (enc : TypeId × Value → H) (W : World) (base : Nat) (args : Array Value) (ds gs : List (DataW H)) (before : List MemPlace)
    (hval : ∀ (j : Nat) t v, Try.f3.params[j]? = some t → args[j]? = some v → Value.okWide Try.prog W .any base t v)
    (hW : DataW.Whole enc Try.prog Try.f3.params.toList Rows.worldBytesSpec.vars false W args.toList ds gs before) (hk : Rows.uptoSmall H (ds ++ gs) = true) :
    Calls Try.prog 3 args W fun e W' => ∃ v, e = .returned v ∧ Rows.worldBytesSpec.post enc Try.prog Try.f3 false true false false W args v W' := by
  have hW' := hW
  obtain ⟨p, q, hA0, hV, rfl, hfz, hnd⟩ := hW
  have hA : DataW.TrodAll enc Try.prog W 0 (fun _ => true) true Try.f3.params.toList args.toList ds p := hA0
  rw [Try.params3] at hA hval
  obtain ⟨v0, vs0, d0, ds0, p0, q0, hargs, rfl, rfl, h0, r0⟩ := trodAll_cons hA
  obtain ⟨v1, vs1, d1, ds1, p1, q1, rfl, rfl, rfl, h1, r1⟩ := trodAll_cons r0
  obtain ⟨rfl, rfl, rfl⟩ := trodAll_nil r1
  obtain rfl : args = #[v0, v1] := by cases args; simp_all
  have hvars : Rows.worldBytesSpec.vars = [] := rfl
  rw [hvars] at hV
  obtain ⟨rfl, rfl⟩ := trodVars_none hV
  obtain ⟨cs, rfl⟩ : ∃ cs, v0 = .agg cs := by
    have := hval 0 27 v0 rfl rfl
    simp only [Value.okWide, Try.underlying27] at this
    obtain ⟨cs, h, _⟩ := this
    exact ⟨cs, h⟩
  obtain ⟨a, len, cap, rfl⟩ := okWide_slice Try.underlying28 (hval 1 28 v1 rfl rfl)
  let E : AE.Env := { h := fun b => W.heap[b]?, blk := fun _ => 0, row := fun _ => .nilFunc }
  have hE : ∀ b o, W.heap[b]? = some o → E.h b = some o := fun b o h => h
  obtain ⟨n0, t0⟩ := h0
  obtain ⟨n1, t1⟩ := h1
  obtain ⟨s, hs, hsw⟩ := openS (enc := enc) hE n0 _ _ t0
  obtain ⟨b, hb, hbw⟩ := openB (enc := enc) hE n1 _ _ t1
  have hbound : Rows.uptoBulk d0 + Rows.uptoBulk d1 ≤ 1048576 := by
    have h : Rows.uptoBulkAll ([d0, d1] ++ []) ≤ 1048576 := of_decide_eq_true hk
    simp only [List.append_nil, Rows.uptoBulkAll] at h
    omega
  have hroom := roomS s
  simp only at hsw hbw
  have hM : AE.Mem W (AE.mineOf E []) (AE.knOf E []) E [] W := by
    refine ⟨rfl, rfl, rfl, Nat.le_refl _, fun _ _ _ => rfl, fun b o h => h, fun b o h => .inl (by simp only [AE.knOf]; rw [h]; simp), fun k ob h => by simp at h, fun k k' ob ob' h => by simp at h, fun k ob h => by simp at h, fun k b h => by simp [AE.knOf, AE.isBox] at h⟩
  have hcall := law_ok s (by omega) _ _ _ _ s.tick rfl rfl rfl rfl rfl b (by omega) (bl b) rfl E W [.agg cs, .slice a len cap] hM (fun k cs ty h => by simp at h) rfl (fun i x u hx hu => by
    match i with
    | 0 =>
      simp at hx hu; subst hx; subst hu
      refine ⟨?_, .a _ fun c hc => ?_⟩
      · have : cs = cs.toList.toArray := by simp
        rw [this]
        refine .a _ _ cs.toList ?_ ?_ ?_
        · exact hs.1
        · exact hs.2.1
        · intro i c u hc hu; exact (hs.2.2 i c u hc hu).up
      · simp at hc; rcases hc with rfl | rfl | rfl | rfl | rfl <;> constructor
    | 1 =>
      simp at hx hu; subst hx; subst hu
      exact ⟨(hb.2.2 0 _ _ rfl rfl).up, .l _ _⟩
    | i + 2 => simp at hx)
  have hCalls : Calls Try.prog 3 #[.agg cs, .slice a len cap] W fun e W' => ∃ v, e = .returned v ∧ ∃ E', AE.Mem W (AE.mineOf E []) (AE.knOf E []) E' [] W' ∧ AE.Wfo [] ∧ AE.RAV E' true (.b true) v ∧ AE.Bl 0 (.b true) := by
    rcases hcall with ⟨_, h⟩ | ⟨u, W', h, _⟩
    · exact h
    · rw [Try.call3] at h; cases h
  refine hCalls.mono fun e W' ⟨v, he, E', hM', _, hv, _⟩ => ⟨v, he, ?_⟩
  refine post_kept hW' hv.bInv rfl rfl hM'.os hM'.output fun b hb => hM'.keep b hb ?_
  rintro ⟨i, ob, h, _⟩
  simp at h

set_option maxRecDepth 100000 in
theorem lifted (os : Os) (started : os.Started) (H : Type) (enc : TypeId × Value → H) (F : Stop.Interp) :
    ReturnsInHanded {} Try.checked os 3 .any ((Rows.OpenSpec.upto Rows.worldBytesSpec).pre6 enc Try.prog Try.f3 Rows.worldBytesUptoRow.domain false) (((Rows.OpenSpec.upto Rows.worldBytesSpec).at F).post enc Try.prog Try.f3 false true false false) := by
  refine returnsInHanded_of_cond (C := Try.checked) (s := Rows.OpenSpec.upto Rows.worldBytesSpec) (k := Rows.uptoSmall) rfl own started (by kernel_rfl) Try.func3
    (OpenSpec.witness (enc := enc) (C := Try.checked) (s := Rows.OpenSpec.upto Rows.worldBytesSpec) (k := Rows.uptoSmall) rfl false ⟨#[], #[.agg #[.int .i64 0, .slice none 0 0, .slice none 0 0, .slice none 0 0, .slice none 0 0], .slice none 0 0], []⟩ 8 (by kernel_rfl) (by kernel_rfl) (by kernel_rfl)
      (x := ([.agg [.lit (.int .i64 0), .nil, .nil, .nil, .nil], .nil], [], [])) (by kernel_rfl) rfl (by kernel_rfl)) ?_
  intro W base args ds gs before hval hW _ hk _
  exact contract H enc W base args ds gs before hval hW hk

theorem over : Rows.worldBytesUptoRow.holds Try.pinned (Rows.OpenSpec.upto Rows.worldBytesSpec) :=
  OpenClaim.holds_of_cond 3 Try.f3 rfl rfl rfl rfl rfl rfl rfl ⟨rfl, rfl, rfl, rfl, rfl⟩ rfl rfl rfl rfl rfl (by kernel_rfl) Try.func3 (by kernel_rfl)
    (of_decide_eq_true (by kernel_rfl)) (by unfold Func.isWrapper; first | (rw [if_pos (by decide +kernel)]; kernel_rfl) | (rw [if_neg (by decide +kernel)]; exact ⟨rfl, rfl⟩))
    (fun os started H enc _ F => lifted os started H enc F)

theorem proved : Rows.WorldBytesUptoSaid := over
end Go.Proofs.Ytjbnffclpebkkaa.worldBytes
