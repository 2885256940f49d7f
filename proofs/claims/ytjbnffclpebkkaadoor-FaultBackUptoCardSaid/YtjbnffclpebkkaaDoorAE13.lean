/- AE, part 13 (between 9 and 10): a variable that is only read from now on; the nil slice as an own row. -/
import Derived.Test.YtjbnffclpebkkaaDoorAE9
set_option linter.unusedVariables false
set_option linter.unusedSimpArgs false
namespace Go.AE
open Go

def gC (φ : AV → AV) : AV → AV
  | .f fn caps => .f fn (caps.map φ)
  | x => φ x
def gM (φ : AV → AV) : AV → AV
  | .a cs => .a (cs.map (gC φ))
  | x => gC φ x
def gT (φ : AV → AV) : AV → AV
  | .t vs => .t (vs.map (gM φ))
  | x => gM φ x

/-- Pointers to own box k are pointers to memory that is only read, with these cells. -/
def pfP (k : Nat) (cs : List AV) : AV → AV
  | .p j o => if j = k then (if o ≤ cs.length then .ip (cs.drop o) else .any) else .p j o
  | .r j => if j = k then .any else .r j
  | .q j sz i o => if j = k then .any else .q j sz i o
  | .w j sz lo n => if j = k then .any else .w j sz lo n
  | .v x => .v x
  | .b x => .b x
  | .l sz es => .l sz es
  | .ip cs => .ip cs
  | .ni => .ni
  | .f _ _ => .any
  | .a _ => .any
  | .t _ => .any
  | .any => .any

def St.frzB (σ : St) (k : Nat) : St :=
  match σ.own[k]? with
  | some (.box cs ty) => match cs.all immB with
    | true => { tm := σ.tm.map (gT (pfP k cs)), own := (σ.own.map (OB.map (gC (pfP k cs)))).set k .dead }
    | false => σ
  | _ => σ

section
variable {P : Program} {E E' : Env} {own : List OB} {σ : St} {W W0 : World} {mine : Nat → Prop} {kn : Kn} {a : Act} {k : Nat} {φ : AV → AV}

def Kept (E E' : Env) (φ : AV → AV) : Prop := ∀ (m : Bool) (x : AV) (u : Value), RAV E m x u → RAV E' m (φ x) u
theorem gC_rav (hφ : Kept E E' φ) {m : Bool} {x : AV} {u : Value} (h : RAV E m x u) : RAV E' m (gC φ x) u := by
  have h0 := h
  cases h with
  | f _ fn cs vs hl hc =>
    refine .f _ fn _ vs (by simpa using hl) fun i c u hi hu => ?_
    rw [List.getElem?_map] at hi
    cases hq : cs[i]? with
    | none => rw [hq] at hi; cases hi
    | some d => rw [hq] at hi; cases hi; exact hφ _ _ _ (hc i d u hq hu)
  | _ => exact hφ _ _ _ h0
theorem gM_rav (hφ : Kept E E' φ) {m : Bool} {x : AV} {u : Value} (h : RAV E m x u) : RAV E' m (gM φ x) u := by
  have h0 := h
  cases h with
  | a _ cs vs hl h1 hc =>
    refine .a _ _ vs (by simpa using hl) h1 fun i c u hi hu => ?_
    rw [List.getElem?_map] at hi
    cases hq : cs[i]? with
    | none => rw [hq] at hi; cases hi
    | some d => rw [hq] at hi; cases hi; exact gC_rav hφ (hc i d u hq hu)
  | _ => exact gC_rav hφ h0
theorem gT_rav (hφ : Kept E E' φ) {m : Bool} {x : AV} {u : Value} (h : RAV E m x u) : RAV E' m (gT φ x) u := by
  have h0 := h
  cases h with
  | t _ cs vs hl hc =>
    refine .t _ _ vs (by simpa using hl) fun i c u hi hu => ?_
    rw [List.getElem?_map] at hi
    cases hq : cs[i]? with
    | none => rw [hq] at hi; cases hi
    | some d => rw [hq] at hi; cases hi; exact gM_rav hφ (hc i d u hq hu)
  | _ => exact gM_rav hφ h0
variable {S S' : Nat → Prop}
theorem gC_ment (hφ : ∀ x, Ment S x → Ment S' (φ x)) {x : AV} (h : Ment S x) : Ment S' (gC φ x) := by
  have h0 := h
  cases h with
  | f fn cs h => exact .f fn _ fun c hc => by obtain ⟨d, hd, rfl⟩ := List.mem_map.1 hc; exact hφ d (h d hd)
  | _ => exact hφ _ h0
theorem gM_ment (hφ : ∀ x, Ment S x → Ment S' (φ x)) {x : AV} (h : Ment S x) : Ment S' (gM φ x) := by
  have h0 := h
  cases h with
  | a cs h => exact .a _ fun c hc => by obtain ⟨d, hd, rfl⟩ := List.mem_map.1 hc; exact gC_ment hφ (h d hd)
  | _ => exact gC_ment hφ h0
theorem gT_ment (hφ : ∀ x, Ment S x → Ment S' (φ x)) {x : AV} (h : Ment S x) : Ment S' (gT φ x) := by
  have h0 := h
  cases h with
  | t cs h => exact .t _ fun c hc => by obtain ⟨d, hd, rfl⟩ := List.mem_map.1 hc; exact gM_ment hφ (h d hd)
  | _ => exact gM_ment hφ h0

theorem pfP_ment {cs : List AV} {x : AV} (h : Ment S x) : Ment (fun j => S j ∧ j ≠ k) (pfP k cs x) := by
  cases h with
  | any => exact .any
  | v x => exact .v x
  | b x => exact .b x
  | p j o h =>
    simp only [pfP]; split
    · split
      · exact .ip _
      · exact .any
    · rename_i hj; exact .p j o ⟨h, hj⟩
  | q j sz i o h => simp only [pfP]; split; exact .any; rename_i hj; exact .q j sz i o ⟨h, hj⟩
  | w j sz lo n h => simp only [pfP]; split; exact .any; rename_i hj; exact .w j sz lo n ⟨h, hj⟩
  | r j h => simp only [pfP]; split; exact .any; rename_i hj; exact .r j ⟨h, hj⟩
  | l sz es => exact .l sz es
  | ip cs => exact .ip cs
  | ni => exact .ni
  | a => exact .any
  | t => exact .any
  | f => exact .any

theorem Rel.frzB (h : Rel W0 mine kn E σ a W) (k : Nat) (hkn : kn.an k = none) : ∃ E', Rel W0 mine kn E' (σ.frzB k) a W ∧ (∀ b o, E.h b = some o → E'.h b = some o) := by
  unfold St.frzB
  split
  · rename_i cs ty hk
    split
    · rename_i himm
      obtain ⟨vs, hv, hl, h1, hr⟩ := h.mem.owns k _ hk
      let E' : Env := { h := fun b => if b = E.blk k then W.heap[b]? else E.h b, blk := E.blk, row := E.row }
      have hsepk := h.mem.sep k _ hk trivial
      have hh : ∀ b o, E.h b = some o → E'.h b = some o := by
        intro b o hb
        simp only [E']
        split
        · rename_i he; subst he; rw [hb] at hsepk; cases hsepk.1
        · exact hb
      have hφ : Kept E E' (pfP k cs) := by
        intro m x u hx
        have h0 := hx
        cases hx with
        | p j o =>
          simp only [pfP]
          split
          · rename_i hj; subst hj
            split
            · rename_i ho
              have hb : E'.h (E.blk j) = some (.cells vs.toArray ty (0, 0)) := by simp [E', hv]
              refine .ip _ _ (E.blk j) o vs.toArray ty (0, 0) hb (by simp; omega) (fun i u _ hu => h1 u ?_) (fun i c u hc hu => ?_)
              · have : vs[o + i]? = some u := by simpa using hu
                exact List.mem_of_getElem? this
              · rw [List.getElem?_drop] at hc
                have hu' : vs[o + i]? = some u := by simpa using hu
                exact (immB_rav (hr (o + i) c u hc hu') (List.all_eq_true.1 himm c (List.mem_of_getElem? hc))).imm hh
            · exact .any _ _
          · exact .p j o
        | q j sz i o =>
          simp only [pfP]; split
          · exact .any _ _
          · exact .q j sz i o
        | w j sz lo n c hn hm =>
          simp only [pfP]; split
          · exact .any _ _
          · exact .w j sz lo n c hn hm
        | w0 j sz lo c a hm =>
          simp only [pfP]; split
          · exact .any _ _
          · exact .w0 j sz lo c a hm
        | r j h1 =>
          simp only [pfP]; split
          · exact .any _ _
          · exact .r j h1
        | v _ x h1 => exact .v _ _ h1
        | b _ x => exact .b _ _
        | ni _ t x => exact .ni _ t x
        | ip => exact h0.mono (S := fun _ => False) hh fun _ => ⟨.ip _, fun _ h => h.elim⟩
        | lnil => exact .lnil _ _
        | lzero _ _ a c hm => exact .lzero _ _ a c hm
        | l => exact h0.mono (S := fun _ => False) hh fun _ => ⟨.l _ _, fun _ h => h.elim⟩
        | any => exact .any _ _
        | a => exact .any _ _
        | t => exact .any _ _
        | f => exact .any _ _
      have key : ∀ (j : Nat) (ob : OB), ((σ.own.map (OB.map (gC (pfP k cs)))).set k .dead)[j]? = some ob → (j ≠ k ∧ ∃ o1, σ.own[j]? = some o1 ∧ ob = o1.map (gC (pfP k cs))) ∨ ob = .dead := by
        intro j ob hj
        rw [List.getElem?_set] at hj
        split at hj
        · split at hj
          · simp at hj; exact .inr hj.symm
          · cases hj
        · rename_i hne
          exact .inl ⟨fun e => hne e.symm, map_own hj⟩
      have hocc : ∀ (j : Nat) (o : OB), Occ E' j o ↔ Occ E j o := fun j o => by cases o <;> exact Iff.rfl
      have hment : ∀ x, Bl σ.own.length x → Ment (fun j => j < σ.own.length ∧ j ≠ k) (pfP k cs x) := fun x hx => pfP_ment hx
      refine ⟨E', ⟨⟨h.mem.os, h.mem.tape, h.mem.output, h.mem.size, h.mem.keep, ?_, ?_, ?_, ?_, ?_, fun j b hj => ?an, fun b o hb => hh b o (h.mem.glob b o hb)⟩, h.defs, by simp [h.len], ?_, ?_, ?_⟩, hh⟩
      case an =>
        obtain ⟨h1, h2⟩ := h.mem.anch j b hj
        have hjk : k ≠ j := fun e => by subst e; rw [hkn] at hj; cases hj
        exact ⟨h1, by rw [List.getElem?_set_ne hjk]; exact isBox_map h2⟩
      · intro b o hb
        simp only [E'] at hb
        split at hb
        · exact hb
        · exact h.mem.facts b o hb
      · intro b o hb
        simp only [E'] at hb
        split at hb
        · rename_i he
          subst he
          rcases hsepk.2 with h1 | h1
          · exact .inr (.inr h1)
          · exact .inr (.inl h1)
        · exact h.mem.old b o hb
      · intro j ob hj
        rcases key j ob hj with ⟨hne, o1, h1', rfl⟩ | rfl
        · have hob := h.mem.owns j o1 h1'
          cases o1 with
          | box ds ty' =>
            obtain ⟨us, hu, hul, hu1, hur⟩ := hob
            refine ⟨us, hu, by simpa using hul, hu1, fun i c u hc hcu => ?_⟩
            rw [List.getElem?_map] at hc
            cases hq : ds[i]? with
            | none => rw [hq] at hc; cases hc
            | some d => rw [hq] at hc; cases hc; exact gC_rav hφ (hur i d u hq hcu)
          | row ety sz es =>
            obtain ⟨xs, hx⟩ := hob
            exact ⟨xs, hx.owns, hx.len, hx.one, fun i j e x u h1 h2 h3 => (hx.rav i j e x u h1 h2 h3).imm hh, hx.blk⟩
          | dead => trivial
          | mp kk vk g => exact hob
        · trivial
      · intro j j' ob ob' hj hj' hne ho ho'
        rcases key j ob hj with ⟨_, o1, h1', rfl⟩ | rfl
        · rcases key j' ob' hj' with ⟨_, o2, h2', rfl⟩ | rfl
          · exact h.mem.disj j j' o1 o2 h1' h2' hne ((hocc _ _).1 (Occ.map.1 ho)) ((hocc _ _).1 (Occ.map.1 ho'))
          · exact ho'.elim
        · exact ho.elim
      · intro j ob hj ho
        rcases key j ob hj with ⟨hne, o1, h1', rfl⟩ | rfl
        · have ho1 := (hocc _ _).1 (Occ.map.1 ho)
          have hsep := h.mem.sep j o1 h1' ho1
          refine ⟨?_, hsep.2⟩
          simp only [E']
          split
          · rename_i he
            exact absurd he (h.mem.disj j k o1 _ h1' hk hne ho1 trivial)
          · exact hsep.1
        · exact ho.elim
      · intro i x hx
        rw [List.getElem?_map] at hx
        cases hq : σ.tm[i]? with
        | none => rw [hq] at hx; cases hx
        | some d => rw [hq] at hx; cases hx; exact gT_rav hφ (h.tm i d hq)
      · intro x hx
        obtain ⟨d, hd, rfl⟩ := List.mem_map.1 hx
        simp only [List.length_set, List.length_map]
        exact (gT_ment hment (h.wf d hd)).mono fun j hj => hj.1
      · intro j ds ty' hj x hx
        rcases key j _ hj with ⟨hne, o1, h1', he⟩ | he
        · cases o1 <;> simp only [OB.map] at he <;> try (cases he; done)
          rename_i cs' _
          cases he
          obtain ⟨d, hd, rfl⟩ := List.mem_map.1 hx
          simp only [List.length_set, List.length_map]
          exact (gC_ment hment (h.wfo j cs' _ h1' d hd)).mono fun j hj => hj.1
        · cases he
    · exact ⟨E, h, fun _ _ h => h⟩
  · exact ⟨E, h, fun _ _ h => h⟩

/-- A cell of a box that holds the nil slice holds a new own row without elements. -/
def St.nilB (σ : St) (k j ety sz : Nat) : St :=
  match σ.own[k]? with
  | some (.box cs ty) => match cs[j]? with
    | some (.v (.slice none 0 0)) => { tm := σ.tm, own := (σ.own ++ [OB.row ety sz []]).set k (OB.box (cs.set j (.r σ.own.length)) ty) }
    | _ => σ
  | _ => σ
theorem Rel.nilB (h : Rel W0 mine kn E σ a W) (k j ety sz : Nat) : ∃ E', Rel W0 mine kn E' (σ.nilB k j ety sz) a W ∧ E'.h = E.h ∧ ∀ x u, RAV E true x u → Bl σ.own.length x → RAV E' true x u := by
  unfold St.nilB
  split
  · rename_i cs ty hk
    split
    · rename_i hj
      obtain ⟨E', hh, hR, hr, hx⟩ := h.nilRow ety sz
      have hkl : k < σ.own.length := (List.getElem?_eq_some_iff.1 hk).1
      have hk' : (σ.own ++ [OB.row ety sz []])[k]? = some (.box cs ty) := by rw [List.getElem?_append_left hkl]; exact hk
      obtain ⟨vs, hv, hl, h1, hrr⟩ := hR.mem.owns k _ hk'
      refine ⟨E', ⟨?_, hR.defs, hR.len, hR.tm, fun x hx => by simpa using hR.wf x hx, ?_⟩, hh, hx⟩
      · refine hR.mem.set (ob' := OB.box (cs.set j (.r σ.own.length)) ty) hk' rfl (fun _ _ => ⟨rfl, rfl⟩) (fun _ _ _ _ _ _ _ _ h => h) rfl rfl rfl (Nat.le_refl _) (fun _ _ _ => rfl) ⟨vs, hv, by simpa using hl, h1, fun i c u hc hu => ?_⟩ (fun _ => .inl ⟨trivial, rfl⟩) (fun _ => ⟨⟨rfl, rfl⟩, rfl⟩)
        rw [List.getElem?_set] at hc
        split at hc
        · rename_i hij; subst hij
          split at hc
          · cases hc
            have := (hrr j _ u hj hu).vInv
            subst this
            exact hr
          · cases hc
        · exact hrr i c u hc hu
      · intro j' ds ty' hj' x hx
        rw [List.length_set]
        rw [List.getElem?_set] at hj'
        split at hj'
        · split at hj'
          · simp at hj'
            obtain ⟨rfl, rfl⟩ := hj'
            rcases List.mem_or_eq_of_mem_set hx with hx | rfl
            · exact hR.wfo k cs ty hk' x hx
            · exact .r _ (by simp)
          · cases hj'
        · exact hR.wfo j' ds ty' hj' x hx
    · exact ⟨E, h, rfl, fun _ _ h _ => h⟩
  · exact ⟨E, h, rfl, fun _ _ h _ => h⟩
/-- The same for a slot. -/
def St.nilT (σ : St) (t ety sz : Nat) : St :=
  match σ.tm[t]? with
  | some (.v (.slice none 0 0)) => { tm := σ.tm.set t (.r σ.own.length), own := σ.own ++ [.row ety sz []] }
  | _ => σ
theorem Rel.nilT (h : Rel W0 mine kn E σ a W) (t ety sz : Nat) : ∃ E', Rel W0 mine kn E' (σ.nilT t ety sz) a W ∧ E'.h = E.h := by
  unfold St.nilT
  split
  · rename_i ht
    obtain ⟨E', hh, hR, hr, _⟩ := h.nilRow ety sz
    refine ⟨E', ⟨hR.mem, hR.defs, by simpa using hR.len, fun i x hx => ?_, fun x hx => ?_, hR.wfo⟩, hh⟩
    · simp only [List.getElem?_set] at hx
      split at hx
      · rename_i hij; subst hij
        split at hx
        · cases hx
          have := (h.tm t _ ht).vInv
          rw [this]; exact hr
        · cases hx
      · exact hR.tm i x hx
    · rcases List.mem_or_eq_of_mem_set hx with hx | rfl
      · exact hR.wf x hx
      · exact .r _ (by simp)
  · exact ⟨E, h, rfl⟩
end
end Go.AE
