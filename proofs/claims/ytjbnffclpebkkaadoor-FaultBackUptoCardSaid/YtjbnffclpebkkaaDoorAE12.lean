/- AE, part 12: saying less, as something to be reckoned out; loops by what they carry. -/
import Derived.Test.YtjbnffclpebkkaaDoorAE11
set_option linter.unusedVariables false
set_option linter.unusedSimpArgs false
namespace Go.AE
open Go

/-- x says at least y: reckoned out, equations are left. -/
def WkC (x y : AV) : Prop :=
  match x, y with
  | _, .any => True
  | .v (.slice none 0 0), .l _ es => es = []
  | .v (.bool a), .b b => a = b
  | .b a, .v (.bool b) => a = b
  | .b a, .b b => a = b
  | .v (.int k a), .v (.int k' b) => if k = k' then a = b else False
  | .v (.string s), .v (.string t) => s = t
  | .l sz es, .l sz' es' => if sz = sz' then es = es' else False
  | .w k sz lo n, .w k' sz' lo' n' => if k = k' ∧ sz = sz' then lo = lo' ∧ n = n' else False
  | x, y => x = y
def WkCs : List AV → List AV → Prop
  | [], [] => True
  | x :: xs, y :: ys => WkC x y ∧ WkCs xs ys
  | _, _ => False
def WkM (x y : AV) : Prop :=
  match x, y with
  | .a cs, .a ds => WkCs cs ds
  | x, y => WkC x y
def WkMs : List AV → List AV → Prop
  | [], [] => True
  | x :: xs, y :: ys => WkM x y ∧ WkMs xs ys
  | _, _ => False
def WkT (x y : AV) : Prop :=
  match x, y with
  | .t cs, .t ds => WkMs cs ds
  | x, y => WkM x y
def WkTs : List AV → List AV → Prop
  | [], [] => True
  | x :: xs, y :: ys => WkT x y ∧ WkTs xs ys
  | _, _ => False
def WkOs : List OB → List OB → Prop
  | _, [] => True
  | [], _ :: _ => False
  | .box cs ty :: l, .box ds ty' :: m => (ty = ty' ∧ WkCs cs ds) ∧ WkOs l m
  | .row ety sz es :: l, .row ety' sz' es' :: m => (ety = ety' ∧ sz = sz' ∧ es = es') ∧ WkOs l m
  | .row _ _ _ :: l, .dead :: m => WkOs l m
  | .dead :: l, .dead :: m => WkOs l m
  | .mp kk vk f :: l, .mp kk' vk' f' :: m => (kk = kk' ∧ vk = vk' ∧ f = f') ∧ WkOs l m
  | _ :: _, _ :: _ => False

theorem WkC.wk {x y : AV} (h : WkC x y) : Wk x y := by
  unfold WkC at h
  split at h
  · exact .any _
  · subst h; exact .nil _
  · subst h; exact .vb _
  · subst h; exact .bv _
  · subst h; exact .refl _
  · split at h
    · rename_i e; subst e; subst h; exact .refl _
    · exact h.elim
  · subst h; exact .refl _
  · split at h
    · rename_i e; subst e; subst h; exact .refl _
    · exact h.elim
  · split at h
    · rename_i e; obtain ⟨e1, e2⟩ := e; obtain ⟨h1, h2⟩ := h; subst e1; subst e2; subst h1; subst h2; exact .refl _
    · exact h.elim
  · subst h; exact .refl _
theorem WkCs.wk : ∀ {xs ys : List AV}, WkCs xs ys → WkL xs ys
  | [], [], _ => .nil
  | x :: xs, y :: ys, h => .cons h.1.wk (WkCs.wk h.2)
  | [], _ :: _, h => h.elim
  | _ :: _, [], h => h.elim
theorem WkL.at {xs ys : List AV} (h : WkL xs ys) : ∀ (i : Nat) (c d : AV), xs[i]? = some c → ys[i]? = some d → Wk c d := fun i c d hc hd => by
  obtain ⟨x, hx, hw⟩ := h.get i d hd
  rw [hc] at hx; cases hx; exact hw
theorem WkM.wk {x y : AV} (h : WkM x y) : Wk x y := by
  unfold WkM at h
  split at h
  · have := WkCs.wk h; exact .a _ _ this.len this.at
  · exact h.wk
theorem WkMs.wk : ∀ {xs ys : List AV}, WkMs xs ys → WkL xs ys
  | [], [], _ => .nil
  | x :: xs, y :: ys, h => .cons h.1.wk (WkMs.wk h.2)
  | [], _ :: _, h => h.elim
  | _ :: _, [], h => h.elim
theorem WkT.wk {x y : AV} (h : WkT x y) : Wk x y := by
  unfold WkT at h
  split at h
  · have := WkMs.wk h; exact .t _ _ this.len this.at
  · exact h.wk
theorem WkTs.wk : ∀ {xs ys : List AV}, WkTs xs ys → WkL xs ys
  | [], [], _ => .nil
  | x :: xs, y :: ys, h => .cons h.1.wk (WkTs.wk h.2)
  | [], _ :: _, h => h.elim
  | _ :: _, [], h => h.elim
theorem WkOs.wk : ∀ {l m : List OB}, WkOs l m → OWk l m
  | l, [], _ => .nil l
  | [], _ :: _, h => h.elim
  | .box cs ty :: l, .box ds ty' :: m, h => by obtain ⟨⟨rfl, h1⟩, h2⟩ := h; exact .box h1.wk h2.wk
  | .row ety sz es :: l, .row ety' sz' es' :: m, h => .row h.1.1 h.1.2.1 h.1.2.2 (WkOs.wk h.2)
  | .row _ _ _ :: l, .dead :: m, h => .dead (WkOs.wk (l := l) (m := m) h)
  | .dead :: l, .dead :: m, h => .same (WkOs.wk (l := l) (m := m) h)
  | .box _ _ :: _, .row _ _ _ :: _, h => h.elim
  | .box _ _ :: _, .dead :: _, h => h.elim
  | .row _ _ _ :: _, .box _ _ :: _, h => h.elim
  | .dead :: _, .box _ _ :: _, h => h.elim
  | .dead :: _, .row _ _ _ :: _, h => h.elim
  | .mp _ _ _ :: l, .mp _ _ _ :: m, h => .map h.1.1 h.1.2.1 h.1.2.2 (WkOs.wk h.2)
  | .box _ _ :: _, .mp _ _ _ :: _, h => h.elim
  | .row _ _ _ :: _, .mp _ _ _ :: _, h => h.elim
  | .dead :: _, .mp _ _ _ :: _, h => h.elim
  | .mp _ _ _ :: _, .box _ _ :: _, h => h.elim
  | .mp _ _ _ :: _, .row _ _ _ :: _, h => h.elim
  | .mp _ _ _ :: _, .dead :: _, h => h.elim

/-- σ says at least σ'. -/
def Says (n0 : Nat) (σ σ' : St) : Prop := WkTs σ.tm σ'.tm ∧ WkOs σ.own σ'.own ∧ (σ'.tm.all (blT σ'.own.length) && blO σ'.own.length σ'.own) = true ∧ n0 ≤ σ'.own.length

/-- The slots that a code sets. -/
def opsDst : List Oper → List Nat
  | [] => []
  | o :: l => match o.dst with | some d => d :: opsDst l | none => opsDst l
def dsts : Code → List Nat
  | .seq x y => dsts x ++ dsts y
  | .block _ x => dsts x
  | .loop x => dsts x
  | .cond _ x y => dsts x ++ dsts y
  | .region _ os _ => opsDst os.toList
  | .scope x => dsts x
  | .rangeFunc _ _ _ b => dsts b
  | _ => []
def anyL (l : List AV) : List Nat → List AV
  | [] => l
  | d :: ds => anyL (l.set d .any) ds
def updL (l : List AV) : List (Nat × AV) → List AV
  | [] => l
  | (d, x) :: ps => updL (l.set d x) ps
/-- The state at the head of a loop: what it carries. -/
def St.carry (σ : St) (x : Code) (ps : List (Nat × AV)) (own : List OB) : St := { tm := updL (anyL σ.tm (dsts x)) ps, own := own }

section
variable {A : Ari} {P : Program} {T : Tab} {fn : Func} {n0 : Nat} {own' : List OB} {res : AV} {GG : (Nat → Option Obj) → Prop}
theorem Walk.less (X : Walk A P T fn n0 own' res GG) {K : List Item} {σ : St} (σ' : St) (hs : Says n0 σ σ') (h : X.H K σ') : X.H K σ :=
  X.weak K σ σ' h hs.1.wk hs.2.1.wk hs.2.2.1 hs.2.2.2

theorem Walk.carries (X : Walk A P T fn n0 own' res GG) {x : Code} {K : List Item} {σ : St} {ι : Type} (ps : ι → List (Nat × AV)) (own : ι → List OB) (m : ι → Nat) (i0 : ι) (h0 : Says n0 σ (σ.carry x (ps i0) (own i0)))
    (h : ∀ (i : ι) (B : Act → World → Prop), (∀ (j : ι) (σ' : St), m j < m i → Says n0 σ' (σ.carry x (ps j) (own j)) → X.G (.back B σ')) → X.H (.c x :: .back B :: K) (σ.carry x (ps i) (own i))) : X.G (.loop x K σ) :=
  X.loopG _ _ _ (X.less _ h0 (X.loop ι (fun i => σ.carry x (ps i) (own i)) m x K i0 fun i B hB => h i B fun j σ' hj hs => X.back B σ' (X.less _ hs (hB j hj))))

/-- An element of an own row that is there. -/
theorem Walk.idxA (X : Walk A P T fn n0 own' res GG) {es : List (List AV)} {n : Int} {k sz : Nat} {dst : Option Nat} {K : List Item} {σ : St} (i : Nat) (hi : AtR i es) (hn : n = i) (h : X.H K (σ.put dst (.q k sz i 0))) : X.G (.idx es n (some (k, sz)) dst K σ) :=
  X.idx es n (some (k, sz)) dst K σ i _ (List.getElem?_eq_getElem hi.h) hn h

/-- The end: the result and the own blocks say at least what the contract says. -/
theorem Walk.done (X : Walk A P T fn n0 own' res GG) {σ : St} {r : AV} (h1 : resA fn σ = some r) (h : WkT r res ∧ WkOs σ.own own' ∧ (blT own'.length res && blO own'.length own') = true ∧ n0 ≤ own'.length) : X.H [.back X.B0] σ :=
  X.exit σ r h1 h.1.wk h.2.1.wk h.2.2.2 h.2.2.1

def okJs (n m : Nat) (js : List Nat) (cargs : List AV) : Bool := decide js.Nodup && js.all (fun k => decide (k < n)) && decide (js.length ≤ m) && cargs.all (blT js.length)

/-- A call by contract. -/
theorem Walk.lends (X : Walk A P T fn n0 own' res GG) {f : Nat} {args : List AV} {dst : Option Nat} {K : List Item} {σ : St} (ks : List Nat) {cargs : List AV} {res' : AV} (hc : ACall P f [] cargs [] res') (h1 : plainA res' = true)
    (h2 : WkTs ((args.map (frzArgs σ ks)).map (renT (posOf []))) cargs) (h3 : cargs.all (blT 0) = true) (h : X.H K (σ.put dst res')) : X.G (.call f args dst K σ) :=
  X.lend f args dst K σ ks cargs res' hc.g h1 h2.wk h3 h
theorem Walk.calls (X : Walk A P T fn n0 own' res GG) {f : Nat} {args : List AV} {dst : Option Nat} {K : List Item} {σ : St} (js : List Nat) {cargs : List AV} {cown own'' : List OB} {res' : AV} (hc : ACall P f cown cargs own'' res') (h1 : ownIn σ.own js = cown)
    (h2 : WkTs (args.map (renT (posOf js))) cargs) (h3 : okJs σ.own.length own''.length js cargs = true) (h : X.H K ((callSt σ js own'').put dst (renT (gout σ.own.length js) res'))) : X.G (.call f args dst K σ) :=
  by
    simp only [okJs, Bool.and_eq_true, decide_eq_true_eq, List.all_eq_true] at h3
    exact X.call f args dst K σ js cargs cown own'' res' hc.g h1 h2.wk h3.1.1.1 (fun k hk => by simpa using h3.1.1.2 k hk) h3.1.2 (List.all_eq_true.2 h3.2) h
theorem Walk.lendsG (X : Walk A P T fn n0 own' res GG) {f : Nat} {args : List AV} {dst : Option Nat} {K : List Item} {σ : St} (ks : List Nat) {cargs : List AV} {res' : AV} (hc : ACallG GG P f [] cargs [] res') (h1 : plainA res' = true)
    (h2 : WkTs ((args.map (frzArgs σ ks)).map (renT (posOf []))) cargs) (h3 : cargs.all (blT 0) = true) (h : X.H K (σ.put dst res')) : X.G (.call f args dst K σ) :=
  X.lend f args dst K σ ks cargs res' hc h1 h2.wk h3 h
theorem Walk.callsG (X : Walk A P T fn n0 own' res GG) {f : Nat} {args : List AV} {dst : Option Nat} {K : List Item} {σ : St} (js : List Nat) {cargs : List AV} {cown own'' : List OB} {res' : AV} (hc : ACallG GG P f cown cargs own'' res') (h1 : ownIn σ.own js = cown)
    (h2 : WkTs (args.map (renT (posOf js))) cargs) (h3 : okJs σ.own.length own''.length js cargs = true) (h : X.H K ((callSt σ js own'').put dst (renT (gout σ.own.length js) res'))) : X.G (.call f args dst K σ) :=
  by
    simp only [okJs, Bool.and_eq_true, decide_eq_true_eq, List.all_eq_true] at h3
    exact X.call f args dst K σ js cargs cown own'' res' hc h1 h2.wk h3.1.1.1 (fun k hk => by simpa using h3.1.1.2 k hk) h3.1.2 (List.all_eq_true.2 h3.2) h
end
end Go.AE
