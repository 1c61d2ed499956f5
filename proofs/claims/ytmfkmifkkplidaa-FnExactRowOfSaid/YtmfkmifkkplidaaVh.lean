/-
  A calculus for walks, part 8: functions that hand back fresh data; regions that draw their order, whatever they call.
-/
import Derived.Test.YtmfkmifkkplidaaVg
namespace Go.Proofs.Ytmfkmifkkplidaa
open Go.ChangeShapes Go.WideShapes Go.ChangeAt Go.RowKit Go.BigFrame Go.Deep
set_option linter.unusedVariables false

set_option linter.unusedSimpArgs false
/-- A result. -/
def DR (w : World) (S : Nat → Prop) : SV → Value → Prop
  | .one x, v => D w S x v
  | .agg l, v => ∃ us : Array Value, v = .agg us ∧ DL w S l us.toList
  | .tup2 x y, v => ∃ a b, v = .tuple #[a, b] ∧ DR w S x a ∧ DR w S y b
  | .tup3 x y z, v => ∃ a b c, v = .tuple #[a, b, c] ∧ DR w S x a ∧ DR w S y b ∧ DR w S z c
  | .gd _ _, _ => False
def newS (w w' : World) (b : Nat) : Prop := w.heap.size ≤ b ∧ b < w'.heap.size
/-- The contract of a function that reads its arguments and yields data that nobody else holds. -/
def FnF (P : Program) (f : FuncId) (args : List SV) (r : SV) : Prop :=
  ∀ (w : World) (S : Nat → Prop) (vs : List Value), (∀ b, S b → b < w.heap.size) → DSs w S args vs → Calls P f vs.toArray w fun e w' => ∃ v, e = .returned v ∧ DR w' (newS w w') r v ∧ Below w.heap.size w w'
/-- x, new since the walk began. -/
def AV.fr : AV → AV
  | .lst sz n f => .frs (.lst sz n f)
  | .ref sz f => .frs (.ref sz f)
  | x => x
def SV.fr : SV → SV
  | .one x => .one x.fr
  | .agg l => .agg (l.map AV.fr)
  | .tup2 x y => .tup2 x.fr y.fr
  | .tup3 x y z => .tup3 x.fr y.fr z.fr
  | s => s
theorem D.fr {ρ : Rho} {w : World} {S S' : Nat → Prop} {x : AV} {v : Value} (h : D w S' x v) (hs : ∀ b, S' b → freshS ρ S b) : R ρ w S x.fr v := by
  cases x with
  | lst sz n f => exact D.more h hs
  | ref sz f => exact D.more h hs
  | ptr _ _ _ _ => exact h.elim
  | own _ _ _ => exact h.elim
  | frs _ => exact h.elim
  | tre _ _ => exact h.elim
  | fn g m caps => exact (D.more h fun b hb => (hs b hb).1).toR
  | _ => exact h
theorem DL.fr {ρ : Rho} {w : World} {S S' : Nat → Prop} (hs : ∀ b, S' b → freshS ρ S b) : ∀ {l : List AV} {us : List Value}, DL w S' l us → RL ρ w S (l.map AV.fr) us
  | [], _, h => h
  | _ :: _, _, ⟨u, us, e, h1, h2⟩ => ⟨u, us, e, h1.fr hs, DL.fr hs h2⟩
theorem DR.fr {ρ : Rho} {w : World} {S S' : Nat → Prop} (hs : ∀ b, S' b → freshS ρ S b) : ∀ {s : SV} {v : Value}, DR w S' s v → RS ρ w S s.fr v
  | .one _, _, h => D.fr h hs
  | .agg _, _, ⟨us, e, h⟩ => ⟨us, e, h.fr hs⟩
  | .tup2 _ _, _, ⟨a, b, e, h1, h2⟩ => ⟨a, b, e, DR.fr hs h1, DR.fr hs h2⟩
  | .tup3 _ _ _, _, ⟨a, b, c, e, h1, h2, h3⟩ => ⟨a, b, c, e, DR.fr hs h1, DR.fr hs h2, DR.fr hs h3⟩
  | .gd _ _, _, h => h.elim
section
variable {P : Program} {N : Nat} {w0 : Start} {σ : Sig}
def growS (S : Nat → Prop) (w w' : World) (b : Nat) : Prop := S b ∨ newS w w' b
theorem St.grow {ρ : Rho} {S : Nat → Prop} {a : Act} {w w' : World} (hs : St N w0 ρ S σ a w) (hb : Below w.heap.size w w') : Same S w (growS S w w') w' ∧ St N w0 ρ (growS S w w') σ a w' := by
  have hsame : Same S w (growS S w w') w' := ⟨fun b h => .inl h, fun b h => hb.block b (hs.mem.lt b h)⟩
  refine ⟨hsame, hs.size, hs.defers, hs.below.step (hb.mono hs.mem.low) hsame, ⟨hs.mem.base, Nat.le_trans hs.mem.low hb.size, ?_, hs.mem.cap, ?_, hs.mem.inj, ?_⟩, fun t s ht => (hs.env t s ht).keep hsame (Rn.refl _ _)⟩
  · rintro b (h | h)
    · exact Nat.lt_of_lt_of_le (hs.mem.lt b h) hb.size
    · exact h.2
  · intro id o ho hc
    have hlt := hs.mem.blk ho hc
    obtain ⟨cs, e, h1, h2, h3, h4, h5, h6, h7⟩ := hs.mem.obj id o ho hc
    refine ⟨cs, e, by rw [hb.block _ hlt]; exact h1, h2, h3, h4, h5, ?_, fun i j hi hj => ?_⟩
    · rintro (h | h)
      · exact h6 h
      · exact absurd h.1 (by omega)
    · obtain ⟨u, hu, hr⟩ := h7 i j hi hj
      exact ⟨u, hu, hr.keep hsame (Rn.refl _ _)⟩
  · refine hs.mem.treeOf (Nat.le_refl _) (fun k n X hX => ⟨X, hX, fun _ _ => rfl, rfl, rfl, rfl⟩) (fun k n X i b hX hi hb' => ?_) (fun k p hp hc => .inl ⟨p, hp, rfl⟩)
    obtain ⟨q1, q2, q3, _⟩ := (hs.mem.tree k n X hX i hi).2 b hb'
    refine ⟨hb.block b q2, Nat.lt_of_lt_of_le q2 hb.size, ?_⟩
    rintro (h | h)
    · exact q3 h
    · exact absurd h.1 (by omega)
/-- An operation that may make new memory, and yields s. -/
structure FreshOp (P : Program) (o : Oper) (σ : Sig) (s : SV) : Prop where
  run : ∀ (N : Nat) (w0 : Start) (ρ : Rho) (S : Nat → Prop) (a : Act) (w : World) (K : Act → World → Prop) (Q' : Exit → Act → World → Prop), St N w0 ρ S σ a w →
    (∀ v S' w', Same S w S' w' → Below w.heap.size w w' → (∀ b, S' b → S b ∨ w.heap.size ≤ b) → St N w0 ρ S' σ a w' → RS ρ w' S' s v → K (a.put o.dst v) w') → o.wp P a w K Q'
theorem PureOp.fresh {o : Oper} {s : SV} (h : PureOp P o σ s) : FreshOp P o σ s := by
  constructor
  intro N w0 ρ S a w K Q' hs hK
  obtain ⟨v, hv, hq⟩ := h N w0 ρ S a w hs
  refine Oper.wp_of_quiet (C := fun w'' => Below w.heap.size w w'') (K := fun a' => a' = a.put o.dst v) (Below.refl _ _) (fun a' w' hw ha => ?_) ⟨v, hq, rfl⟩
  subst ha
  exact hK v S w' (hs.mem.same hw) hw (fun b h => .inl h) (hs.world hw) (hv.keep (hs.mem.same hw) (Rn.refl _ _))
theorem FreshOp.call {o : Oper} {f : FuncId} {xs : List Operand} {ts : Array TypeId} {args : List SV} {r : SV} (ho : o.op = .call { callee := .value (.func f), args := xs.toArray, argTypes := ts })
    (hF : FnF P f args r) (hk : KnA σ xs args) (hB : callB P f = true) : FreshOp P o σ r.fr := by
  constructor
  intro N w0 ρ S a w K Q' hs hK
  have h2 := hF w _ _ (withOwn_lt hs) (KnA.sound hs hk)
  have e : (execOp a.eval o).run P w = .ok (.enter f (xs.map a.eval).toArray) w := by
    have := execCall (P := P) (ev := a.eval) (caps := #[]) ho rfl hB w
    simpa using this
  unfold Oper.wp
  rw [e]
  refine Calls.mono h2 fun e w' ⟨v, he, hd, hb⟩ => ?_
  subst he
  obtain ⟨g1, g2⟩ := hs.grow hb
  have hlow := hs.mem.low
  have hbase := hs.mem.base
  exact hK v _ w' g1 hb (fun b h => h.imp (fun h => h) (fun h => h.1)) g2 (hd.fr fun b hb' => ⟨.inr hb', by have := hb'.1; omega⟩)
theorem FreshOp.callS {o : Oper} {f : FuncId} {xs : List Operand} {ts : Array TypeId} {args : List SV} {r s : SV} (ho : o.op = .call { callee := .value (.func f), args := xs.toArray, argTypes := ts })
    (hF : FnF P f args r) (hk : KnA σ xs args) (hB : callB P f = true) (hs : r.fr = s) : FreshOp P o σ s := by
  subst hs; exact FreshOp.call ho hF hk hB
variable {ops : Array Oper} {rest : List Oper} {o : Oper} {Q : Sig → Prop}
theorem ARun.fresh {s : SV} {d : Nat} (hp : FreshOp P o σ s) (hg : o.guard = none) (hd : o.dst = some d) (hN : d < N) (h : ARun P N w0 ops Q rest (σ.put d s)) : ARun P N w0 ops Q (o :: rest) σ := by
  intro ρ S a w Q' hQ hs
  refine wpList_plain hg fun K hK => ?_
  refine hp.run N w0 ρ S a w K Q' hs fun v S' w' _ _ _ hs' hv => ?_
  rw [hd]
  exact hK _ _ (h ρ S' _ w' Q' hQ (hs'.put hN hv))

/-! Regions that draw their order. -/
structure OpStep (P : Program) (ops : Array Oper) (o : Oper) (σ : Sig) (s : SV) : Prop where
  run : ∀ (N : Nat) (w0 : Start) (ρ : Rho) (S : Nat → Prop) (a : Act) (w : World) (K : Act → World → Prop) (Q' : Exit → Act → World → Prop), St N w0 ρ S σ a w →
    (∀ v S' w', Same S w S' w' → Below w.heap.size w w' → (∀ b, S' b → S b ∨ w.heap.size ≤ b) → St N w0 ρ S' σ a w' → RS ρ w' S' s v → K (a.put o.dst v) w') → if Region.wanted o (yielded ops a.tmps) then o.wp P a w K Q' else K (a.put o.dst undef) w
theorem FreshOp.step {s : SV} (h : FreshOp P o σ s) (hg : o.guard = none) : OpStep P ops o σ s := by
  constructor
  intro N w0 ρ S a w K Q' hs hK
  rw [if_pos (by simp [Region.wanted, hg])]
  exact h.run N w0 ρ S a w K Q' hs hK
theorem FreshOp.gstep {s : SV} {g t : Nat} {want c : Bool} (hgate : Gate σ t want c) (hp : c = true → FreshOp P o σ s) (hg : o.guard = some (g, want)) (hgd : (ops[g]?).bind (·.dst) = some t) (hlk : ∀ (N : Nat) (w0 : Start) (ρ : Rho) (S : Nat → Prop) (a : Act) (w : World), St N w0 ρ S σ a w → t < N ∨ N ≤ t) : OpStep P ops o σ (.gd c s) := by
  constructor
  intro N w0 ρ S a w K Q' hs hK
  by_cases ht : t < N
  · have hw := hgate.sound (ops := ops) hs ht hg hgd
    cases c with
    | true =>
      rw [if_pos hw]
      exact (hp rfl).run N w0 ρ S a w K Q' hs fun v S' w' h1 h2 h0 h3 h4 => hK v S' w' h1 h2 h0 h3 ⟨fun _ => h4, (fun e => by cases e)⟩
    | false =>
      rw [if_neg (by rw [hw]; simp)]
      exact hK _ S w ⟨fun _ h => h, fun _ _ => rfl⟩ (Below.refl _ _) (fun b h => .inl h) hs ⟨(fun e => by cases e), fun _ => rfl⟩
  · -- the guard's slot lies outside: it reads as nothing
    have hnone : a.tmps[t]? = none := Array.getElem?_eq_none (by rw [hs.size]; omega)
    have hund : a.tmps.getD t undef = undef := by rw [Array.getD_eq_getD_getElem?, hnone]; rfl
    have hy : yielded ops a.tmps g = none := by unfold yielded; rw [hgd]; simp [hnone]
    have hw : Region.wanted o (yielded ops a.tmps) = false := by unfold Region.wanted; rw [hg]; simp [hy]
    have hcf : c = false := by
      have hu : ∀ b, undef ≠ Value.bool b := fun b e => by cases e
      cases hgate with
      | tt h => have := hs.env _ _ h; rw [hund] at this; exact absurd this (hu _)
      | tf h => have := hs.env _ _ h; rw [hund] at this; exact absurd this (hu _)
      | @gt b x h =>
        obtain ⟨h1, _⟩ := hs.env _ _ h
        cases b with
        | true => have := h1 rfl; rw [hund] at this; exact absurd this (hu _)
        | false => rfl
      | @gf b x h =>
        obtain ⟨h1, _⟩ := hs.env _ _ h
        cases b with
        | true => have := h1 rfl; rw [hund] at this; exact absurd this (hu _)
        | false => rfl
    subst hcf
    rw [if_neg (by rw [hw]; simp)]
    exact hK _ S w ⟨fun _ h => h, fun _ _ => rfl⟩ (Below.refl _ _) (fun b h => .inl h) hs ⟨(fun e => by cases e), fun _ => rfl⟩
def Sig.only (σ : Sig) (L : List Nat) : Sig := ⟨σ.env.filter fun p => L.contains p.1, σ.heap⟩
theorem lookup_filter {α : Type} {L : List Nat} {t : Nat} : ∀ {e : List (Nat × α)} {s : α}, (e.filter fun p => L.contains p.1).lookup t = some s → t ∈ L ∧ e.lookup t = some s
  | [], _, h => by simp at h
  | (k, v) :: e, s, h => by
    by_cases hk : L.contains k
    · rw [List.filter_cons_of_pos (by simpa using hk)] at h
      rcases lookup_put h with ⟨rfl, rfl⟩ | ⟨hne, h⟩
      · exact ⟨by simpa using hk, by simp⟩
      · obtain ⟨h1, h2⟩ := lookup_filter h
        refine ⟨h1, ?_⟩
        rw [List.lookup_cons, show (t == k) = false by simpa using hne]
        exact h2
    · rw [List.filter_cons_of_neg (by simpa using hk)] at h
      obtain ⟨h1, h2⟩ := lookup_filter h
      refine ⟨h1, ?_⟩
      have hne : t ≠ k := fun e => by subst e; exact hk (by simpa using h1)
      rw [List.lookup_cons, show (t == k) = false by simpa using hne]
      exact h2
/-- One operation after the other, each under what it looks at alone. -/
inductive ADs (P : Program) (N : Nat) (ops : Array Oper) : List Oper → Sig → Sig → Prop
  | nil {σ : Sig} : ADs P N ops [] σ σ
  | cons {o : Oper} {rest : List Oper} {σ τ : Sig} {d : Nat} {s : SV} : o.dst = some d → d < N → OpStep P ops o (σ.only (o.looksAt ops)) s → ADs P N ops rest (σ.put d s) τ → ADs P N ops (o :: rest) σ τ
def AD (P : Program) (N : Nat) (ops : Array Oper) (Q : Sig → Prop) (l : List Oper) (σ : Sig) : Prop := ∃ τ, ADs P N ops l σ τ ∧ Q τ
theorem AD.nil (h : Q σ) : AD P N ops Q [] σ := ⟨σ, .nil, h⟩
theorem AD.pure {s : SV} {d : Nat} (hp : PureOp P o (σ.only (o.looksAt ops)) s) (hg : o.guard = none) (hd : o.dst = some d) (hN : d < N) (h : AD P N ops Q rest (σ.put d s)) : AD P N ops Q (o :: rest) σ :=
  let ⟨τ, h1, h2⟩ := h
  ⟨τ, .cons hd hN (hp.fresh.step hg) h1, h2⟩
theorem AD.fresh {s : SV} {d : Nat} (hp : FreshOp P o (σ.only (o.looksAt ops)) s) (hg : o.guard = none) (hd : o.dst = some d) (hN : d < N) (h : AD P N ops Q rest (σ.put d s)) : AD P N ops Q (o :: rest) σ :=
  let ⟨τ, h1, h2⟩ := h
  ⟨τ, .cons hd hN (hp.step hg) h1, h2⟩
theorem AD.gpure {s : SV} {d g t : Nat} {want c : Bool} (hgate : Gate (σ.only (o.looksAt ops)) t want c) (hp : c = true → PureOp P o (σ.only (o.looksAt ops)) s) (hg : o.guard = some (g, want)) (hgd : (ops[g]?).bind (·.dst) = some t) (hd : o.dst = some d) (hN : d < N)
    (h : AD P N ops Q rest (σ.put d (.gd c s))) : AD P N ops Q (o :: rest) σ :=
  let ⟨τ, h1, h2⟩ := h
  ⟨τ, .cons hd hN (FreshOp.gstep hgate (fun hc => (hp hc).fresh) hg hgd fun N _ _ _ _ _ _ => by omega) h1, h2⟩

def ordB (md : Region.Mode) (ops : Array Oper) : Bool :=
  (List.range ops.size).all fun i => match ops[i]? with
    | none => true
    | some oi => (oi.after.all fun e => !Region.binds md e || decide (e.on < i)) &&
      (List.range ops.size).all fun j => match ops[j]? with
        | none => true
        | some oj => (i == j || oi.dst != oj.dst) && (match oj.dst with
          | none => true
          | some d => !(oi.looksAt ops).contains d || i == j || (if j < i then oi.after.any (fun e => Region.binds md e && e.on == j) else oj.after.any (fun e => Region.binds md e && e.on == i)))
end
end Go.Proofs.Ytmfkmifkkplidaa
