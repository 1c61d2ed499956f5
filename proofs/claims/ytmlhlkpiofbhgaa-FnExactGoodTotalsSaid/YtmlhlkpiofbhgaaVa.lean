/-
  A calculus for walks, part 1: what a slot or a cell reads as (AV, SV), what is known of the call's own memory (MemOk), and the state of a walk (St).
-/
import Derived.Test.YtmlhlkpiofbhgaaKit
namespace Go.Proofs.Ytmlhlkpiofbhgaa
open Go.ChangeShapes Go.WideShapes Go.ChangeAt Go.RowKit Go.BigFrame Go.Deep
set_option linter.unusedVariables false

inductive AV where
  | int (k : IntKind) (n : Int)
  | bool (b : Bool)
  | str (s : ByteArray)
  | con (v : Value)
  | lst (sz n : Nat) (f : Nat → Nat → AV)
  | ref (sz : Nat) (f : Nat → AV)
  | ptr (id sz i j : Nat)
  | own (id sz n : Nat)
  | fn (g : FuncId) (m : Nat) (caps : Nat → AV)
  | frs (x : AV)

/-- Data that no walk writes: its blocks lie in S. -/
def D (w : World) (S : Nat → Prop) : AV → Value → Prop
  | .int k n, v => v = .int k n
  | .bool b, v => v = .bool b
  | .str s, v => v = .string s ∧ s.size ≤ maxLen
  | .con c, v => v = c
  | .lst sz n f, v => ∃ A c, v = .slice A n c ∧ n ≤ c ∧ c ≤ maxLen ∧ (A = none → c = 0) ∧ ∀ i, i < n → ∃ b off, A = some ⟨b, off, none⟩ ∧ S b ∧ ∀ j, j < sz → ∃ u, w.cell? ⟨b, off + (i * sz + j), none⟩ = some u ∧ D w S (f i j) u
  | .ref sz f, v => ∃ b off, v = .pointer (some ⟨b, off, none⟩) ∧ S b ∧ ∀ j, j < sz → ∃ u, w.cell? ⟨b, off + j, none⟩ = some u ∧ D w S (f j) u
  | .ptr _ _ _ _, _ => False
  | .own _ _ _, _ => False
  | .fn g m caps, v => ∃ vs : Array Value, v = .func (.func g) #[] vs ∧ vs.size = m ∧ ∀ j, j < m → ∃ u, vs[j]? = some u ∧ D w S (caps j) u
  | .frs _, _ => False

structure Rho where
  m : Nat → Nat × Nat
  base : Nat
instance : CoeFun Rho (fun _ => Nat → Nat × Nat) := ⟨Rho.m⟩
/-- ρ' names the objects as ρ does, but for those that p lets off. -/
structure Rn (ρ ρ' : Rho) (p : Nat → Prop) : Prop where
  base : ρ'.base = ρ.base
  eq : ∀ id, ρ' id = ρ id ∨ p id
theorem Rn.refl (ρ : Rho) (p : Nat → Prop) : Rn ρ ρ p := ⟨rfl, fun _ => .inl rfl⟩
theorem Rn.imp {ρ ρ' : Rho} {p q : Nat → Prop} (h : Rn ρ ρ' p) (hq : ∀ id, p id → q id) : Rn ρ ρ' q := ⟨h.base, fun id => (h.eq id).imp (fun e => e) (hq id)⟩
/-- Blocks that are new since the walk began. -/
def freshS (ρ : Rho) (S : Nat → Prop) (b : Nat) : Prop := S b ∧ ρ.base ≤ b
def R (ρ : Rho) (w : World) (S : Nat → Prop) : AV → Value → Prop
  | .int k n, v => v = .int k n
  | .bool b, v => v = .bool b
  | .str s, v => v = .string s ∧ s.size ≤ maxLen
  | .con c, v => v = c
  | .lst sz n f, v => D w S (.lst sz n f) v
  | .ref sz f, v => D w S (.ref sz f) v
  | .ptr id sz i j, v => v = .pointer (some ⟨(ρ id).1, i * sz + j, none⟩)
  | .own id _ n, v => v = .slice (some ⟨(ρ id).1, 0, none⟩) n (ρ id).2 ∧ n ≤ (ρ id).2 ∧ (ρ id).2 ≤ maxLen
  | .fn g m caps, v => ∃ vs : Array Value, v = .func (.func g) #[] vs ∧ vs.size = m ∧ ∀ j, j < m → ∃ u, vs[j]? = some u ∧ R ρ w S (caps j) u
  | .frs x, v => D w (freshS ρ S) x v

/-- The memory that is read is the same. -/
structure Same (S : Nat → Prop) (w : World) (S' : Nat → Prop) (w' : World) : Prop where
  sub : ∀ b, S b → S' b
  blk : ∀ b, S b → w'.heap[b]? = w.heap[b]?
theorem Same.cell {S S' : Nat → Prop} {w w' : World} (h : Same S w S' w') {b o : Nat} (hb : S b) : w'.cell? ⟨b, o, none⟩ = w.cell? ⟨b, o, none⟩ :=
  World.cell?_of_block (w := w) (h.blk b hb)
theorem D.keep {w w' : World} {S S' : Nat → Prop} (h : Same S w S' w') : ∀ {x : AV} {v : Value}, D w S x v → D w' S' x v
  | .int _ _, _, hd => hd
  | .bool _, _, hd => hd
  | .str _, _, hd => hd
  | .con _, _, hd => hd
  | .lst sz n f, v, hd => by
    unfold D at hd ⊢
    obtain ⟨A, c, e, h1, h2, h3, h4⟩ := hd
    refine ⟨A, c, e, h1, h2, h3, fun i hi => ?_⟩
    obtain ⟨b, off, hA, hS, hc⟩ := h4 i hi
    refine ⟨b, off, hA, h.sub b hS, fun j hj => ?_⟩
    obtain ⟨u, hu, hr⟩ := hc j hj
    exact ⟨u, (h.cell hS).trans hu, D.keep h hr⟩
  | .ref sz f, v, hd => by
    unfold D at hd ⊢
    obtain ⟨b, off, e, hS, hc⟩ := hd
    refine ⟨b, off, e, h.sub b hS, fun j hj => ?_⟩
    obtain ⟨u, hu, hr⟩ := hc j hj
    exact ⟨u, (h.cell hS).trans hu, D.keep h hr⟩
  | .ptr _ _ _ _, _, hd => hd
  | .own _ _ _, _, hd => hd
  | .fn g m caps, v, hd => by
    unfold D at hd ⊢
    obtain ⟨vs, e, hm, hc⟩ := hd
    refine ⟨vs, e, hm, fun j hj => ?_⟩
    obtain ⟨u, hu, hr⟩ := hc j hj
    exact ⟨u, hu, D.keep h hr⟩
  | .frs _, _, hd => hd
theorem Same.fresh {ρ ρ' : Rho} {S S' : Nat → Prop} {w w' : World} (h : Same S w S' w') (e : ρ'.base = ρ.base) : Same (freshS ρ S) w (freshS ρ' S') w' :=
  ⟨fun b hb => ⟨h.sub b hb.1, by rw [e]; exact hb.2⟩, fun b hb => h.blk b hb.1⟩

/-- x does not speak of the own object id. -/
def AV.no (id : Nat) : AV → Bool
  | .ptr k _ _ _ => !(k == id)
  | .own k _ _ => !(k == id)
  | .fn _ m caps => (List.range m).all fun j => (caps j).no id
  | _ => true
theorem R.keep {ρ ρ' : Rho} {w w' : World} {S S' : Nat → Prop} (h : Same S w S' w') : ∀ {x : AV} {v : Value}, Rn ρ ρ' (fun id => x.no id = true) → R ρ w S x v → R ρ' w' S' x v
  | .int _ _, _, _, hd => hd
  | .bool _, _, _, hd => hd
  | .str _, _, _, hd => hd
  | .con _, _, _, hd => hd
  | .lst sz n f, v, _, hd => by unfold R at hd ⊢; exact hd.keep h
  | .ref sz f, v, _, hd => by unfold R at hd ⊢; exact hd.keep h
  | .ptr id _ _ _, _, hn, hd => by
    have e : ρ' id = ρ id := by
      rcases hn.eq id with e | e
      · exact e
      · simp [AV.no] at e
    unfold R at hd ⊢
    rw [e]; exact hd
  | .own id _ _, _, hn, hd => by
    have e : ρ' id = ρ id := by
      rcases hn.eq id with e | e
      · exact e
      · simp [AV.no] at e
    unfold R at hd ⊢
    rw [e]; exact hd
  | .fn g m caps, v, hn, hd => by
    unfold R at hd ⊢
    obtain ⟨vs, e, hm, hc⟩ := hd
    refine ⟨vs, e, hm, fun j hj => ?_⟩
    obtain ⟨u, hu, hr⟩ := hc j hj
    refine ⟨u, hu, R.keep h (hn.imp fun id e => ?_) hr⟩
    rw [AV.no, List.all_eq_true] at e
    exact e j (List.mem_range.2 hj)
  | .frs x, v, hn, hd => by
    unfold R at hd ⊢
    exact hd.keep (h.fresh hn.base)
theorem D.toR {ρ : Rho} {w : World} {S : Nat → Prop} : ∀ {x : AV} {v : Value}, D w S x v → R ρ w S x v
  | .int _ _, _, hd => hd
  | .bool _, _, hd => hd
  | .str _, _, hd => hd
  | .con _, _, hd => hd
  | .lst _ _ _, v, hd => by unfold R; exact hd
  | .ref _ _, v, hd => by unfold R; exact hd
  | .ptr _ _ _ _, _, hd => hd.elim
  | .own _ _ _, _, hd => hd.elim
  | .fn g m caps, v, hd => by
    unfold D at hd
    unfold R
    obtain ⟨vs, e, hm, hc⟩ := hd
    refine ⟨vs, e, hm, fun j hj => ?_⟩
    obtain ⟨u, hu, hr⟩ := hc j hj
    exact ⟨u, hu, D.toR hr⟩
  | .frs _, _, hd => hd.elim

/-- What a slot holds. -/
inductive SV where
  | one (x : AV)
  | agg (l : List AV)
  | tup2 (x y : SV)
  | tup3 (x y z : SV)
  | gd (b : Bool) (s : SV)
def RL (ρ : Rho) (w : World) (S : Nat → Prop) : List AV → List Value → Prop
  | [], vs => vs = []
  | x :: l, vs => ∃ u us, vs = u :: us ∧ R ρ w S x u ∧ RL ρ w S l us
def RS (ρ : Rho) (w : World) (S : Nat → Prop) : SV → Value → Prop
  | .one x, v => R ρ w S x v
  | .agg l, v => ∃ us : Array Value, v = .agg us ∧ RL ρ w S l us.toList
  | .tup2 x y, v => ∃ a b, v = .tuple #[a, b] ∧ RS ρ w S x a ∧ RS ρ w S y b
  | .tup3 x y z, v => ∃ a b c, v = .tuple #[a, b, c] ∧ RS ρ w S x a ∧ RS ρ w S y b ∧ RS ρ w S z c
  | .gd b s, v => (b = true → RS ρ w S s v) ∧ (b = false → v = undef)
def SV.no (id : Nat) : SV → Bool
  | .one x => x.no id
  | .agg l => l.all (AV.no id)
  | .tup2 x y => x.no id && y.no id
  | .tup3 x y z => x.no id && y.no id && z.no id
  | .gd _ s => s.no id
theorem RL.keep {ρ ρ' : Rho} {w w' : World} {S S' : Nat → Prop} (h : Same S w S' w') : ∀ {l : List AV} {us : List Value}, Rn ρ ρ' (fun id => l.all (AV.no id) = true) → RL ρ w S l us → RL ρ' w' S' l us
  | [], _, _, hd => hd
  | x :: l, _, hn, hd => by
    obtain ⟨u, us, e, h1, h2⟩ := hd
    refine ⟨u, us, e, h1.keep h (hn.imp fun id e => ?_), RL.keep h (hn.imp fun id e => ?_) h2⟩
    · rw [List.all_cons, Bool.and_eq_true] at e; exact e.1
    · rw [List.all_cons, Bool.and_eq_true] at e; exact e.2
theorem RS.keep {ρ ρ' : Rho} {w w' : World} {S S' : Nat → Prop} (h : Same S w S' w') : ∀ {s : SV} {v : Value}, Rn ρ ρ' (fun id => s.no id = true) → RS ρ w S s v → RS ρ' w' S' s v
  | .one x, _, hn, hd => R.keep h hn hd
  | .agg l, _, hn, hd => by
    obtain ⟨us, e, h1⟩ := hd
    exact ⟨us, e, h1.keep h hn⟩
  | .tup2 x y, _, hn, hd => by
    obtain ⟨a, b, e, h1, h2⟩ := hd
    refine ⟨a, b, e, RS.keep h (hn.imp fun id e => ?_) h1, RS.keep h (hn.imp fun id e => ?_) h2⟩
    · rw [SV.no, Bool.and_eq_true] at e; exact e.1
    · rw [SV.no, Bool.and_eq_true] at e; exact e.2
  | .tup3 x y z, _, hn, hd => by
    obtain ⟨a, b, c, e, h1, h2, h3⟩ := hd
    refine ⟨a, b, c, e, RS.keep h (hn.imp fun id e => ?_) h1, RS.keep h (hn.imp fun id e => ?_) h2, RS.keep h (hn.imp fun id e => ?_) h3⟩ <;>
      · rw [SV.no, Bool.and_eq_true, Bool.and_eq_true] at e
        first | exact e.1.1 | exact e.1.2 | exact e.2
  | .gd b s, _, hn, hd => ⟨fun hb => RS.keep h hn (hd.1 hb), hd.2⟩
theorem RL.len {ρ : Rho} {w : World} {S : Nat → Prop} : ∀ {l : List AV} {us : List Value}, RL ρ w S l us → us.length = l.length
  | [], us, hd => by rw [show us = [] from hd]; rfl
  | x :: l, _, hd => by
    obtain ⟨u, us, rfl, _, h2⟩ := hd
    simp [RL.len h2]
theorem RL.get {ρ : Rho} {w : World} {S : Nat → Prop} : ∀ {l : List AV} {us : List Value}, RL ρ w S l us → ∀ {j : Nat} {x : AV}, l[j]? = some x → ∃ u, us[j]? = some u ∧ R ρ w S x u
  | [], _, _, j, x, hx => by simp at hx
  | y :: l, _, hd, j, x, hx => by
    obtain ⟨u, us, rfl, h1, h2⟩ := hd
    cases j with
    | zero => simp at hx; subst hx; exact ⟨u, rfl, h1⟩
    | succ j => simp at hx ⊢; exact RL.get h2 hx

/-- An object of the walk's own: a variable (its cells), or a row. -/
inductive AObj where
  | cells (l : List AV)
  | arr (sz n : Nat) (f : Nat → Nat → AV)
def AObj.sz : AObj → Nat
  | .cells l => l.length
  | .arr sz _ _ => sz
def AObj.n : AObj → Nat
  | .cells _ => 1
  | .arr _ n _ => n
def AObj.f : AObj → Nat → Nat → AV
  | .cells l, _, j => l.getD j (.con undef)
  | .arr _ _ f, i, j => f i j
def AObj.No (id : Nat) : AObj → Prop
  | .cells l => l.all (AV.no id) = true
  | .arr _ _ f => ∀ i j, (f i j).no id = true
theorem AObj.No.at_ {id : Nat} {o : AObj} (h : o.No id) (i j : Nat) : (o.f i j).no id = true := by
  cases o with
  | cells l =>
    unfold AObj.No at h
    show (l.getD j (AV.con undef)).no id = true
    rw [List.getD_eq_getElem?_getD]
    cases hl : l[j]? with
    | none => rfl
    | some x => exact List.all_eq_true.1 h x (List.mem_of_getElem? hl)
  | arr _ _ f => exact h i j
abbrev Env := List (Nat × SV)
abbrev Heap := List (Nat × AObj)
structure Sig where
  env : Env
  heap : Heap
def Sig.put (σ : Sig) (d : Nat) (s : SV) : Sig := ⟨(d, s) :: σ.env, σ.heap⟩
def Sig.set (σ : Sig) (id : Nat) (o : AObj) : Sig := ⟨σ.env, (id, o) :: σ.heap⟩

/-- The walk's own memory. -/
structure MemOk (B : Nat) (ρ : Rho) (S : Nat → Prop) (H : Heap) (w : World) : Prop where
  base : ρ.base = B
  low : B ≤ w.heap.size
  lt : ∀ b, S b → b < w.heap.size
  obj : ∀ id o, H.lookup id = some o → ∃ cs e, w.heap[(ρ id).1]? = some (.cells cs e (0, 0)) ∧ cs.size = (ρ id).2 * o.sz ∧ o.n ≤ (ρ id).2 ∧ (ρ id).2 ≤ maxLen ∧ B ≤ (ρ id).1 ∧ ¬ S (ρ id).1 ∧
    ∀ i j, i < o.n → j < o.sz → ∃ u, cs[i * o.sz + j]? = some u ∧ R ρ w S (o.f i j) u
  inj : ∀ id id' o o', H.lookup id = some o → H.lookup id' = some o' → id ≠ id' → (ρ id).1 ≠ (ρ id').1

/-- Where a walk began: the world, what it reads of it, and the names of the objects that it was handed. -/
structure Start where
  base : Nat
  w : World
  S : Nat → Prop
  v : World
  ρ : Rho
theorem Same.refl (S : Nat → Prop) (w : World) : Same S w S w := ⟨fun _ h => h, fun _ _ => rfl⟩
theorem Same.trans {S1 S2 S3 : Nat → Prop} {w1 w2 w3 : World} (h : Same S1 w1 S2 w2) (k : Same S2 w2 S3 w3) : Same S1 w1 S3 w3 := ⟨fun b hb => k.sub b (h.sub b hb), fun b hb => (k.blk b (h.sub b hb)).trans (h.blk b hb)⟩
structure Kept (b : Start) (ρ : Rho) (S : Nat → Prop) (w : World) : Prop where
  old : Below b.base b.w w
  same : Same b.S b.v S w
  ids : ∀ id, 1000000 ≤ id → ρ id = b.ρ id
theorem Kept.step {b : Start} {ρ : Rho} {S S' : Nat → Prop} {w w' : World} (h : Kept b ρ S w) (ho : Below b.base w w') (hs : Same S w S' w') : Kept b ρ S' w' := ⟨h.old.trans ho, h.same.trans hs, h.ids⟩
/-- The state of a walk. -/
structure St (N : Nat) (w0 : Start) (ρ : Rho) (S : Nat → Prop) (σ : Sig) (a : Act) (w : World) : Prop where
  size : a.tmps.size = N
  defers : a.defers = []
  below : Kept w0 ρ S w
  mem : MemOk w0.base ρ S σ.heap w
  env : ∀ t s, σ.env.lookup t = some s → RS ρ w S s (a.tmps.getD t undef)

theorem same_below {S : Nat → Prop} {w w' : World} (hS : ∀ b, S b → b < w.heap.size) (hb : Below w.heap.size w w') : Same S w S w' := ⟨fun _ h => h, fun b h => hb.block b (hS b h)⟩
theorem MemOk.same {B : Nat} {ρ : Rho} {S : Nat → Prop} {H : Heap} {w w' : World} (h : MemOk B ρ S H w) (hb : Below w.heap.size w w') : Same S w S w' := same_below h.lt hb
theorem MemOk.blk {B : Nat} {ρ : Rho} {S : Nat → Prop} {H : Heap} {w : World} (h : MemOk B ρ S H w) {id : Nat} {o : AObj} (ho : H.lookup id = some o) : (ρ id).1 < w.heap.size := by
  obtain ⟨cs, e, h1, _⟩ := h.obj id o ho
  exact (Array.getElem?_eq_some_iff.1 h1).1
theorem MemOk.below {B : Nat} {ρ : Rho} {S : Nat → Prop} {H : Heap} {w w' : World} (h : MemOk B ρ S H w) (hb : Below w.heap.size w w') : MemOk B ρ S H w' where
  base := h.base
  low := Nat.le_trans h.low hb.size
  lt b hS := Nat.lt_of_lt_of_le (h.lt b hS) hb.size
  obj id o ho := by
    have hlt := h.blk ho
    obtain ⟨cs, e, h1, h2, h3, h4, h5, h6, h7⟩ := h.obj id o ho
    refine ⟨cs, e, by rw [hb.block _ hlt]; exact h1, h2, h3, h4, h5, h6, fun i j hi hj => ?_⟩
    obtain ⟨u, hu, hr⟩ := h7 i j hi hj
    exact ⟨u, hu, hr.keep (h.same hb) (Rn.refl _ _)⟩
  inj := h.inj
theorem St.world {N : Nat} {w0 : Start} {ρ : Rho} {S : Nat → Prop} {σ : Sig} {a : Act} {w w' : World} (h : St N w0 ρ S σ a w) (hb : Below w.heap.size w w') : St N w0 ρ S σ a w' where
  size := h.size
  defers := h.defers
  below := h.below.step (hb.mono h.mem.low) (h.mem.same hb)
  mem := h.mem.below hb
  env t s hs := (h.env t s hs).keep (h.mem.same hb) (Rn.refl _ _)
theorem getD_put {a : Act} {d t : Nat} {v : Value} (hd : d < a.tmps.size) : (a.put (some d) v).tmps.getD t undef = if t = d then v else a.tmps.getD t undef := by
  simp only [Act.put, Array.getD_eq_getD_getElem?, Array.getElem?_setIfInBounds]
  by_cases h : t = d
  · subst h; simp [hd]
  · rw [if_neg h, if_neg (fun e => h e.symm)]
theorem St.put {N : Nat} {w0 : Start} {ρ : Rho} {S : Nat → Prop} {σ : Sig} {a : Act} {w : World} (h : St N w0 ρ S σ a w) {d : Nat} (hd : d < N) {s : SV} {v : Value} (hv : RS ρ w S s v) : St N w0 ρ S (σ.put d s) (a.put (some d) v) w where
  size := by simp only [Act.put, Array.size_setIfInBounds]; exact h.size
  defers := h.defers
  below := h.below
  mem := h.mem
  env t s' hs := by
    rw [getD_put (by rw [h.size]; exact hd)]
    simp only [Sig.put, List.lookup_cons] at hs
    by_cases e : t = d
    · subst e
      simp at hs
      subst hs
      rw [if_pos rfl]; exact hv
    · have : (t == d) = false := by simpa using e
      rw [this] at hs
      rw [if_neg e]; exact h.env t s' hs
end Go.Proofs.Ytmlhlkpiofbhgaa
