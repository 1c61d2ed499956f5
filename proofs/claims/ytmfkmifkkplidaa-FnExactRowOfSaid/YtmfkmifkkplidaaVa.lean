/-
  A calculus for walks, part 1: what a slot or a cell reads as (AV, SV), what is known of the call's own memory (MemOk), and the state of a walk (St).
-/
import Derived.Test.YtmfkmifkkplidaaKit
namespace Go.Proofs.Ytmfkmifkkplidaa
open Go.ChangeShapes Go.WideShapes Go.ChangeAt Go.RowKit Go.BigFrame Go.Deep
set_option linter.unusedVariables false

inductive AV where
  | int (k : IntKind) (n : Int)
  | bool (b : Bool)
  | str (s : ByteArray)
  | con (v : Value)
  | lst (sz n : Nat) (f : Nat → Nat → AV)
  | ref (sz : Nat) (f : Nat → AV)
  | ptr (id sz i j : Nat)
  | own (id sz n : Nat)
  | fn (g : FuncId) (m : Nat) (caps : Nat → AV)
  | frs (x : AV)
  | tre (id i : Nat)

/-- Data that no walk writes: its blocks lie in S. -/
def D (w : World) (S : Nat → Prop) : AV → Value → Prop
  | .int k n, v => v = .int k n
  | .bool b, v => v = .bool b
  | .str s, v => v = .string s ∧ s.size ≤ maxLen
  | .con c, v => v = c
  | .lst sz n f, v => ∃ A c, v = .slice A n c ∧ n ≤ c ∧ c ≤ maxLen ∧ (A = none → c = 0) ∧ ∀ i, i < n → ∃ b off, A = some ⟨b, off, none⟩ ∧ S b ∧ ∀ j, j < sz → ∃ u, w.cell? ⟨b, off + (i * sz + j), none⟩ = some u ∧ D w S (f i j) u
  | .ref sz f, v => ∃ b off, v = .pointer (some ⟨b, off, none⟩) ∧ S b ∧ ∀ j, j < sz → ∃ u, w.cell? ⟨b, off + j, none⟩ = some u ∧ D w S (f j) u
  | .ptr _ _ _ _, _ => False
  | .own _ _ _, _ => False
  | .fn g m caps, v => ∃ vs : Array Value, v = .func (.func g) #[] vs ∧ vs.size = m ∧ ∀ j, j < m → ∃ u, vs[j]? = some u ∧ D w S (caps j) u
  | .frs _, _ => False
  | .tre _ _, _ => False
/-- Data that one holder has for himself: its blocks lie in B, and each is named in one place alone. -/
def Tr (w : World) : AV → Value → (Nat → Prop) → Prop
  | .int k n, v, _ => v = .int k n
  | .bool b, v, _ => v = .bool b
  | .str s, v, _ => v = .string s ∧ s.size ≤ maxLen
  | .con c, v, _ => v = c
  | .lst sz n f, v, B => ∃ A c, v = .slice A n c ∧ n ≤ c ∧ c ≤ maxLen ∧ ((c = 0 ∧ (A = none ∨ ∃ b, A = some ⟨b, 0, none⟩)) ∨ ∃ b cs e, A = some ⟨b, 0, none⟩ ∧ B b ∧ w.heap[b]? = some (.cells cs e (0, 0)) ∧ cs.size = c * sz ∧
      ∃ F : Nat → Nat → Nat → Prop, (∀ i j, i < n → j < sz → (∀ q, F i j q → B q ∧ q ≠ b) ∧ ∃ u, cs[i * sz + j]? = some u ∧ Tr w (f i j) u (F i j)) ∧
        ∀ i j i' j', i < n → j < sz → i' < n → j' < sz → ¬ (i = i' ∧ j = j') → ∀ q, F i j q → ¬ F i' j' q)
  | .ref _ _, _, _ => False
  | .ptr _ _ _ _, _, _ => False
  | .own _ _ _, _, _ => False
  | .fn _ _ _, _, _ => False
  | .frs _, _, _ => False
  | .tre _ _, _, _ => False

structure Rho where
  m : Nat → Nat × Nat
  base : Nat
  tv : Nat → Nat → Value
  tb : Nat → Nat → Nat → Prop
  tn : Nat → Nat
/-- ρ' names the object id as ρ does. -/
structure Rho.At (ρ ρ' : Rho) (id : Nat) : Prop where
  m : ρ'.m id = ρ.m id
  v : ρ'.tv id = ρ.tv id
  b : ρ'.tb id = ρ.tb id
  n : ρ'.tn id = ρ.tn id
theorem Rho.At.refl (ρ : Rho) (id : Nat) : Rho.At ρ ρ id := ⟨rfl, rfl, rfl, rfl⟩
theorem Rho.At.trans {ρ ρ' ρ'' : Rho} {id : Nat} (h : Rho.At ρ ρ' id) (k : Rho.At ρ' ρ'' id) : Rho.At ρ ρ'' id := ⟨k.m.trans h.m, k.v.trans h.v, k.b.trans h.b, k.n.trans h.n⟩
instance : CoeFun Rho (fun _ => Nat → Nat × Nat) := ⟨Rho.m⟩
/-- ρ' names the objects as ρ does, but for those that p lets off. -/
structure Rn (ρ ρ' : Rho) (p : Nat → Prop) : Prop where
  base : ρ'.base = ρ.base
  eq : ∀ id, Rho.At ρ ρ' id ∨ p id
theorem Rn.refl (ρ : Rho) (p : Nat → Prop) : Rn ρ ρ p := ⟨rfl, fun _ => .inl (.refl _ _)⟩
theorem Rn.imp {ρ ρ' : Rho} {p q : Nat → Prop} (h : Rn ρ ρ' p) (hq : ∀ id, p id → q id) : Rn ρ ρ' q := ⟨h.base, fun id => (h.eq id).imp (fun e => e) (hq id)⟩
/-- Blocks that are new since the walk began. -/
def freshS (ρ : Rho) (S : Nat → Prop) (b : Nat) : Prop := S b ∧ ρ.base ≤ b
def R (ρ : Rho) (w : World) (S : Nat → Prop) : AV → Value → Prop
  | .int k n, v => v = .int k n
  | .bool b, v => v = .bool b
  | .str s, v => v = .string s ∧ s.size ≤ maxLen
  | .con c, v => v = c
  | .lst sz n f, v => D w S (.lst sz n f) v
  | .ref sz f, v => D w S (.ref sz f) v
  | .ptr id sz i j, v => v = .pointer (some ⟨(ρ id).1, i * sz + j, none⟩)
  | .own id _ n, v => ∃ A, v = .slice A n (ρ id).2 ∧ n ≤ (ρ id).2 ∧ (ρ id).2 ≤ maxLen ∧ (A = some ⟨(ρ id).1, 0, none⟩ ∨ (A = none ∧ (ρ id).2 = 0))
  | .fn g m caps, v => ∃ vs : Array Value, v = .func (.func g) #[] vs ∧ vs.size = m ∧ ∀ j, j < m → ∃ u, vs[j]? = some u ∧ R ρ w S (caps j) u
  | .frs x, v => D w (freshS ρ S) x v
  | .tre id i, v => v = ρ.tv id i ∧ i < ρ.tn id ∧ ∃ A n c, v = .slice A n c

/-- The memory that is read is the same. -/
structure Same (S : Nat → Prop) (w : World) (S' : Nat → Prop) (w' : World) : Prop where
  sub : ∀ b, S b → S' b
  blk : ∀ b, S b → w'.heap[b]? = w.heap[b]?
theorem Same.cell {S S' : Nat → Prop} {w w' : World} (h : Same S w S' w') {b o : Nat} (hb : S b) : w'.cell? ⟨b, o, none⟩ = w.cell? ⟨b, o, none⟩ :=
  World.cell?_of_block (w := w) (h.blk b hb)
theorem D.keep {w w' : World} {S S' : Nat → Prop} (h : Same S w S' w') : ∀ {x : AV} {v : Value}, D w S x v → D w' S' x v
  | .int _ _, _, hd => hd
  | .bool _, _, hd => hd
  | .str _, _, hd => hd
  | .con _, _, hd => hd
  | .lst sz n f, v, hd => by
    unfold D at hd ⊢
    obtain ⟨A, c, e, h1, h2, h3, h4⟩ := hd
    refine ⟨A, c, e, h1, h2, h3, fun i hi => ?_⟩
    obtain ⟨b, off, hA, hS, hc⟩ := h4 i hi
    refine ⟨b, off, hA, h.sub b hS, fun j hj => ?_⟩
    obtain ⟨u, hu, hr⟩ := hc j hj
    exact ⟨u, (h.cell hS).trans hu, D.keep h hr⟩
  | .ref sz f, v, hd => by
    unfold D at hd ⊢
    obtain ⟨b, off, e, hS, hc⟩ := hd
    refine ⟨b, off, e, h.sub b hS, fun j hj => ?_⟩
    obtain ⟨u, hu, hr⟩ := hc j hj
    exact ⟨u, (h.cell hS).trans hu, D.keep h hr⟩
  | .ptr _ _ _ _, _, hd => hd
  | .own _ _ _, _, hd => hd
  | .fn g m caps, v, hd => by
    unfold D at hd ⊢
    obtain ⟨vs, e, hm, hc⟩ := hd
    refine ⟨vs, e, hm, fun j hj => ?_⟩
    obtain ⟨u, hu, hr⟩ := hc j hj
    exact ⟨u, hu, D.keep h hr⟩
  | .frs _, _, hd => hd
  | .tre _ _, _, hd => hd
theorem Tr.keep {w w' : World} : ∀ {x : AV} {v : Value} {B : Nat → Prop}, (∀ b, B b → w'.heap[b]? = w.heap[b]?) → Tr w x v B → Tr w' x v B
  | .int _ _, _, _, _, h => h
  | .bool _, _, _, _, h => h
  | .str _, _, _, _, h => h
  | .con _, _, _, _, h => h
  | .lst sz n f, v, B, hb, h => by
    unfold Tr at h ⊢
    obtain ⟨A, c, e, h1, h2, h3⟩ := h
    refine ⟨A, c, e, h1, h2, h3.imp (fun h => h) ?_⟩
    rintro ⟨b, cs, t, g1, g2, g3, g4, F, g5, g6⟩
    refine ⟨b, cs, t, g1, g2, by rw [hb b g2]; exact g3, g4, F, fun i j hi hj => ?_, g6⟩
    obtain ⟨k1, u, k2, k3⟩ := g5 i j hi hj
    exact ⟨k1, u, k2, Tr.keep (fun q hq => hb q (k1 q hq).1) k3⟩
  | .ref _ _, _, _, _, h => h
  | .ptr _ _ _ _, _, _, _, h => h
  | .own _ _ _, _, _, _, h => h
  | .fn _ _ _, _, _, _, h => h
  | .frs _, _, _, _, h => h
  | .tre _ _, _, _, _, h => h
theorem Tr.mono {w : World} {B B' : Nat → Prop} (hb : ∀ b, B b → B' b) : ∀ {x : AV} {v : Value}, Tr w x v B → Tr w x v B'
  | .int _ _, _, h => h
  | .bool _, _, h => h
  | .str _, _, h => h
  | .con _, _, h => h
  | .lst sz n f, v, h => by
    unfold Tr at h ⊢
    obtain ⟨A, c, e, h1, h2, h3⟩ := h
    refine ⟨A, c, e, h1, h2, h3.imp (fun h => h) ?_⟩
    rintro ⟨b, cs, t, g1, g2, g3, g4, F, g5, g6⟩
    exact ⟨b, cs, t, g1, hb b g2, g3, g4, F, fun i j hi hj => ⟨fun q hq => ⟨hb q ((g5 i j hi hj).1 q hq).1, ((g5 i j hi hj).1 q hq).2⟩, (g5 i j hi hj).2⟩, g6⟩
  | .ref _ _, _, h => h
  | .ptr _ _ _ _, _, h => h
  | .own _ _ _, _, h => h
  | .fn _ _ _, _, h => h
  | .frs _, _, h => h
  | .tre _ _, _, h => h
theorem Tr.d {w : World} {S : Nat → Prop} : ∀ {x : AV} {v : Value} {B : Nat → Prop}, (∀ b, B b → S b) → Tr w x v B → D w S x v
  | .int _ _, _, _, _, h => h
  | .bool _, _, _, _, h => h
  | .str _, _, _, _, h => h
  | .con _, _, _, _, h => h
  | .lst sz n f, v, B, hb, h => by
    unfold Tr at h
    unfold D
    obtain ⟨A, c, e, h1, h2, h3⟩ := h
    rcases h3 with ⟨h3, _⟩ | ⟨b, cs, t, g1, g2, g3, g4, F, g5, g6⟩
    · exact ⟨A, c, e, h1, h2, fun _ => h3, fun i hi => absurd hi (by omega)⟩
    · refine ⟨A, c, e, h1, h2, (fun e => by rw [g1] at e; cases e), fun i hi => ⟨b, 0, g1, hb b g2, fun j hj => ?_⟩⟩
      obtain ⟨k1, u, k2, k3⟩ := g5 i j hi hj
      exact ⟨u, by simp [World.cell?, g3, k2], Tr.d (fun q hq => hb q (k1 q hq).1) k3⟩
  | .ref _ _, _, _, _, h => h.elim
  | .ptr _ _ _ _, _, _, _, h => h.elim
  | .own _ _ _, _, _, _, h => h.elim
  | .fn _ _ _, _, _, _, h => h.elim
  | .frs _, _, _, _, h => h.elim
  | .tre _ _, _, _, _, h => h.elim
theorem Same.fresh {ρ ρ' : Rho} {S S' : Nat → Prop} {w w' : World} (h : Same S w S' w') (e : ρ'.base = ρ.base) : Same (freshS ρ S) w (freshS ρ' S') w' :=
  ⟨fun b hb => ⟨h.sub b hb.1, by rw [e]; exact hb.2⟩, fun b hb => h.blk b hb.1⟩

/-- x does not speak of the own object id. -/
def AV.no (id : Nat) : AV → Bool
  | .ptr k _ _ _ => !(k == id)
  | .own k _ _ => !(k == id)
  | .fn _ m caps => (List.range m).all fun j => (caps j).no id
  | .tre k _ => !(k == id)
  | _ => true
theorem R.keep {ρ ρ' : Rho} {w w' : World} {S S' : Nat → Prop} (h : Same S w S' w') : ∀ {x : AV} {v : Value}, Rn ρ ρ' (fun id => x.no id = true) → R ρ w S x v → R ρ' w' S' x v
  | .int _ _, _, _, hd => hd
  | .bool _, _, _, hd => hd
  | .str _, _, _, hd => hd
  | .con _, _, _, hd => hd
  | .lst sz n f, v, _, hd => by unfold R at hd ⊢; exact hd.keep h
  | .ref sz f, v, _, hd => by unfold R at hd ⊢; exact hd.keep h
  | .ptr id _ _ _, _, hn, hd => by
    have e : ρ' id = ρ id := by
      rcases hn.eq id with e | e
      · exact e.m
      · simp [AV.no] at e
    unfold R at hd ⊢
    rw [e]; exact hd
  | .own id _ _, _, hn, hd => by
    have e : ρ' id = ρ id := by
      rcases hn.eq id with e | e
      · exact e.m
      · simp [AV.no] at e
    unfold R at hd ⊢
    rw [e]; exact hd
  | .fn g m caps, v, hn, hd => by
    unfold R at hd ⊢
    obtain ⟨vs, e, hm, hc⟩ := hd
    refine ⟨vs, e, hm, fun j hj => ?_⟩
    obtain ⟨u, hu, hr⟩ := hc j hj
    refine ⟨u, hu, R.keep h (hn.imp fun id e => ?_) hr⟩
    rw [AV.no, List.all_eq_true] at e
    exact e j (List.mem_range.2 hj)
  | .frs x, v, hn, hd => by
    unfold R at hd ⊢
    exact hd.keep (h.fresh hn.base)
  | .tre id i, _, hn, hd => by
    have e : ρ'.tv id = ρ.tv id ∧ ρ'.tn id = ρ.tn id := by
      rcases hn.eq id with e | e
      · exact ⟨e.v, e.n⟩
      · simp [AV.no] at e
    unfold R at hd ⊢
    rw [e.1, e.2]; exact hd
theorem D.toR {ρ : Rho} {w : World} {S : Nat → Prop} : ∀ {x : AV} {v : Value}, D w S x v → R ρ w S x v
  | .int _ _, _, hd => hd
  | .bool _, _, hd => hd
  | .str _, _, hd => hd
  | .con _, _, hd => hd
  | .lst _ _ _, v, hd => by unfold R; exact hd
  | .ref _ _, v, hd => by unfold R; exact hd
  | .ptr _ _ _ _, _, hd => hd.elim
  | .own _ _ _, _, hd => hd.elim
  | .fn g m caps, v, hd => by
    unfold D at hd
    unfold R
    obtain ⟨vs, e, hm, hc⟩ := hd
    refine ⟨vs, e, hm, fun j hj => ?_⟩
    obtain ⟨u, hu, hr⟩ := hc j hj
    exact ⟨u, hu, D.toR hr⟩
  | .frs _, _, hd => hd.elim
  | .tre _ _, _, hd => hd.elim

/-- What a slot holds. -/
inductive SV where
  | one (x : AV)
  | agg (l : List AV)
  | tup2 (x y : SV)
  | tup3 (x y z : SV)
  | gd (b : Bool) (s : SV)
def RL (ρ : Rho) (w : World) (S : Nat → Prop) : List AV → List Value → Prop
  | [], vs => vs = []
  | x :: l, vs => ∃ u us, vs = u :: us ∧ R ρ w S x u ∧ RL ρ w S l us
def RS (ρ : Rho) (w : World) (S : Nat → Prop) : SV → Value → Prop
  | .one x, v => R ρ w S x v
  | .agg l, v => ∃ us : Array Value, v = .agg us ∧ RL ρ w S l us.toList
  | .tup2 x y, v => ∃ a b, v = .tuple #[a, b] ∧ RS ρ w S x a ∧ RS ρ w S y b
  | .tup3 x y z, v => ∃ a b c, v = .tuple #[a, b, c] ∧ RS ρ w S x a ∧ RS ρ w S y b ∧ RS ρ w S z c
  | .gd b s, v => (b = true → RS ρ w S s v) ∧ (b = false → v = undef)
def SV.no (id : Nat) : SV → Bool
  | .one x => x.no id
  | .agg l => l.all (AV.no id)
  | .tup2 x y => x.no id && y.no id
  | .tup3 x y z => x.no id && y.no id && z.no id
  | .gd _ s => s.no id
theorem RL.keep {ρ ρ' : Rho} {w w' : World} {S S' : Nat → Prop} (h : Same S w S' w') : ∀ {l : List AV} {us : List Value}, Rn ρ ρ' (fun id => l.all (AV.no id) = true) → RL ρ w S l us → RL ρ' w' S' l us
  | [], _, _, hd => hd
  | x :: l, _, hn, hd => by
    obtain ⟨u, us, e, h1, h2⟩ := hd
    refine ⟨u, us, e, h1.keep h (hn.imp fun id e => ?_), RL.keep h (hn.imp fun id e => ?_) h2⟩
    · rw [List.all_cons, Bool.and_eq_true] at e; exact e.1
    · rw [List.all_cons, Bool.and_eq_true] at e; exact e.2
theorem RS.keep {ρ ρ' : Rho} {w w' : World} {S S' : Nat → Prop} (h : Same S w S' w') : ∀ {s : SV} {v : Value}, Rn ρ ρ' (fun id => s.no id = true) → RS ρ w S s v → RS ρ' w' S' s v
  | .one x, _, hn, hd => R.keep h hn hd
  | .agg l, _, hn, hd => by
    obtain ⟨us, e, h1⟩ := hd
    exact ⟨us, e, h1.keep h hn⟩
  | .tup2 x y, _, hn, hd => by
    obtain ⟨a, b, e, h1, h2⟩ := hd
    refine ⟨a, b, e, RS.keep h (hn.imp fun id e => ?_) h1, RS.keep h (hn.imp fun id e => ?_) h2⟩
    · rw [SV.no, Bool.and_eq_true] at e; exact e.1
    · rw [SV.no, Bool.and_eq_true] at e; exact e.2
  | .tup3 x y z, _, hn, hd => by
    obtain ⟨a, b, c, e, h1, h2, h3⟩ := hd
    refine ⟨a, b, c, e, RS.keep h (hn.imp fun id e => ?_) h1, RS.keep h (hn.imp fun id e => ?_) h2, RS.keep h (hn.imp fun id e => ?_) h3⟩ <;>
      · rw [SV.no, Bool.and_eq_true, Bool.and_eq_true] at e
        first | exact e.1.1 | exact e.1.2 | exact e.2
  | .gd b s, _, hn, hd => ⟨fun hb => RS.keep h hn (hd.1 hb), hd.2⟩
theorem RL.len {ρ : Rho} {w : World} {S : Nat → Prop} : ∀ {l : List AV} {us : List Value}, RL ρ w S l us → us.length = l.length
  | [], us, hd => by rw [show us = [] from hd]; rfl
  | x :: l, _, hd => by
    obtain ⟨u, us, rfl, _, h2⟩ := hd
    simp [RL.len h2]
theorem RL.get {ρ : Rho} {w : World} {S : Nat → Prop} : ∀ {l : List AV} {us : List Value}, RL ρ w S l us → ∀ {j : Nat} {x : AV}, l[j]? = some x → ∃ u, us[j]? = some u ∧ R ρ w S x u
  | [], _, _, j, x, hx => by simp at hx
  | y :: l, _, hd, j, x, hx => by
    obtain ⟨u, us, rfl, h1, h2⟩ := hd
    cases j with
    | zero => simp at hx; subst hx; exact ⟨u, rfl, h1⟩
    | succ j => simp at hx ⊢; exact RL.get h2 hx

/-- An object of the walk's own: a variable (its cells), or a row. -/
inductive AObj where
  | cells (l : List AV)
  | arr (sz n : Nat) (f : Nat → Nat → AV)
  | trees (n : Nat) (X : Nat → AV)
def AObj.sz : AObj → Nat
  | .cells l => l.length
  | .arr sz _ _ => sz
  | .trees _ _ => 0
def AObj.n : AObj → Nat
  | .cells _ => 1
  | .arr _ n _ => n
  | .trees _ _ => 0
def AObj.f : AObj → Nat → Nat → AV
  | .cells l, _, j => l.getD j (.con undef)
  | .arr _ _ f, i, j => f i j
  | .trees _ _, _, _ => .con undef
def AObj.isT : AObj → Bool
  | .trees _ _ => true
  | _ => false
def AObj.No (id : Nat) : AObj → Prop
  | .cells l => l.all (AV.no id) = true
  | .arr _ _ f => ∀ i j, (f i j).no id = true
  | .trees _ _ => True
theorem AObj.No.at_ {id : Nat} {o : AObj} (h : o.No id) (i j : Nat) : (o.f i j).no id = true := by
  cases o with
  | cells l =>
    unfold AObj.No at h
    show (l.getD j (AV.con undef)).no id = true
    rw [List.getD_eq_getElem?_getD]
    cases hl : l[j]? with
    | none => rfl
    | some x => exact List.all_eq_true.1 h x (List.mem_of_getElem? hl)
  | arr _ _ f => exact h i j
  | trees _ _ => rfl
abbrev Env := List (Nat × SV)
abbrev Heap := List (Nat × AObj)
structure Sig where
  env : Env
  heap : Heap
def Sig.put (σ : Sig) (d : Nat) (s : SV) : Sig := ⟨(d, s) :: σ.env, σ.heap⟩
def Sig.set (σ : Sig) (id : Nat) (o : AObj) : Sig := ⟨σ.env, (id, o) :: σ.heap⟩

/-- The walk's own memory. -/
structure MemOk (B : Nat) (ρ : Rho) (S : Nat → Prop) (H : Heap) (w : World) : Prop where
  base : ρ.base = B
  low : B ≤ w.heap.size
  lt : ∀ b, S b → b < w.heap.size
  cap : ∀ id o, H.lookup id = some o → o.n ≤ (ρ id).2
  obj : ∀ id o, H.lookup id = some o → (ρ id).2 ≠ 0 → ∃ cs e, w.heap[(ρ id).1]? = some (.cells cs e (0, 0)) ∧ cs.size = (ρ id).2 * o.sz ∧ o.n ≤ (ρ id).2 ∧ (ρ id).2 ≤ maxLen ∧ B ≤ (ρ id).1 ∧ ¬ S (ρ id).1 ∧
    ∀ i j, i < o.n → j < o.sz → ∃ u, cs[i * o.sz + j]? = some u ∧ R ρ w S (o.f i j) u
  inj : ∀ id id' o o', H.lookup id = some o → H.lookup id' = some o' → id ≠ id' → (ρ id).2 ≠ 0 → (ρ id').2 ≠ 0 → (ρ id).1 ≠ (ρ id').1
  tree0 : ∀ id n X, H.lookup id = some (.trees n X) → ρ.tn id = n ∧ ∀ i, i < n → Tr w (X i) (ρ.tv id i) (ρ.tb id i) ∧ ∀ b, ρ.tb id i b → B ≤ b ∧ b < w.heap.size ∧ ¬ S b ∧ (∀ id' o, H.lookup id' = some o → (ρ id').2 ≠ 0 → (ρ id').1 ≠ b) ∧
    ∀ id' n' X' i', H.lookup id' = some (.trees n' X') → i' < n' → ¬ (id' = id ∧ i' = i) → ¬ ρ.tb id' i' b
theorem MemOk.tree {B : Nat} {ρ : Rho} {S : Nat → Prop} {H : Heap} {w : World} (h : MemOk B ρ S H w) : ∀ id n X, H.lookup id = some (.trees n X) → ∀ i, i < n → Tr w (X i) (ρ.tv id i) (ρ.tb id i) ∧ ∀ b, ρ.tb id i b → B ≤ b ∧ b < w.heap.size ∧ ¬ S b ∧ (∀ id' o, H.lookup id' = some o → (ρ id').2 ≠ 0 → (ρ id').1 ≠ b) ∧
    ∀ id' n' X' i', H.lookup id' = some (.trees n' X') → i' < n' → ¬ (id' = id ∧ i' = i) → ¬ ρ.tb id' i' b := fun id n X hX => (h.tree0 id n X hX).2
theorem MemOk.treeOf {B B' : Nat} {ρ ρ' : Rho} {S S' : Nat → Prop} {H H' : Heap} {w w' : World} (h : MemOk B ρ S H w) (hB : B' ≤ B)
    (hH : ∀ id n X, H'.lookup id = some (.trees n X) → ∃ X', H.lookup id = some (.trees n X') ∧ (∀ i, i < n → X' i = X i) ∧ ρ'.tv id = ρ.tv id ∧ ρ'.tb id = ρ.tb id ∧ ρ'.tn id = ρ.tn id)
    (hw : ∀ id n X i b, H.lookup id = some (.trees n X) → i < n → ρ.tb id i b → w'.heap[b]? = w.heap[b]? ∧ b < w'.heap.size ∧ ¬ S' b)
    (ho : ∀ id o, H'.lookup id = some o → (ρ' id).2 ≠ 0 → (∃ o', H.lookup id = some o' ∧ ρ' id = ρ id) ∨ ∀ k n X i, H.lookup k = some (.trees n X) → i < n → ¬ ρ.tb k i (ρ' id).1) :
    ∀ id n X, H'.lookup id = some (.trees n X) → ρ'.tn id = n ∧ ∀ i, i < n → Tr w' (X i) (ρ'.tv id i) (ρ'.tb id i) ∧ ∀ b, ρ'.tb id i b → B' ≤ b ∧ b < w'.heap.size ∧ ¬ S' b ∧ (∀ id' o, H'.lookup id' = some o → (ρ' id').2 ≠ 0 → (ρ' id').1 ≠ b) ∧
      ∀ id' n' X' i', H'.lookup id' = some (.trees n' X') → i' < n' → ¬ (id' = id ∧ i' = i) → ¬ ρ'.tb id' i' b := by
  intro id n X hX
  obtain ⟨X', h1, h3, h4, h5, h6⟩ := hH id n X hX
  refine ⟨h6.trans (h.tree0 id n X' h1).1, fun i hi => ?_⟩
  have hi' : i < n := hi
  obtain ⟨k1, k2⟩ := h.tree id n X' h1 i hi'
  rw [h3 i hi] at k1
  rw [h4, h5]
  refine ⟨k1.keep fun b hb => (hw id n X' i b h1 hi' hb).1, fun b hb => ?_⟩
  obtain ⟨q1, q2, q3, q4, q5⟩ := k2 b hb
  obtain ⟨_, p2, p3⟩ := hw id n X' i b h1 hi' hb
  refine ⟨by omega, p2, p3, fun id' o ho' hc => ?_, fun id' m Y i' hY hi2 hne => ?_⟩
  · rcases ho id' o ho' hc with ⟨o', g1, g2⟩ | g
    · rw [g2] at hc ⊢
      exact q4 id' o' g1 hc
    · exact fun e => g id n X' i h1 hi' (by rw [e]; exact hb)
  · obtain ⟨Y', j1, j3, j4, j5, j6⟩ := hH id' m Y hY
    rw [j5]
    exact q5 id' m Y' i' j1 hi2 hne

/-- Where a walk began: the world, what it reads of it, and the names of the objects that it was handed. -/
structure Start where
  base : Nat
  w : World
  S : Nat → Prop
  v : World
  ρ : Rho
theorem Same.refl (S : Nat → Prop) (w : World) : Same S w S w := ⟨fun _ h => h, fun _ _ => rfl⟩
theorem Same.trans {S1 S2 S3 : Nat → Prop} {w1 w2 w3 : World} (h : Same S1 w1 S2 w2) (k : Same S2 w2 S3 w3) : Same S1 w1 S3 w3 := ⟨fun b hb => k.sub b (h.sub b hb), fun b hb => (k.blk b (h.sub b hb)).trans (h.blk b hb)⟩
structure Kept (b : Start) (ρ : Rho) (S : Nat → Prop) (w : World) : Prop where
  old : Below b.base b.w w
  same : Same b.S b.v S w
  ids : ∀ id, 1000000 ≤ id → Rho.At b.ρ ρ id
theorem Kept.step {b : Start} {ρ : Rho} {S S' : Nat → Prop} {w w' : World} (h : Kept b ρ S w) (ho : Below b.base w w') (hs : Same S w S' w') : Kept b ρ S' w' := ⟨h.old.trans ho, h.same.trans hs, h.ids⟩
/-- The state of a walk. -/
structure St (N : Nat) (w0 : Start) (ρ : Rho) (S : Nat → Prop) (σ : Sig) (a : Act) (w : World) : Prop where
  size : a.tmps.size = N
  defers : a.defers = []
  below : Kept w0 ρ S w
  mem : MemOk w0.base ρ S σ.heap w
  env : ∀ t s, σ.env.lookup t = some s → RS ρ w S s (a.tmps.getD t undef)

theorem same_below {S : Nat → Prop} {w w' : World} (hS : ∀ b, S b → b < w.heap.size) (hb : Below w.heap.size w w') : Same S w S w' := ⟨fun _ h => h, fun b h => hb.block b (hS b h)⟩
theorem MemOk.same {B : Nat} {ρ : Rho} {S : Nat → Prop} {H : Heap} {w w' : World} (h : MemOk B ρ S H w) (hb : Below w.heap.size w w') : Same S w S w' := same_below h.lt hb
theorem MemOk.pos {B : Nat} {ρ : Rho} {S : Nat → Prop} {H : Heap} {w : World} (h : MemOk B ρ S H w) {id : Nat} {o : AObj} (ho : H.lookup id = some o) {i : Nat} (hi : i < o.n) : (ρ id).2 ≠ 0 := by
  have := h.cap id o ho; omega
theorem MemOk.blk {B : Nat} {ρ : Rho} {S : Nat → Prop} {H : Heap} {w : World} (h : MemOk B ρ S H w) {id : Nat} {o : AObj} (ho : H.lookup id = some o) (hc : (ρ id).2 ≠ 0) : (ρ id).1 < w.heap.size := by
  obtain ⟨cs, e, h1, _⟩ := h.obj id o ho hc
  exact (Array.getElem?_eq_some_iff.1 h1).1
theorem MemOk.below {B : Nat} {ρ : Rho} {S : Nat → Prop} {H : Heap} {w w' : World} (h : MemOk B ρ S H w) (hb : Below w.heap.size w w') : MemOk B ρ S H w' where
  base := h.base
  low := Nat.le_trans h.low hb.size
  lt b hS := Nat.lt_of_lt_of_le (h.lt b hS) hb.size
  cap := h.cap
  obj id o ho hc := by
    have hlt := h.blk ho hc
    obtain ⟨cs, e, h1, h2, h3, h4, h5, h6, h7⟩ := h.obj id o ho hc
    refine ⟨cs, e, by rw [hb.block _ hlt]; exact h1, h2, h3, h4, h5, h6, fun i j hi hj => ?_⟩
    obtain ⟨u, hu, hr⟩ := h7 i j hi hj
    exact ⟨u, hu, hr.keep (h.same hb) (Rn.refl _ _)⟩
  inj := h.inj
  tree0 := h.treeOf (Nat.le_refl _) (fun id n X hX => ⟨X, hX, fun _ _ => rfl, rfl, rfl, rfl⟩) (fun id n X i b hX hi hb' => by
    obtain ⟨q1, q2, q3, _⟩ := (h.tree id n X hX i hi).2 b hb'
    exact ⟨hb.block b q2, Nat.lt_of_lt_of_le q2 hb.size, q3⟩) (fun id o ho _ => .inl ⟨o, ho, rfl⟩)
theorem St.world {N : Nat} {w0 : Start} {ρ : Rho} {S : Nat → Prop} {σ : Sig} {a : Act} {w w' : World} (h : St N w0 ρ S σ a w) (hb : Below w.heap.size w w') : St N w0 ρ S σ a w' where
  size := h.size
  defers := h.defers
  below := h.below.step (hb.mono h.mem.low) (h.mem.same hb)
  mem := h.mem.below hb
  env t s hs := (h.env t s hs).keep (h.mem.same hb) (Rn.refl _ _)
theorem getD_put {a : Act} {d t : Nat} {v : Value} (hd : d < a.tmps.size) : (a.put (some d) v).tmps.getD t undef = if t = d then v else a.tmps.getD t undef := by
  simp only [Act.put, Array.getD_eq_getD_getElem?, Array.getElem?_setIfInBounds]
  by_cases h : t = d
  · subst h; simp [hd]
  · rw [if_neg h, if_neg (fun e => h e.symm)]
theorem St.put {N : Nat} {w0 : Start} {ρ : Rho} {S : Nat → Prop} {σ : Sig} {a : Act} {w : World} (h : St N w0 ρ S σ a w) {d : Nat} (hd : d < N) {s : SV} {v : Value} (hv : RS ρ w S s v) : St N w0 ρ S (σ.put d s) (a.put (some d) v) w where
  size := by simp only [Act.put, Array.size_setIfInBounds]; exact h.size
  defers := h.defers
  below := h.below
  mem := h.mem
  env t s' hs := by
    rw [getD_put (by rw [h.size]; exact hd)]
    simp only [Sig.put, List.lookup_cons] at hs
    by_cases e : t = d
    · subst e
      simp at hs
      subst hs
      rw [if_pos rfl]; exact hv
    · have : (t == d) = false := by simpa using e
      rw [this] at hs
      rw [if_neg e]; exact h.env t s' hs
end Go.Proofs.Ytmfkmifkkplidaa
