/-
  Part 1 of the proof: the texts of a seat's own library, joined.
-/
import Derived.Test.YtonfeiloekofdaaRows
import Derived.WalkKit
import Derived.ProofKit
import Derived.OpenShut
import Derived.Deep.Quiet
import Derived.Deep.QuietTactic
import Derived.BigQuiet
import Derived.Lib.Hide
import Derived.Deep.Slices
import Derived.Laws.Small
import Derived.Laws.StructEq
namespace Go.Proofs.Ytonfeiloekofdaa
open Go.ChangeShapes Go.WideShapes Go.ChangeAt Go.RowKit
set_option linter.unusedVariables false
def I64 (n : Int) : Prop := -9223372036854775808 ≤ n ∧ n ≤ 9223372036854775807
class Rep (α : Type) where
  size : Nat
  rep : World → (Nat → Prop) → α → List Value → Prop
  len : ∀ {w S a cs}, rep w S a cs → cs.length = size
  keep : ∀ {w w' S a cs}, rep w S a cs → (∀ p : Addr, S p.block → w'.cell? p = w.cell? p) → rep w' S a cs
  more : ∀ {w S S' a cs}, rep w S a cs → (∀ b, S b → S' b) → rep w S' a cs
class Flat (α : Type) where
  size : Nat
  enc : α → List Value
  len : ∀ a, (enc a).length = size
  ok : α → Prop
  zero : α
  one : ∀ a, ∀ u ∈ enc a, u.oneCell' = true
instance {α : Type} [Flat α] : Rep α where
  size := Flat.size α
  rep _ _ a cs := cs = Flat.enc a ∧ Flat.ok a
  len h := by rw [h.1]; exact Flat.len _
  keep h _ := h
  more h _ := h
instance : Flat Int := ⟨1, fun n => [.int .i64 n], fun _ => rfl, I64, 0, fun _ _ h => by obtain rfl := List.mem_singleton.1 h; rfl⟩
instance : Flat Bool := ⟨1, fun b => [.bool b], fun _ => rfl, fun _ => True, false, fun _ _ h => by obtain rfl := List.mem_singleton.1 h; rfl⟩
instance : Flat ByteArray := ⟨1, fun s => [.string s], fun _ => rfl, fun s => s.size ≤ maxLen, ByteArray.empty, fun _ _ h => by obtain rfl := List.mem_singleton.1 h; rfl⟩
instance {α : Type} [Rep α] : Rep (List α) where
  size := 1
  rep w S l cs := ∃ A c, cs = [.slice A l.length c] ∧ l.length ≤ c ∧ c ≤ maxLen ∧ (A = none → c = 0) ∧
    ∀ (i : Nat) (h : i < l.length), ∃ b off xs, A = some ⟨b, off, none⟩ ∧ S b ∧ (∀ j u, xs[j]? = some u → w.cell? ⟨b, off + (i * Rep.size α + j), none⟩ = some u) ∧ Rep.rep w S l[i] xs
  len h := by obtain ⟨A, c, rfl, _⟩ := h; rfl
  keep h hk := by
    obtain ⟨A, c, e, h1, h2, h4, h3⟩ := h
    refine ⟨A, c, e, h1, h2, h4, fun i hi => ?_⟩
    obtain ⟨b, off, xs, hA, hS, hc, hr⟩ := h3 i hi
    exact ⟨b, off, xs, hA, hS, fun j u hu => (hk _ hS).trans (hc j u hu), Rep.keep hr hk⟩
  more h hk := by
    obtain ⟨A, c, e, h1, h2, h4, h3⟩ := h
    refine ⟨A, c, e, h1, h2, h4, fun i hi => ?_⟩
    obtain ⟨b, off, xs, hA, hS, hc, hr⟩ := h3 i hi
    exact ⟨b, off, xs, hA, hk _ hS, hc, Rep.more hr hk⟩
def RepL {α : Type} [Rep α] (w : World) (S : Nat → Prop) (l : List α) (A : Option Addr) (n c : Nat) : Prop := n = l.length ∧ Rep.rep w S l [.slice A n c]
section
variable {α : Type} [Rep α] {w w' : World} {S S' : Nat → Prop} {l : List α} {A : Option Addr} {n c : Nat}
theorem RepL.keep (h : RepL w S l A n c) (hk : ∀ p : Addr, S p.block → w'.cell? p = w.cell? p) : RepL w' S l A n c := ⟨h.1, Rep.keep h.2 hk⟩
theorem RepL.more (h : RepL w S l A n c) (hk : ∀ b, S b → S' b) : RepL w S' l A n c := ⟨h.1, Rep.more h.2 hk⟩
theorem RepL.at_ (h : RepL w S l A n c) {i : Nat} (hi : i < l.length) :
    ∃ b off xs, A = some ⟨b, off, none⟩ ∧ S b ∧ (∀ j u, xs[j]? = some u → w.cell? ⟨b, off + (i * Rep.size α + j), none⟩ = some u) ∧ Rep.rep w S l[i] xs := by
  obtain ⟨rfl, A', c', e, h1, h2, h4, h3⟩ := h
  simp only [List.cons.injEq, Value.slice.injEq, and_true] at e
  obtain ⟨rfl, -, rfl⟩ := e
  exact h3 i hi
end
structure Aft (w : World) where
  world : World
  below : Below w.heap.size w world
instance (w : World) : Nonempty (Aft w) := ⟨⟨w, Below.refl _ _⟩⟩
theorem Aft.cell {w : World} {a : Addr} {v : Value} (h : w.cell? a = some v) (p : Aft w) : p.world.cell? a = some v :=
  (p.below.cell (World.block_lt_of_cell? w a h)).trans h
structure P2 where
  a : Int
  b : Int
  deriving DecidableEq, Inhabited
instance : Flat P2 := ⟨2, fun e => [.int .i64 e.a, .int .i64 e.b], fun _ => rfl, fun e => I64 e.a ∧ I64 e.b, ⟨0, 0⟩, fun _ _ h => by simp only [List.mem_cons, List.not_mem_nil, or_false] at h; rcases h with rfl | rfl <;> rfl⟩
structure IS where
  n : Int
  s : ByteArray
  deriving DecidableEq
instance : Flat IS := ⟨2, fun e => [.int .i64 e.n, .string e.s], fun _ => rfl, fun e => I64 e.n ∧ e.s.size ≤ maxLen, ⟨0, ByteArray.empty⟩, fun _ _ h => by simp only [List.mem_cons, List.not_mem_nil, or_false] at h; rcases h with rfl | rfl <;> rfl⟩
theorem ba_inj {a b : ByteArray} : a.toList = b.toList ↔ a = b := by
  rw [ByteArray.toList_eq, ByteArray.toList_eq]
  obtain ⟨⟨x⟩⟩ := a
  obtain ⟨⟨y⟩⟩ := b
  simp
theorem RepL.row {α : Type} [Rep α] {w : World} {S : Nat → Prop} {l : List (List α)} {A : Option Addr} {n c i : Nat} (h : RepL w S l A n c) (hi : i < l.length) :
    ∃ b off A' c', A = some ⟨b, off, none⟩ ∧ S b ∧ w.cell? ⟨b, off + i, none⟩ = some (.slice A' l[i].length c') ∧ RepL w S l[i] A' l[i].length c' := by
  obtain ⟨b, off, xs, hA, hS, hc, hr⟩ := h.at_ hi
  have hr' := hr
  obtain ⟨A', c', rfl, _⟩ := hr
  have h1 := hc 0 _ rfl
  have h2 : Rep.size (List α) = 1 := rfl
  rw [h2] at h1
  exact ⟨b, off, A', c', hA, hS, by simpa using h1, rfl, hr'⟩
theorem RepL.new {α : Type} [Rep α] {w w' : World} {l : List α} {A : Option Addr} {n c : Nat} (h : RepL w' (fun b => w.heap.size ≤ b ∧ b < w'.heap.size) l A n c) : RepL w' (· < w'.heap.size) l A n c :=
  h.more (fun _ hx => hx.2)
theorem run_make_rowN {P : Program} (t e : TypeId) (i : TypeInfo) (z : Value) (ht : P.underlying t = some (.slice e)) (hi : P.info? e = some i) (hz : i.zero = some z)
    (kl kc : IntKind) (n c : Nat) (hnc : n ≤ c) (hbytes : i.bytes * c ≤ 281474976710656) (h63 : c ≤ 9223372036854775807) (w : World) :
    (Instr.makeSlice t (.int kl (n : Int)) (.int kc (c : Int))).run P w = .ok (.slice (some ⟨w.heap.size, 0, none⟩) n c) (w.alloc (.cells (madeCells z.cells (c * i.size)) e)) := by
  have hb : (i.bytes : Int) * (c : Int) ≤ 281474976710656 := by
    have h : ((i.bytes * c : Nat) : Int) ≤ 281474976710656 := by omega
    rwa [Int.natCast_mul] at h
  have hr := run_make (P := P) w t e i z ht hi hz kl kc n c (by omega) (by omega) hb (by omega)
  simp only [Int.toNat_natCast] at hr
  exact hr
section
variable {α : Type} [Flat α]
def encs (l : List α) : List Value := l.flatMap Flat.enc
def setAll (xs : List Value) (i : Nat) : List Value → List Value
  | [] => xs
  | c :: cs => setAll (xs.set i c) (i + 1) cs
def fill (l : List α) (k : Nat) : List Value := encs (l.take k ++ List.replicate (l.length - k) Flat.zero)
theorem encs_len (l : List α) : (encs l).length = l.length * Flat.size α := by
  induction l with
  | nil => simp [encs]
  | cons a l ih => simp only [encs, List.flatMap_cons, List.length_append, Flat.len, List.length_cons, Nat.succ_mul] at ih ⊢; omega
theorem encs_get (l : List α) {i j : Nat} (hi : i < l.length) (hj : j < Flat.size α) : (encs l)[i * Flat.size α + j]? = (Flat.enc l[i])[j]? := by
  induction l generalizing i with
  | nil => simp at hi
  | cons a l ih =>
    cases i with
    | zero => simp only [encs, List.flatMap_cons, Nat.zero_mul, Nat.zero_add, List.getElem_cons_zero]; rw [List.getElem?_append_left (by rw [Flat.len]; exact hj)]
    | succ i =>
      simp only [List.length_cons, Nat.add_lt_add_iff_right] at hi
      have := ih hi
      simp only [encs, List.flatMap_cons, List.getElem_cons_succ] at this ⊢
      rw [List.getElem?_append_right (by rw [Flat.len, Nat.succ_mul]; omega), Flat.len, ← this]
      congr 1
      rw [Nat.succ_mul]; omega
theorem RepL.ok {w : World} {S : Nat → Prop} {l : List α} {A : Option Addr} {n c : Nat} (h : RepL w S l A n c) : ∀ a ∈ l, Flat.ok a := by
  intro a ha
  obtain ⟨i, hi, rfl⟩ := List.mem_iff_getElem.1 ha
  obtain ⟨_, _, _, _, _, _, hr⟩ := h.at_ hi
  exact hr.2
theorem RepL.cells {w : World} {S : Nat → Prop} {l : List α} {ad : Addr} {n c : Nat} (h : RepL w S l (some ad) n c) : ∀ j u, (encs l)[j]? = some u → w.cell? (ad.add j) = some u := by
  intro j u hu
  have hj : j < l.length * Flat.size α := by rw [← encs_len]; exact (List.getElem?_eq_some_iff.1 hu).1
  have hsp : 0 < Flat.size α := by rcases Nat.eq_zero_or_pos (Flat.size α) with h | h; (· rw [h] at hj; simp at hj); exact h
  have hq : j / Flat.size α < l.length := (Nat.div_lt_iff_lt_mul hsp).2 hj
  have hr : j % Flat.size α < Flat.size α := Nat.mod_lt _ hsp
  have e : j = j / Flat.size α * Flat.size α + j % Flat.size α := (Nat.div_add_mod' j _).symm
  obtain ⟨b, off, xs, hA, _, hc, rfl, _⟩ := h.at_ hq
  obtain rfl := Option.some.inj hA
  rw [e, encs_get l hq hr] at hu
  rw [Addr.add_lit, e]
  exact hc _ _ hu
end
end Go.Proofs.Ytonfeiloekofdaa

namespace Go.Proofs.Ytonfeiloekofdaa
open Go.ChangeShapes Go.WideShapes Go.ChangeAt Go.RowKit Go.BigFrame Go.Deep
set_option linter.unusedVariables false
def Pre (_ : Nat) (_ : World) : Prop := True
theorem Pre.below {B : Nat} {w w' : World} (_ : Pre B w) (_ : Below B w w') : Pre B w' := trivial
theorem Pre.mono {B B' : Nat} {w : World} (_ : Pre B w) (_ : B ≤ B') : Pre B' w := trivial
end Go.Proofs.Ytonfeiloekofdaa

namespace Go.Proofs.Ytonfeiloekofdaa
open Go.ChangeShapes Go.WideShapes Go.ChangeAt Go.RowKit Go.BigFrame Go.Deep
set_option linter.unusedVariables false
inductive AV where
  | int (k : IntKind) (n : Int)
  | bool (b : Bool)
  | str (s : ByteArray)
  | con (v : Value)
  | lst (sz n : Nat) (f : Nat → Nat → AV)
  | ref (sz : Nat) (f : Nat → AV)
  | ptr (id sz i j : Nat)
  | own (id sz n : Nat)
  | fn (g : FuncId) (m : Nat) (caps : Nat → AV)
  | frs (x : AV)
  | tre (id i : Nat)
  | tl (id sz q n : Nat)
  | cv (c : Value) (x : AV)
def D (w : World) (S : Nat → Prop) : AV → Value → Prop
  | .int k n, v => v = .int k n
  | .bool b, v => v = .bool b
  | .str s, v => v = .string s ∧ s.size ≤ maxLen
  | .con c, v => v = c
  | .lst sz n f, v => ∃ A c, v = .slice A n c ∧ n ≤ c ∧ c ≤ maxLen ∧ (A = none → c = 0) ∧ ∀ i, i < n → ∃ b off, A = some ⟨b, off, none⟩ ∧ S b ∧ ∀ j, j < sz → ∃ u, w.cell? ⟨b, off + (i * sz + j), none⟩ = some u ∧ D w S (f i j) u
  | .ref sz f, v => ∃ b off, v = .pointer (some ⟨b, off, none⟩) ∧ S b ∧ ∀ j, j < sz → ∃ u, w.cell? ⟨b, off + j, none⟩ = some u ∧ D w S (f j) u
  | .ptr _ _ _ _, _ => False
  | .own _ _ _, _ => False
  | .fn g m caps, v => ∃ vs : Array Value, v = .func (.func g) #[] vs ∧ vs.size = m ∧ ∀ j, j < m → ∃ u, vs[j]? = some u ∧ D w S (caps j) u
  | .frs _, _ => False
  | .tre _ _, _ => False
  | .tl _ _ _ _, _ => False
  | .cv _ _, _ => False
def Tr (w : World) : AV → Value → (Nat → Prop) → Prop
  | .int k n, v, _ => v = .int k n
  | .bool b, v, _ => v = .bool b
  | .str s, v, _ => v = .string s ∧ s.size ≤ maxLen
  | .con c, v, _ => v = c
  | .lst sz n f, v, B => ∃ A c, v = .slice A n c ∧ n ≤ c ∧ c ≤ maxLen ∧ ((c = 0 ∧ (A = none ∨ ∃ b, A = some ⟨b, 0, none⟩)) ∨ ∃ b cs e, A = some ⟨b, 0, none⟩ ∧ B b ∧ w.heap[b]? = some (.cells cs e (0, 0)) ∧ cs.size = c * sz ∧
      ∃ F : Nat → Nat → Nat → Prop, (∀ i j, i < n → j < sz → (∀ q, F i j q → B q ∧ q ≠ b) ∧ ∃ u, cs[i * sz + j]? = some u ∧ Tr w (f i j) u (F i j)) ∧
        ∀ i j i' j', i < n → j < sz → i' < n → j' < sz → ¬ (i = i' ∧ j = j') → ∀ q, F i j q → ¬ F i' j' q)
  | .ref _ _, _, _ => False
  | .ptr _ _ _ _, _, _ => False
  | .own _ _ _, _, _ => False
  | .fn _ _ _, _, _ => False
  | .frs _, _, _ => False
  | .tre _ _, _, _ => False
  | .tl _ _ _ _, _, _ => False
  | .cv _ _, _, _ => False
structure Rho where
  m : Nat → Nat × Nat
  base : Nat
  tv : Nat → Nat → Value
  tb : Nat → Nat → Nat → Prop
  tn : Nat → Nat
structure Rho.At (ρ ρ' : Rho) (id : Nat) : Prop where
  m : ρ'.m id = ρ.m id
  v : ρ'.tv id = ρ.tv id
  b : ρ'.tb id = ρ.tb id
  n : ρ'.tn id = ρ.tn id
theorem Rho.At.refl (ρ : Rho) (id : Nat) : Rho.At ρ ρ id := ⟨rfl, rfl, rfl, rfl⟩
theorem Rho.At.trans {ρ ρ' ρ'' : Rho} {id : Nat} (h : Rho.At ρ ρ' id) (k : Rho.At ρ' ρ'' id) : Rho.At ρ ρ'' id := ⟨k.m.trans h.m, k.v.trans h.v, k.b.trans h.b, k.n.trans h.n⟩
instance : CoeFun Rho (fun _ => Nat → Nat × Nat) := ⟨Rho.m⟩
structure Rn (ρ ρ' : Rho) (p : Nat → Prop) : Prop where
  base : ρ'.base = ρ.base
  eq : ∀ id, Rho.At ρ ρ' id ∨ p id
theorem Rn.refl (ρ : Rho) (p : Nat → Prop) : Rn ρ ρ p := ⟨rfl, fun _ => .inl (.refl _ _)⟩
theorem Rn.imp {ρ ρ' : Rho} {p q : Nat → Prop} (h : Rn ρ ρ' p) (hq : ∀ id, p id → q id) : Rn ρ ρ' q := ⟨h.base, fun id => (h.eq id).imp (fun e => e) (hq id)⟩
def freshS (ρ : Rho) (S : Nat → Prop) (b : Nat) : Prop := S b ∧ ρ.base ≤ b
def R (ρ : Rho) (w : World) (S : Nat → Prop) : AV → Value → Prop
  | .int k n, v => v = .int k n
  | .bool b, v => v = .bool b
  | .str s, v => v = .string s ∧ s.size ≤ maxLen
  | .con c, v => v = c
  | .lst sz n f, v => D w S (.lst sz n f) v
  | .ref sz f, v => D w S (.ref sz f) v
  | .ptr id sz i j, v => v = .pointer (some ⟨(ρ id).1, i * sz + j, none⟩)
  | .own id _ n, v => ∃ A, v = .slice A n (ρ id).2 ∧ n ≤ (ρ id).2 ∧ (ρ id).2 ≤ maxLen ∧ (A = some ⟨(ρ id).1, 0, none⟩ ∨ (A = none ∧ (ρ id).2 = 0))
  | .fn g m caps, v => ∃ vs : Array Value, v = .func (.func g) #[] vs ∧ vs.size = m ∧ ∀ j, j < m → ∃ u, vs[j]? = some u ∧ R ρ w S (caps j) u
  | .frs x, v => D w (freshS ρ S) x v
  | .tre id i, v => v = ρ.tv id i ∧ i < ρ.tn id ∧ ∃ A n c, v = .slice A n c
  | .tl id sz q n, v => ∃ A, v = .slice A (n - q) ((ρ id).2 - q) ∧ q ≤ n ∧ n ≤ (ρ id).2 ∧ (ρ id).2 ≤ maxLen ∧ (A = some ⟨(ρ id).1, q * sz, none⟩ ∨ (ρ id).2 = q)
  | .cv c x, v => v = c ∧ D w S x v
structure Same (S : Nat → Prop) (w : World) (S' : Nat → Prop) (w' : World) : Prop where
  sub : ∀ b, S b → S' b
  blk : ∀ b, S b → w'.heap[b]? = w.heap[b]?
theorem Same.cell {S S' : Nat → Prop} {w w' : World} (h : Same S w S' w') {b o : Nat} (hb : S b) : w'.cell? ⟨b, o, none⟩ = w.cell? ⟨b, o, none⟩ :=
  World.cell?_of_block (w := w) (h.blk b hb)
theorem D.keep {w w' : World} {S S' : Nat → Prop} (h : Same S w S' w') : ∀ {x : AV} {v : Value}, D w S x v → D w' S' x v
  | .int _ _, _, hd => hd
  | .bool _, _, hd => hd
  | .str _, _, hd => hd
  | .con _, _, hd => hd
  | .lst sz n f, v, hd => by
    unfold D at hd ⊢
    obtain ⟨A, c, e, h1, h2, h3, h4⟩ := hd
    refine ⟨A, c, e, h1, h2, h3, fun i hi => ?_⟩
    obtain ⟨b, off, hA, hS, hc⟩ := h4 i hi
    refine ⟨b, off, hA, h.sub b hS, fun j hj => ?_⟩
    obtain ⟨u, hu, hr⟩ := hc j hj
    exact ⟨u, (h.cell hS).trans hu, D.keep h hr⟩
  | .ref sz f, v, hd => by
    unfold D at hd ⊢
    obtain ⟨b, off, e, hS, hc⟩ := hd
    refine ⟨b, off, e, h.sub b hS, fun j hj => ?_⟩
    obtain ⟨u, hu, hr⟩ := hc j hj
    exact ⟨u, (h.cell hS).trans hu, D.keep h hr⟩
  | .ptr _ _ _ _, _, hd => hd
  | .own _ _ _, _, hd => hd
  | .fn g m caps, v, hd => by
    unfold D at hd ⊢
    obtain ⟨vs, e, hm, hc⟩ := hd
    refine ⟨vs, e, hm, fun j hj => ?_⟩
    obtain ⟨u, hu, hr⟩ := hc j hj
    exact ⟨u, hu, D.keep h hr⟩
  | .frs _, _, hd => hd
  | .tre _ _, _, hd => hd
  | .tl _ _ _ _, _, hd => hd
  | .cv _ _, _, hd => hd
theorem Tr.keep {w w' : World} : ∀ {x : AV} {v : Value} {B : Nat → Prop}, (∀ b, B b → w'.heap[b]? = w.heap[b]?) → Tr w x v B → Tr w' x v B
  | .int _ _, _, _, _, h => h
  | .bool _, _, _, _, h => h
  | .str _, _, _, _, h => h
  | .con _, _, _, _, h => h
  | .lst sz n f, v, B, hb, h => by
    unfold Tr at h ⊢
    obtain ⟨A, c, e, h1, h2, h3⟩ := h
    refine ⟨A, c, e, h1, h2, h3.imp (fun h => h) ?_⟩
    rintro ⟨b, cs, t, g1, g2, g3, g4, F, g5, g6⟩
    refine ⟨b, cs, t, g1, g2, by rw [hb b g2]; exact g3, g4, F, fun i j hi hj => ?_, g6⟩
    obtain ⟨k1, u, k2, k3⟩ := g5 i j hi hj
    exact ⟨k1, u, k2, Tr.keep (fun q hq => hb q (k1 q hq).1) k3⟩
  | .ref _ _, _, _, _, h => h
  | .ptr _ _ _ _, _, _, _, h => h
  | .own _ _ _, _, _, _, h => h
  | .fn _ _ _, _, _, _, h => h
  | .frs _, _, _, _, h => h
  | .tre _ _, _, _, _, h => h
  | .tl _ _ _ _, _, _, _, h => h
  | .cv _ _, _, _, _, h => h
theorem Tr.mono {w : World} {B B' : Nat → Prop} (hb : ∀ b, B b → B' b) : ∀ {x : AV} {v : Value}, Tr w x v B → Tr w x v B'
  | .int _ _, _, h => h
  | .bool _, _, h => h
  | .str _, _, h => h
  | .con _, _, h => h
  | .lst sz n f, v, h => by
    unfold Tr at h ⊢
    obtain ⟨A, c, e, h1, h2, h3⟩ := h
    refine ⟨A, c, e, h1, h2, h3.imp (fun h => h) ?_⟩
    rintro ⟨b, cs, t, g1, g2, g3, g4, F, g5, g6⟩
    exact ⟨b, cs, t, g1, hb b g2, g3, g4, F, fun i j hi hj => ⟨fun q hq => ⟨hb q ((g5 i j hi hj).1 q hq).1, ((g5 i j hi hj).1 q hq).2⟩, (g5 i j hi hj).2⟩, g6⟩
  | .ref _ _, _, h => h
  | .ptr _ _ _ _, _, h => h
  | .own _ _ _, _, h => h
  | .fn _ _ _, _, h => h
  | .frs _, _, h => h
  | .tre _ _, _, h => h
  | .tl _ _ _ _, _, h => h
  | .cv _ _, _, h => h
theorem Tr.d {w : World} {S : Nat → Prop} : ∀ {x : AV} {v : Value} {B : Nat → Prop}, (∀ b, B b → S b) → Tr w x v B → D w S x v
  | .int _ _, _, _, _, h => h
  | .bool _, _, _, _, h => h
  | .str _, _, _, _, h => h
  | .con _, _, _, _, h => h
  | .lst sz n f, v, B, hb, h => by
    unfold Tr at h
    unfold D
    obtain ⟨A, c, e, h1, h2, h3⟩ := h
    rcases h3 with ⟨h3, _⟩ | ⟨b, cs, t, g1, g2, g3, g4, F, g5, g6⟩
    · exact ⟨A, c, e, h1, h2, fun _ => h3, fun i hi => absurd hi (by omega)⟩
    · refine ⟨A, c, e, h1, h2, (fun e => by rw [g1] at e; cases e), fun i hi => ⟨b, 0, g1, hb b g2, fun j hj => ?_⟩⟩
      obtain ⟨k1, u, k2, k3⟩ := g5 i j hi hj
      exact ⟨u, by simp [World.cell?, g3, k2], Tr.d (fun q hq => hb q (k1 q hq).1) k3⟩
  | .ref _ _, _, _, _, h => h.elim
  | .ptr _ _ _ _, _, _, _, h => h.elim
  | .own _ _ _, _, _, _, h => h.elim
  | .fn _ _ _, _, _, _, h => h.elim
  | .frs _, _, _, _, h => h.elim
  | .tre _ _, _, _, _, h => h.elim
  | .tl _ _ _ _, _, _, _, h => h.elim
  | .cv _ _, _, _, _, h => h.elim
theorem Same.fresh {ρ ρ' : Rho} {S S' : Nat → Prop} {w w' : World} (h : Same S w S' w') (e : ρ'.base = ρ.base) : Same (freshS ρ S) w (freshS ρ' S') w' :=
  ⟨fun b hb => ⟨h.sub b hb.1, by rw [e]; exact hb.2⟩, fun b hb => h.blk b hb.1⟩
def AV.no (id : Nat) : AV → Bool
  | .ptr k _ _ _ => !(k == id)
  | .own k _ _ => !(k == id)
  | .fn _ m caps => (List.range m).all fun j => (caps j).no id
  | .tre k _ => !(k == id)
  | .tl k _ _ _ => !(k == id)
  | _ => true
theorem R.keep {ρ ρ' : Rho} {w w' : World} {S S' : Nat → Prop} (h : Same S w S' w') : ∀ {x : AV} {v : Value}, Rn ρ ρ' (fun id => x.no id = true) → R ρ w S x v → R ρ' w' S' x v
  | .int _ _, _, _, hd => hd
  | .bool _, _, _, hd => hd
  | .str _, _, _, hd => hd
  | .con _, _, _, hd => hd
  | .lst sz n f, v, _, hd => by unfold R at hd ⊢; exact hd.keep h
  | .ref sz f, v, _, hd => by unfold R at hd ⊢; exact hd.keep h
  | .ptr id _ _ _, _, hn, hd => by
    have e : ρ' id = ρ id := by
      rcases hn.eq id with e | e
      · exact e.m
      · simp [AV.no] at e
    unfold R at hd ⊢
    rw [e]; exact hd
  | .own id _ _, _, hn, hd => by
    have e : ρ' id = ρ id := by
      rcases hn.eq id with e | e
      · exact e.m
      · simp [AV.no] at e
    unfold R at hd ⊢
    rw [e]; exact hd
  | .fn g m caps, v, hn, hd => by
    unfold R at hd ⊢
    obtain ⟨vs, e, hm, hc⟩ := hd
    refine ⟨vs, e, hm, fun j hj => ?_⟩
    obtain ⟨u, hu, hr⟩ := hc j hj
    refine ⟨u, hu, R.keep h (hn.imp fun id e => ?_) hr⟩
    rw [AV.no, List.all_eq_true] at e
    exact e j (List.mem_range.2 hj)
  | .frs x, v, hn, hd => by
    unfold R at hd ⊢
    exact hd.keep (h.fresh hn.base)
  | .cv c x, v, _, hd => by unfold R at hd ⊢; exact ⟨hd.1, hd.2.keep h⟩
  | .tl id _ _ _, _, hn, hd => by
    have e : ρ' id = ρ id := by
      rcases hn.eq id with e | e
      · exact e.m
      · simp [AV.no] at e
    unfold R at hd ⊢
    rw [e]; exact hd
  | .tre id i, _, hn, hd => by
    have e : ρ'.tv id = ρ.tv id ∧ ρ'.tn id = ρ.tn id := by
      rcases hn.eq id with e | e
      · exact ⟨e.v, e.n⟩
      · simp [AV.no] at e
    unfold R at hd ⊢
    rw [e.1, e.2]; exact hd
theorem D.toR {ρ : Rho} {w : World} {S : Nat → Prop} : ∀ {x : AV} {v : Value}, D w S x v → R ρ w S x v
  | .int _ _, _, hd => hd
  | .bool _, _, hd => hd
  | .str _, _, hd => hd
  | .con _, _, hd => hd
  | .lst _ _ _, v, hd => by unfold R; exact hd
  | .ref _ _, v, hd => by unfold R; exact hd
  | .ptr _ _ _ _, _, hd => hd.elim
  | .own _ _ _, _, hd => hd.elim
  | .fn g m caps, v, hd => by
    unfold D at hd
    unfold R
    obtain ⟨vs, e, hm, hc⟩ := hd
    refine ⟨vs, e, hm, fun j hj => ?_⟩
    obtain ⟨u, hu, hr⟩ := hc j hj
    exact ⟨u, hu, D.toR hr⟩
  | .frs _, _, hd => hd.elim
  | .tre _ _, _, hd => hd.elim
  | .tl _ _ _ _, _, hd => hd.elim
  | .cv _ _, _, hd => hd.elim
inductive SV where
  | one (x : AV)
  | agg (l : List AV)
  | tup2 (x y : SV)
  | tup3 (x y z : SV)
  | tup4 (x y z u : SV)
  | gd (b : Bool) (s : SV)
def RL (ρ : Rho) (w : World) (S : Nat → Prop) : List AV → List Value → Prop
  | [], vs => vs = []
  | x :: l, vs => ∃ u us, vs = u :: us ∧ R ρ w S x u ∧ RL ρ w S l us
def RS (ρ : Rho) (w : World) (S : Nat → Prop) : SV → Value → Prop
  | .one x, v => R ρ w S x v
  | .agg l, v => ∃ us : Array Value, v = .agg us ∧ RL ρ w S l us.toList
  | .tup2 x y, v => ∃ a b, v = .tuple #[a, b] ∧ RS ρ w S x a ∧ RS ρ w S y b
  | .tup3 x y z, v => ∃ a b c, v = .tuple #[a, b, c] ∧ RS ρ w S x a ∧ RS ρ w S y b ∧ RS ρ w S z c
  | .tup4 x y z u, v => ∃ a b c d, v = .tuple #[a, b, c, d] ∧ RS ρ w S x a ∧ RS ρ w S y b ∧ RS ρ w S z c ∧ RS ρ w S u d
  | .gd b s, v => (b = true → RS ρ w S s v) ∧ (b = false → v = undef)
def SV.no (id : Nat) : SV → Bool
  | .one x => x.no id
  | .agg l => l.all (AV.no id)
  | .tup2 x y => x.no id && y.no id
  | .tup3 x y z => x.no id && y.no id && z.no id
  | .tup4 x y z u => x.no id && y.no id && z.no id && u.no id
  | .gd _ s => s.no id
theorem RL.keep {ρ ρ' : Rho} {w w' : World} {S S' : Nat → Prop} (h : Same S w S' w') : ∀ {l : List AV} {us : List Value}, Rn ρ ρ' (fun id => l.all (AV.no id) = true) → RL ρ w S l us → RL ρ' w' S' l us
  | [], _, _, hd => hd
  | x :: l, _, hn, hd => by
    obtain ⟨u, us, e, h1, h2⟩ := hd
    refine ⟨u, us, e, h1.keep h (hn.imp fun id e => ?_), RL.keep h (hn.imp fun id e => ?_) h2⟩
    · rw [List.all_cons, Bool.and_eq_true] at e; exact e.1
    · rw [List.all_cons, Bool.and_eq_true] at e; exact e.2
theorem RS.keep {ρ ρ' : Rho} {w w' : World} {S S' : Nat → Prop} (h : Same S w S' w') : ∀ {s : SV} {v : Value}, Rn ρ ρ' (fun id => s.no id = true) → RS ρ w S s v → RS ρ' w' S' s v
  | .one x, _, hn, hd => R.keep h hn hd
  | .agg l, _, hn, hd => by
    obtain ⟨us, e, h1⟩ := hd
    exact ⟨us, e, h1.keep h hn⟩
  | .tup2 x y, _, hn, hd => by
    obtain ⟨a, b, e, h1, h2⟩ := hd
    refine ⟨a, b, e, RS.keep h (hn.imp fun id e => ?_) h1, RS.keep h (hn.imp fun id e => ?_) h2⟩
    · rw [SV.no, Bool.and_eq_true] at e; exact e.1
    · rw [SV.no, Bool.and_eq_true] at e; exact e.2
  | .tup4 x y z u, _, hn, hd => by
    obtain ⟨a, b, c, d, e, h1, h2, h3, h4⟩ := hd
    refine ⟨a, b, c, d, e, RS.keep h (hn.imp fun id e => ?_) h1, RS.keep h (hn.imp fun id e => ?_) h2, RS.keep h (hn.imp fun id e => ?_) h3, RS.keep h (hn.imp fun id e => ?_) h4⟩
    · rw [SV.no, Bool.and_eq_true, Bool.and_eq_true, Bool.and_eq_true] at e; exact e.1.1.1
    · rw [SV.no, Bool.and_eq_true, Bool.and_eq_true, Bool.and_eq_true] at e; exact e.1.1.2
    · rw [SV.no, Bool.and_eq_true, Bool.and_eq_true, Bool.and_eq_true] at e; exact e.1.2
    · rw [SV.no, Bool.and_eq_true, Bool.and_eq_true, Bool.and_eq_true] at e; exact e.2
  | .tup3 x y z, _, hn, hd => by
    obtain ⟨a, b, c, e, h1, h2, h3⟩ := hd
    refine ⟨a, b, c, e, RS.keep h (hn.imp fun id e => ?_) h1, RS.keep h (hn.imp fun id e => ?_) h2, RS.keep h (hn.imp fun id e => ?_) h3⟩ <;>
      · rw [SV.no, Bool.and_eq_true, Bool.and_eq_true] at e
        first | exact e.1.1 | exact e.1.2 | exact e.2
  | .gd b s, _, hn, hd => ⟨fun hb => RS.keep h hn (hd.1 hb), hd.2⟩
theorem RL.len {ρ : Rho} {w : World} {S : Nat → Prop} : ∀ {l : List AV} {us : List Value}, RL ρ w S l us → us.length = l.length
  | [], us, hd => by rw [show us = [] from hd]; rfl
  | x :: l, _, hd => by
    obtain ⟨u, us, rfl, _, h2⟩ := hd
    simp [RL.len h2]
theorem RL.get {ρ : Rho} {w : World} {S : Nat → Prop} : ∀ {l : List AV} {us : List Value}, RL ρ w S l us → ∀ {j : Nat} {x : AV}, l[j]? = some x → ∃ u, us[j]? = some u ∧ R ρ w S x u
  | [], _, _, j, x, hx => by simp at hx
  | y :: l, _, hd, j, x, hx => by
    obtain ⟨u, us, rfl, h1, h2⟩ := hd
    cases j with
    | zero => simp at hx; subst hx; exact ⟨u, rfl, h1⟩
    | succ j => simp at hx ⊢; exact RL.get h2 hx
inductive AObj where
  | cells (l : List AV)
  | arr (sz n : Nat) (f : Nat → Nat → AV)
  | trees (n : Nat) (X : Nat → AV)
def AObj.sz : AObj → Nat
  | .cells l => l.length
  | .arr sz _ _ => sz
  | .trees _ _ => 0
def AObj.n : AObj → Nat
  | .cells _ => 1
  | .arr _ n _ => n
  | .trees _ _ => 0
def AObj.f : AObj → Nat → Nat → AV
  | .cells l, _, j => l.getD j (.con undef)
  | .arr _ _ f, i, j => f i j
  | .trees _ _, _, _ => .con undef
def AObj.isT : AObj → Bool
  | .trees _ _ => true
  | _ => false
def AObj.No (id : Nat) : AObj → Prop
  | .cells l => l.all (AV.no id) = true
  | .arr _ _ f => ∀ i j, (f i j).no id = true
  | .trees _ _ => True
theorem AObj.No.at_ {id : Nat} {o : AObj} (h : o.No id) (i j : Nat) : (o.f i j).no id = true := by
  cases o with
  | cells l =>
    unfold AObj.No at h
    show (l.getD j (AV.con undef)).no id = true
    rw [List.getD_eq_getElem?_getD]
    cases hl : l[j]? with
    | none => rfl
    | some x => exact List.all_eq_true.1 h x (List.mem_of_getElem? hl)
  | arr _ _ f => exact h i j
  | trees _ _ => rfl
abbrev Env := List (Nat × SV)
abbrev Heap := List (Nat × AObj)
structure Sig where
  env : Env
  heap : Heap
def Sig.put (σ : Sig) (d : Nat) (s : SV) : Sig := ⟨(d, s) :: σ.env, σ.heap⟩
def Sig.set (σ : Sig) (id : Nat) (o : AObj) : Sig := ⟨σ.env, (id, o) :: σ.heap⟩
structure MemOk (B : Nat) (ρ : Rho) (S : Nat → Prop) (H : Heap) (w : World) : Prop where
  base : ρ.base = B
  low : B ≤ w.heap.size
  lt : ∀ b, S b → b < w.heap.size
  cap : ∀ id o, H.lookup id = some o → o.n ≤ (ρ id).2
  obj : ∀ id o, H.lookup id = some o → (ρ id).2 ≠ 0 → ∃ cs e, w.heap[(ρ id).1]? = some (.cells cs e (0, 0)) ∧ cs.size = (ρ id).2 * o.sz ∧ o.n ≤ (ρ id).2 ∧ (ρ id).2 ≤ maxLen ∧ B ≤ (ρ id).1 ∧ ¬ S (ρ id).1 ∧
    ∀ i j, i < o.n → j < o.sz → ∃ u, cs[i * o.sz + j]? = some u ∧ R ρ w S (o.f i j) u
  inj : ∀ id id' o o', H.lookup id = some o → H.lookup id' = some o' → id ≠ id' → (ρ id).2 ≠ 0 → (ρ id').2 ≠ 0 → (ρ id).1 ≠ (ρ id').1
  tree0 : ∀ id n X, H.lookup id = some (.trees n X) → ρ.tn id = n ∧ ∀ i, i < n → Tr w (X i) (ρ.tv id i) (ρ.tb id i) ∧ ∀ b, ρ.tb id i b → B ≤ b ∧ b < w.heap.size ∧ ¬ S b ∧ (∀ id' o, H.lookup id' = some o → (ρ id').2 ≠ 0 → (ρ id').1 ≠ b) ∧
    ∀ id' n' X' i', H.lookup id' = some (.trees n' X') → i' < n' → ¬ (id' = id ∧ i' = i) → ¬ ρ.tb id' i' b
theorem MemOk.tree {B : Nat} {ρ : Rho} {S : Nat → Prop} {H : Heap} {w : World} (h : MemOk B ρ S H w) : ∀ id n X, H.lookup id = some (.trees n X) → ∀ i, i < n → Tr w (X i) (ρ.tv id i) (ρ.tb id i) ∧ ∀ b, ρ.tb id i b → B ≤ b ∧ b < w.heap.size ∧ ¬ S b ∧ (∀ id' o, H.lookup id' = some o → (ρ id').2 ≠ 0 → (ρ id').1 ≠ b) ∧
    ∀ id' n' X' i', H.lookup id' = some (.trees n' X') → i' < n' → ¬ (id' = id ∧ i' = i) → ¬ ρ.tb id' i' b := fun id n X hX => (h.tree0 id n X hX).2
theorem MemOk.treeOf {B B' : Nat} {ρ ρ' : Rho} {S S' : Nat → Prop} {H H' : Heap} {w w' : World} (h : MemOk B ρ S H w) (hB : B' ≤ B)
    (hH : ∀ id n X, H'.lookup id = some (.trees n X) → ∃ X', H.lookup id = some (.trees n X') ∧ (∀ i, i < n → X' i = X i) ∧ ρ'.tv id = ρ.tv id ∧ ρ'.tb id = ρ.tb id ∧ ρ'.tn id = ρ.tn id)
    (hw : ∀ id n X i b, H.lookup id = some (.trees n X) → i < n → ρ.tb id i b → w'.heap[b]? = w.heap[b]? ∧ b < w'.heap.size ∧ ¬ S' b)
    (ho : ∀ id o, H'.lookup id = some o → (ρ' id).2 ≠ 0 → (∃ o', H.lookup id = some o' ∧ ρ' id = ρ id) ∨ ∀ k n X i, H.lookup k = some (.trees n X) → i < n → ¬ ρ.tb k i (ρ' id).1) :
    ∀ id n X, H'.lookup id = some (.trees n X) → ρ'.tn id = n ∧ ∀ i, i < n → Tr w' (X i) (ρ'.tv id i) (ρ'.tb id i) ∧ ∀ b, ρ'.tb id i b → B' ≤ b ∧ b < w'.heap.size ∧ ¬ S' b ∧ (∀ id' o, H'.lookup id' = some o → (ρ' id').2 ≠ 0 → (ρ' id').1 ≠ b) ∧
      ∀ id' n' X' i', H'.lookup id' = some (.trees n' X') → i' < n' → ¬ (id' = id ∧ i' = i) → ¬ ρ'.tb id' i' b := by
  intro id n X hX
  obtain ⟨X', h1, h3, h4, h5, h6⟩ := hH id n X hX
  refine ⟨h6.trans (h.tree0 id n X' h1).1, fun i hi => ?_⟩
  have hi' : i < n := hi
  obtain ⟨k1, k2⟩ := h.tree id n X' h1 i hi'
  rw [h3 i hi] at k1
  rw [h4, h5]
  refine ⟨k1.keep fun b hb => (hw id n X' i b h1 hi' hb).1, fun b hb => ?_⟩
  obtain ⟨q1, q2, q3, q4, q5⟩ := k2 b hb
  obtain ⟨_, p2, p3⟩ := hw id n X' i b h1 hi' hb
  refine ⟨by omega, p2, p3, fun id' o ho' hc => ?_, fun id' m Y i' hY hi2 hne => ?_⟩
  · rcases ho id' o ho' hc with ⟨o', g1, g2⟩ | g
    · rw [g2] at hc ⊢
      exact q4 id' o' g1 hc
    · exact fun e => g id n X' i h1 hi' (by rw [e]; exact hb)
  · obtain ⟨Y', j1, j3, j4, j5, j6⟩ := hH id' m Y hY
    rw [j5]
    exact q5 id' m Y' i' j1 hi2 hne
structure Start where
  base : Nat
  w : World
  S : Nat → Prop
  v : World
  ρ : Rho
  pre : Pre base w
structure Rd (S : Nat → Prop) (w : World) : Prop where
  lt : ∀ b, S b → b < w.heap.size
  pre : Pre w.heap.size w
instance {S : Nat → Prop} {w : World} : CoeFun (Rd S w) (fun _ => ∀ b, S b → b < w.heap.size) := ⟨Rd.lt⟩
theorem Same.refl (S : Nat → Prop) (w : World) : Same S w S w := ⟨fun _ h => h, fun _ _ => rfl⟩
theorem Same.trans {S1 S2 S3 : Nat → Prop} {w1 w2 w3 : World} (h : Same S1 w1 S2 w2) (k : Same S2 w2 S3 w3) : Same S1 w1 S3 w3 := ⟨fun b hb => k.sub b (h.sub b hb), fun b hb => (k.blk b (h.sub b hb)).trans (h.blk b hb)⟩
structure Kept (b : Start) (ρ : Rho) (S : Nat → Prop) (w : World) : Prop where
  old : Below b.base b.w w
  same : Same b.S b.v S w
  ids : ∀ id, 1000000 ≤ id → Rho.At b.ρ ρ id
theorem Kept.step {b : Start} {ρ : Rho} {S S' : Nat → Prop} {w w' : World} (h : Kept b ρ S w) (ho : Below b.base w w') (hs : Same S w S' w') : Kept b ρ S' w' := ⟨h.old.trans ho, h.same.trans hs, h.ids⟩
structure St (N : Nat) (w0 : Start) (ρ : Rho) (S : Nat → Prop) (σ : Sig) (a : Act) (w : World) : Prop where
  size : a.tmps.size = N
  defers : a.defers = []
  below : Kept w0 ρ S w
  mem : MemOk w0.base ρ S σ.heap w
  env : ∀ t s, σ.env.lookup t = some s → RS ρ w S s (a.tmps.getD t undef)
theorem St.pre {N : Nat} {w0 : Start} {ρ : Rho} {S : Nat → Prop} {σ : Sig} {a : Act} {w : World} (h : St N w0 ρ S σ a w) : Pre w.heap.size w := (w0.pre.below h.below.old).mono h.mem.low
theorem St.preB {N : Nat} {w0 : Start} {ρ : Rho} {S : Nat → Prop} {σ : Sig} {a : Act} {w : World} (h : St N w0 ρ S σ a w) : Pre w0.base w := w0.pre.below h.below.old
theorem same_below {S : Nat → Prop} {w w' : World} (hS : ∀ b, S b → b < w.heap.size) (hb : Below w.heap.size w w') : Same S w S w' := ⟨fun _ h => h, fun b h => hb.block b (hS b h)⟩
theorem MemOk.same {B : Nat} {ρ : Rho} {S : Nat → Prop} {H : Heap} {w w' : World} (h : MemOk B ρ S H w) (hb : Below w.heap.size w w') : Same S w S w' := same_below h.lt hb
theorem MemOk.pos {B : Nat} {ρ : Rho} {S : Nat → Prop} {H : Heap} {w : World} (h : MemOk B ρ S H w) {id : Nat} {o : AObj} (ho : H.lookup id = some o) {i : Nat} (hi : i < o.n) : (ρ id).2 ≠ 0 := by
  have := h.cap id o ho; omega
theorem MemOk.blk {B : Nat} {ρ : Rho} {S : Nat → Prop} {H : Heap} {w : World} (h : MemOk B ρ S H w) {id : Nat} {o : AObj} (ho : H.lookup id = some o) (hc : (ρ id).2 ≠ 0) : (ρ id).1 < w.heap.size := by
  obtain ⟨cs, e, h1, _⟩ := h.obj id o ho hc
  exact (Array.getElem?_eq_some_iff.1 h1).1
theorem MemOk.below {B : Nat} {ρ : Rho} {S : Nat → Prop} {H : Heap} {w w' : World} (h : MemOk B ρ S H w) (hb : Below w.heap.size w w') : MemOk B ρ S H w' where
  base := h.base
  low := Nat.le_trans h.low hb.size
  lt b hS := Nat.lt_of_lt_of_le (h.lt b hS) hb.size
  cap := h.cap
  obj id o ho hc := by
    have hlt := h.blk ho hc
    obtain ⟨cs, e, h1, h2, h3, h4, h5, h6, h7⟩ := h.obj id o ho hc
    refine ⟨cs, e, by rw [hb.block _ hlt]; exact h1, h2, h3, h4, h5, h6, fun i j hi hj => ?_⟩
    obtain ⟨u, hu, hr⟩ := h7 i j hi hj
    exact ⟨u, hu, hr.keep (h.same hb) (Rn.refl _ _)⟩
  inj := h.inj
  tree0 := h.treeOf (Nat.le_refl _) (fun id n X hX => ⟨X, hX, fun _ _ => rfl, rfl, rfl, rfl⟩) (fun id n X i b hX hi hb' => by
    obtain ⟨q1, q2, q3, _⟩ := (h.tree id n X hX i hi).2 b hb'
    exact ⟨hb.block b q2, Nat.lt_of_lt_of_le q2 hb.size, q3⟩) (fun id o ho _ => .inl ⟨o, ho, rfl⟩)
theorem St.world {N : Nat} {w0 : Start} {ρ : Rho} {S : Nat → Prop} {σ : Sig} {a : Act} {w w' : World} (h : St N w0 ρ S σ a w) (hb : Below w.heap.size w w') : St N w0 ρ S σ a w' where
  size := h.size
  defers := h.defers
  below := h.below.step (hb.mono h.mem.low) (h.mem.same hb)
  mem := h.mem.below hb
  env t s hs := (h.env t s hs).keep (h.mem.same hb) (Rn.refl _ _)
theorem getD_put {a : Act} {d t : Nat} {v : Value} (hd : d < a.tmps.size) : (a.put (some d) v).tmps.getD t undef = if t = d then v else a.tmps.getD t undef := by
  simp only [Act.put, Array.getD_eq_getD_getElem?, Array.getElem?_setIfInBounds]
  by_cases h : t = d
  · subst h; simp [hd]
  · rw [if_neg h, if_neg (fun e => h e.symm)]
theorem St.put {N : Nat} {w0 : Start} {ρ : Rho} {S : Nat → Prop} {σ : Sig} {a : Act} {w : World} (h : St N w0 ρ S σ a w) {d : Nat} (hd : d < N) {s : SV} {v : Value} (hv : RS ρ w S s v) : St N w0 ρ S (σ.put d s) (a.put (some d) v) w where
  size := by simp only [Act.put, Array.size_setIfInBounds]; exact h.size
  defers := h.defers
  below := h.below
  mem := h.mem
  env t s' hs := by
    rw [getD_put (by rw [h.size]; exact hd)]
    simp only [Sig.put, List.lookup_cons] at hs
    by_cases e : t = d
    · subst e
      simp at hs
      subst hs
      rw [if_pos rfl]; exact hv
    · have : (t == d) = false := by simpa using e
      rw [this] at hs
      rw [if_neg e]; exact h.env t s' hs
end Go.Proofs.Ytonfeiloekofdaa

namespace Go.Proofs.Ytonfeiloekofdaa
open Go.ChangeShapes Go.WideShapes Go.ChangeAt Go.RowKit Go.BigFrame Go.Deep
set_option linter.unusedVariables false
set_option linter.unusedSimpArgs false
inductive Kn (σ : Sig) : Operand → SV → Prop
  | tmp {t : Nat} {s : SV} : σ.env.lookup t = some s → Kn σ (.tmp t) s
  | gtmp {t : Nat} {b : Bool} {s : SV} : σ.env.lookup t = some (.gd b s) → b = true → Kn σ (.tmp t) s
  | int {k : IntKind} {n : Int} : Kn σ (.const (.int k n)) (.one (.int k n))
  | bool {b : Bool} : Kn σ (.const (.bool b)) (.one (.bool b))
  | str {x : ByteArray} : x.size ≤ maxLen → Kn σ (.const (.string x)) (.one (.str x))
  | con {v : Value} : Kn σ (.const v) (.one (.con v))
  | func {f : FuncId} : Kn σ (.func f) (.one (.fn f 0 fun _ => .con undef))
  | nil (sz : Nat) (f : Nat → Nat → AV) : Kn σ (.const (.slice none 0 0)) (.one (.lst sz 0 f))
  | frs {x : Operand} {y : AV} : Kn σ x (.one (.frs y)) → Kn σ x (.one y)
  | cv {x : Operand} {c : Value} {y : AV} : Kn σ x (.one (.cv c y)) → Kn σ x (.one y)
  | unnil {x : Operand} (sz : Nat) (f : Nat → Nat → AV) : Kn σ x (.one (.con (.slice none 0 0))) → Kn σ x (.one (.lst sz 0 f))
section
variable {P : Program} {N : Nat} {w0 : Start} {ρ : Rho} {S : Nat → Prop} {σ : Sig} {a : Act} {w : World}
theorem R.unfrs {y : AV} {v : Value} (h : R ρ w S (.frs y) v) : R ρ w S y v := D.toR (D.keep (S := freshS ρ S) ⟨fun _ hb => hb.1, fun _ _ => rfl⟩ (by unfold R at h; exact h))
theorem Kn.sound {x : Operand} {s : SV} (h : Kn σ x s) (hs : St N w0 ρ S σ a w) : RS ρ w S s (a.eval x) := by
  induction h with
  | tmp h => exact hs.env _ _ h
  | gtmp h hb => exact (hs.env _ _ h).1 hb
  | int => rfl
  | bool => rfl
  | str h => exact ⟨rfl, h⟩
  | con => rfl
  | func => exact ⟨#[], rfl, rfl, fun j hj => absurd hj (by omega)⟩
  | nil sz f => exact ⟨none, 0, rfl, Nat.le_refl _, by decide, fun _ => rfl, fun i hi => absurd hi (by omega)⟩
  | frs _ ih => exact R.unfrs ih
  | cv _ ih => exact D.toR ih.2
  | unnil sz f _ ih =>
    have e : _ = Value.slice none 0 0 := ih
    exact ⟨none, 0, e, Nat.le_refl _, by decide, fun _ => rfl, fun i hi => absurd hi (by omega)⟩
def PureOp (P : Program) (o : Oper) (σ : Sig) (s : SV) : Prop :=
  ∀ (N : Nat) (w0 : Start) (ρ : Rho) (S : Nat → Prop) (a : Act) (w : World), St N w0 ρ S σ a w →
    ∃ v, RS ρ w S s v ∧ ∀ w', Below w.heap.size w w' → Oper.quietUpon P (fun w'' => Below w.heap.size w w'') w' v ((execOp a.eval o).run P w')
theorem PureOp.val {o : Oper} {s : SV}
    (h : ∀ (N : Nat) (w0 : Start) (ρ : Rho) (S : Nat → Prop) (a : Act) (w : World), St N w0 ρ S σ a w → ∃ v, RS ρ w S s v ∧ ∀ w', Below w.heap.size w w' → (execOp a.eval o).run P w' = .ok (.value v) w') : PureOp P o σ s := by
  intro N w0 ρ S a w hs
  obtain ⟨v, h1, h2⟩ := h N w0 ρ S a w hs
  refine ⟨v, h1, fun w' hb => ?_⟩
  rw [h2 w' hb]
  exact ⟨rfl, rfl⟩
theorem PureOp.move {o : Oper} {x : Operand} {s : SV} (ho : o.op = .move x) (h : Kn σ x s) : PureOp P o σ s := by
  refine PureOp.val fun N w0 ρ S a w hs => ⟨_, h.sound hs, fun w' _ => ?_⟩
  simp [execOp, ho, go_sem]
theorem PureOp.assign {o : Oper} {x : Operand} {s : SV} (ho : o.op = .assign x) (h : Kn σ x s) : PureOp P o σ s := by
  refine PureOp.val fun N w0 ρ S a w hs => ⟨_, h.sound hs, fun w' _ => ?_⟩
  simp [execOp, ho, go_sem]
theorem PureOp.pick {o : Oper} {c x y : Operand} {p u v : Bool} (ho : o.op = .pick c x y) (hc : Kn σ c (.one (.bool p))) (hx : p = true → Kn σ x (.one (.bool u))) (hy : p = false → Kn σ y (.one (.bool v))) :
    PureOp P o σ (.one (.bool (cond p u v))) := by
  refine PureOp.val fun N w0 ρ S a w hs => ?_
  have h1 : a.eval c = .bool p := hc.sound hs
  cases p with
  | true =>
    have h2 : a.eval x = .bool u := (hx rfl).sound hs
    exact ⟨.bool u, rfl, fun w' _ => by (generalize a.eval = ev at h1 h2 ⊢; simp [execOp, ho, go_sem, h1, h2, asBool])⟩
  | false =>
    have h2 : a.eval y = .bool v := (hy rfl).sound hs
    exact ⟨.bool v, rfl, fun w' _ => by (generalize a.eval = ev at h1 h2 ⊢; simp [execOp, ho, go_sem, h1, h2, asBool])⟩
theorem PureOp.nilRef {o : Oper} {x : Operand} {sz : Nat} {f : Nat → AV} (ho : o.op = .nilCheck x) (h : Kn σ x (.one (.ref sz f))) : PureOp P o σ (.one (.ref sz f)) := by
  refine PureOp.val fun N w0 ρ S a w hs => ⟨_, h.sound hs, fun w' _ => ?_⟩
  obtain ⟨b, off, e, _⟩ := h.sound hs
  generalize a.eval = ev at e ⊢
  simp [execOp, ho, go_sem, e]
theorem PureOp.nilPtr {o : Oper} {x : Operand} {id sz i j : Nat} (ho : o.op = .nilCheck x) (h : Kn σ x (.one (.ptr id sz i j))) : PureOp P o σ (.one (.ptr id sz i j)) := by
  refine PureOp.val fun N w0 ρ S a w hs => ⟨_, h.sound hs, fun w' _ => ?_⟩
  have e : a.eval x = _ := h.sound hs
  generalize a.eval = ev at e ⊢
  simp [execOp, ho, go_sem, e]
def fieldB (P : Program) (t fld off : Nat) : Bool :=
  match P.underlying t with
  | some (.struct fs) => match fs[fld]? with
    | some f => f.offset == off && (match P.info? f.type with | some i => i.size != 0 | none => false)
    | none => false
  | _ => false
def elemB (P : Program) (t sz : Nat) : Bool :=
  match P.underlying t with
  | some (.slice e) => (match P.info? e with | some i => i.size == sz | none => false)
  | _ => false
def plainB (P : Program) (t : Nat) : Bool :=
  match P.underlying t with
  | some (.struct _) => false
  | some (.array _ _) => false
  | some _ => true
  | none => false
def aggB (P : Program) (t n : Nat) : Bool :=
  match P.underlying t with
  | some (.struct _) => (match P.info? t with | some i => i.size == n | none => false)
  | _ => false
theorem fieldB_spec {t fld off : Nat} (h : fieldB P t fld off = true) : ∃ fs f i, P.underlying t = some (.struct fs) ∧ fs[fld]? = some f ∧ f.offset = off ∧ P.info? f.type = some i ∧ i.size ≠ 0 := by
  unfold fieldB at h
  split at h
  · rename_i fs hu
    split at h
    · rename_i f hf
      rw [Bool.and_eq_true] at h
      obtain ⟨h1, h2⟩ := h
      split at h2
      · rename_i i hi
        exact ⟨fs, f, i, hu, hf, by simpa using h1, hi, by simpa using h2⟩
      · cases h2
    · cases h
  · cases h
theorem elemB_spec {t sz : Nat} (h : elemB P t sz = true) : ∃ e i, P.underlying t = some (.slice e) ∧ P.info? e = some i ∧ i.size = sz := by
  unfold elemB at h
  split at h
  · rename_i e hu
    split at h
    · rename_i i hi
      exact ⟨e, i, hu, hi, by simpa using h⟩
    · cases h
  · cases h
theorem plainB_run {t : Nat} (h : plainB P t = true) (w : World) : (isAgg t).run P w = .ok false w := by
  unfold plainB at h
  split at h
  · cases h
  · cases h
  · rename_i d h1 h2 hu
    simp only [isAgg, Sem.run_bind, run_underlying hu, Result.andThen_ok]
    cases d <;> first | rfl | (exact absurd rfl (h1 _)) | (exact absurd rfl (h2 _ _))
  · cases h
theorem aggB_spec {t n : Nat} (h : aggB P t n = true) : ∃ fs i, P.underlying t = some (.struct fs) ∧ P.info? t = some i ∧ i.size = n := by
  unfold aggB at h
  split at h
  · rename_i fs hu
    split at h
    · rename_i i hi
      exact ⟨fs, i, hu, hi, by simpa using h⟩
    · cases h
  · cases h
end
section
variable {P : Program} {σ : Sig}
theorem run_sizeOf' {t : TypeId} {i : TypeInfo} (h : P.info? t = some i) (w : World) : (sizeOf t).run P w = .ok i.size w := by
  simp only [sizeOf, typeInfo, Sem.run_bind]
  simp [Sem.run, h, Result.andThen, go_sem]
theorem fieldAt_run {t fld off : Nat} (h : fieldB P t fld off = true) (ad : Addr) (w : World) : (Instr.fieldAt t (.pointer (some ad)) fld).run P w = .ok (.pointer (some (ad.add off))) w := by
  obtain ⟨fs, f, i, hu, hf, rfl, hi, hz⟩ := fieldB_spec h
  simp only [Instr.fieldAt, Sem.run_bind, run_underlying hu, Result.andThen_ok, hf, Instr.sureAddr, fieldPlace]
  simp [run_sizeOf' hi, hz, go_sem, Result.andThen]
theorem indexAt_run {t sz : Nat} (h : elemB P t sz = true) {k : IntKind} (ad : Addr) {n c i : Nat} (hi : i < n) (w : World) : (Instr.indexAt t (.slice (some ad) n c) (.int k (i : Int))).run P w = .ok (.pointer (some (ad.add (i * sz)))) w := by
  obtain ⟨e, inf, hu, hf, rfl⟩ := elemB_spec h
  have h1 : (0 : Int) ≤ i ∧ (i : Int) < n := ⟨by omega, by omega⟩
  simp only [Instr.indexAt, Sem.run_bind, run_underlying hu, Result.andThen_ok, asIntOf]
  simp [run_sizeOf' hf, h1, go_sem, Result.andThen]
theorem loadAt_one {t : Nat} (h : plainB P t = true) {ad : Addr} {u : Value} {w : World} (hc : w.cell? ad = some u) : (Instr.loadAt t (.pointer (some ad))).run P w = .ok u w := by
  simp only [Instr.loadAt, Instr.sureAddr, loadVar, Sem.run_bind, plainB_run h]
  simp [go_sem, Result.andThen, hc, load, Sem.run]
theorem PureOp.fieldRef {o : Oper} {t : Nat} {x : Operand} {fld off sz : Nat} {f : Nat → AV} (ho : o.op = .fieldAddr t x fld) (h : Kn σ x (.one (.ref sz f))) (hF : fieldB P t fld off = true) (hlt : off < sz) :
    PureOp P o σ (.one (.ref (sz - off) fun j => f (off + j))) := by
  refine PureOp.val fun N w0 ρ S a w hs => ?_
  obtain ⟨b, o', e, hS, hc⟩ := h.sound hs
  refine ⟨.pointer (some ⟨b, o' + off, none⟩), ⟨b, o' + off, rfl, hS, fun j hj => ?_⟩, fun w' _ => ?_⟩
  · obtain ⟨u, hu, hr⟩ := hc (off + j) (by omega)
    exact ⟨u, by rw [Nat.add_assoc]; exact hu, hr⟩
  · generalize a.eval = ev at e ⊢
    simp only [execOp, ho, e, Sem.run_bind, fieldAt_run hF]
    simp [go_sem, Result.andThen, Addr.add]
theorem PureOp.fieldPtr {o : Oper} {t : Nat} {x : Operand} {fld off id sz i j : Nat} (ho : o.op = .fieldAddr t x fld) (h : Kn σ x (.one (.ptr id sz i j))) (hF : fieldB P t fld off = true) :
    PureOp P o σ (.one (.ptr id sz i (j + off))) := by
  refine PureOp.val fun N w0 ρ S a w hs => ?_
  have e : a.eval x = _ := h.sound hs
  refine ⟨.pointer (some ⟨(ρ id).1, i * sz + (j + off), none⟩), rfl, fun w' _ => ?_⟩
  generalize a.eval = ev at e ⊢
  simp only [execOp, ho, e, Sem.run_bind, fieldAt_run hF]
  simp [go_sem, Result.andThen, Addr.add, Nat.add_assoc]
theorem PureOp.indexLst {o : Oper} {t : Nat} {x y : Operand} {k : IntKind} {sz n i : Nat} {m : Int} {f : Nat → Nat → AV} (ho : o.op = .indexAddr t x y) (h : Kn σ x (.one (.lst sz n f))) (hE : elemB P t sz = true) (hy : Kn σ y (.one (.int k m)))
    (hm : m = (i : Int)) (hlt : i < n) : PureOp P o σ (.one (.ref sz (f i))) := by
  refine PureOp.val fun N w0 ρ S a w hs => ?_
  obtain ⟨A, c, e, h1, h2, h3, h4⟩ := h.sound hs
  have e2 : a.eval y = _ := hy.sound hs
  obtain ⟨b, off, rfl, hS, hc⟩ := h4 i hlt
  refine ⟨.pointer (some ⟨b, off + i * sz, none⟩), ⟨b, off + i * sz, rfl, hS, fun j hj => ?_⟩, fun w' _ => ?_⟩
  · obtain ⟨u, hu, hr⟩ := hc j hj
    exact ⟨u, by rw [Nat.add_assoc]; exact hu, hr⟩
  · subst hm
    generalize a.eval = ev at e e2 ⊢
    simp only [execOp, ho, e, e2, Sem.run_bind, indexAt_run hE _ hlt]
    simp [go_sem, Result.andThen, Addr.add]
theorem PureOp.indexOwn {o : Oper} {t : Nat} {x y : Operand} {k : IntKind} {id sz n i : Nat} {m : Int} (ho : o.op = .indexAddr t x y) (h : Kn σ x (.one (.own id sz n))) (hE : elemB P t sz = true) (hy : Kn σ y (.one (.int k m)))
    (hm : m = (i : Int)) (hlt : i < n) : PureOp P o σ (.one (.ptr id sz i 0)) := by
  refine PureOp.val fun N w0 ρ S a w hs => ?_
  obtain ⟨A, e, hn1, _, hA⟩ := h.sound hs
  obtain rfl : A = some ⟨(ρ id).1, 0, none⟩ := by rcases hA with hA | ⟨_, hA⟩; (· exact hA); (· omega)
  have e2 : a.eval y = _ := hy.sound hs
  refine ⟨.pointer (some ⟨(ρ id).1, i * sz + 0, none⟩), rfl, fun w' _ => ?_⟩
  subst hm
  generalize a.eval = ev at e e2 ⊢
  simp only [execOp, ho, e, e2, Sem.run_bind, indexAt_run hE _ hlt]
  simp [go_sem, Result.andThen, Addr.add]
  try omega
theorem PureOp.loadRef {o : Oper} {t : Nat} {x : Operand} {sz : Nat} {f : Nat → AV} (ho : o.op = .load t x) (h : Kn σ x (.one (.ref sz f))) (hT : plainB P t = true) (hlt : 0 < sz) : PureOp P o σ (.one (f 0)) := by
  refine PureOp.val fun N w0 ρ S a w hs => ?_
  obtain ⟨b, o', e, hS, hc⟩ := h.sound hs
  obtain ⟨u, hu, hr⟩ := hc 0 hlt
  refine ⟨u, hr.toR, fun w' hb => ?_⟩
  have hu' := ((hs.mem.same hb).cell hS).trans hu
  simp only [Nat.add_zero] at hu'
  generalize a.eval = ev at e ⊢
  simp only [execOp, ho, e, Sem.run_bind, loadAt_one hT hu']
  simp [go_sem, Result.andThen]
theorem St.cell {N : Nat} {w0 : Start} {ρ : Rho} {S : Nat → Prop} {a : Act} {w : World} (hs : St N w0 ρ S σ a w) {id i j : Nat} {o : AObj} (ho : σ.heap.lookup id = some o) (hi : i < o.n) (hj : j < o.sz) :
    ∃ u, w.cell? ⟨(ρ id).1, i * o.sz + j, none⟩ = some u ∧ R ρ w S (o.f i j) u := by
  obtain ⟨cs, e, h1, h2, h3, h4, h5, h6, h7⟩ := hs.mem.obj id o ho (hs.mem.pos ho hi)
  obtain ⟨u, hu, hr⟩ := h7 i j hi hj
  refine ⟨u, ?_, hr⟩
  simp [World.cell?, h1, hu]
theorem PureOp.loadPtr {o : Oper} {t : Nat} {x : Operand} {id sz i j : Nat} {ob : AObj} (ho : o.op = .load t x) (h : Kn σ x (.one (.ptr id sz i j))) (hT : plainB P t = true) (hob : σ.heap.lookup id = some ob) (hsz : ob.sz = sz) (hi : i < ob.n) (hj : j < ob.sz) :
    PureOp P o σ (.one (ob.f i j)) := by
  refine PureOp.val fun N w0 ρ S a w hs => ?_
  have e : a.eval x = _ := h.sound hs
  obtain ⟨u, hu, hr⟩ := hs.cell hob hi hj
  refine ⟨u, hr, fun w' hb => ?_⟩
  have hu' : w'.cell? ⟨(ρ id).1, i * sz + j, none⟩ = some u := by rw [← hsz]; exact (hb.cell (hs.mem.blk hob (hs.mem.pos hob hi))).trans hu
  generalize a.eval = ev at e ⊢
  simp only [execOp, ho, e, Sem.run_bind, loadAt_one hT hu']
  simp [go_sem, Result.andThen]
theorem loadCellsFrom_run {ad : Addr} {w : World} : ∀ {us : List Value} {i : Nat} {acc : Array Value}, (∀ j u, us[j]? = some u → w.cell? (ad.add (i + j)) = some u) → (loadCellsFrom ad i us.length acc).run P w = .ok (acc ++ us.toArray) w
  | [], i, acc, _ => by simp [loadCellsFrom, go_sem]
  | u :: us, i, acc, h => by
    have h0 := h 0 u rfl
    have h1 := loadCellsFrom_run (us := us) (i := i + 1) (acc := acc.push u) fun j v hv => by
      have := h (j + 1) v (by simpa using hv)
      rw [show i + 1 + j = i + (j + 1) by omega]; exact this
    simp only [Nat.add_zero] at h0
    simp only [List.length_cons, loadCellsFrom, Sem.run_bind, load, Sem.run, h0, Result.andThen_ok, h1]
    simp
theorem loadAt_agg {t : Nat} {us : List Value} (h : aggB P t us.length = true) {ad : Addr} {w : World} (hc : ∀ j u, us[j]? = some u → w.cell? (ad.add j) = some u) : (Instr.loadAt t (.pointer (some ad))).run P w = .ok (.agg us.toArray) w := by
  obtain ⟨fs, i, hu, hi, hn⟩ := aggB_spec h
  have h1 := loadCellsFrom_run (P := P) (ad := ad) (us := us) (i := 0) (acc := #[]) (w := w) (by simpa using hc)
  simp only [Instr.loadAt, Instr.sureAddr, loadVar, isAgg, Sem.run_bind, run_underlying hu, Result.andThen_ok]
  simp [go_sem, Result.andThen, run_sizeOf' hi, hn, loadCells, h1]
theorem RL.of_fun {ρ : Rho} {w : World} {S : Nat → Prop} {g : Nat → AV} {c : Nat → Option Value} : ∀ (n i : Nat), (∀ j, j < n → ∃ u, c (i + j) = some u ∧ R ρ w S (g (i + j)) u) → ∃ us, RL ρ w S ((List.range' i n).map g) us ∧ us.length = n ∧ ∀ j u, us[j]? = some u → c (i + j) = some u
  | 0, i, _ => ⟨[], rfl, rfl, fun j u h => by simp at h⟩
  | n + 1, i, h => by
    obtain ⟨u, hu, hr⟩ := h 0 (by omega)
    obtain ⟨us, h1, h2, h3⟩ := RL.of_fun (g := g) (c := c) n (i + 1) fun j hj => by
      have := h (j + 1) (by omega)
      rw [show i + 1 + j = i + (j + 1) by omega]; exact this
    refine ⟨u :: us, ⟨u, us, rfl, hr, h1⟩, by simp [h2], fun j v hv => ?_⟩
    cases j with
    | zero => simp at hv; subst hv; exact hu
    | succ j =>
      have := h3 j v (by simpa using hv)
      rw [show i + (j + 1) = i + 1 + j by omega]; exact this
theorem PureOp.loadRefAgg {o : Oper} {t n : Nat} {x : Operand} {sz : Nat} {f : Nat → AV} (ho : o.op = .load t x) (h : Kn σ x (.one (.ref sz f))) (hT : aggB P t n = true) (hle : n ≤ sz) : PureOp P o σ (.agg ((List.range' 0 n).map f)) := by
  refine PureOp.val fun N w0 ρ S a w hs => ?_
  obtain ⟨b, o', e, hS, hc⟩ := h.sound hs
  obtain ⟨us, h1, h2, h3⟩ := RL.of_fun (ρ := ρ) (w := w) (S := S) (g := f) (c := fun j => w.cell? ⟨b, o' + j, none⟩) n 0 fun j hj => by
    obtain ⟨u, hu, hr⟩ := hc j (by omega)
    exact ⟨u, by simpa using hu, by simpa using hr.toR⟩
  refine ⟨.agg us.toArray, ⟨us.toArray, rfl, h1⟩, fun w' hb => ?_⟩
  subst h2
  have hl := loadAt_agg (P := P) (ad := ⟨b, o', none⟩) (w := w') hT fun j u hu => by
    have := h3 j u hu
    simp only [Nat.zero_add] at this
    rw [Addr.add_lit]
    exact ((hs.mem.same hb).cell hS).trans this
  generalize a.eval = ev at e ⊢
  simp only [execOp, ho, e, Sem.run_bind, hl]
  simp [go_sem, Result.andThen]
theorem PureOp.loadPtrAgg {o : Oper} {t n : Nat} {x : Operand} {id sz i q : Nat} {ob : AObj} (ho : o.op = .load t x) (h : Kn σ x (.one (.ptr id sz i q))) (hT : aggB P t n = true) (hob : σ.heap.lookup id = some ob) (hsz : ob.sz = sz) (hi : i < ob.n) (hle : q + n ≤ ob.sz) :
    PureOp P o σ (.agg ((List.range' q n).map (ob.f i))) := by
  refine PureOp.val fun N w0 ρ S a w hs => ?_
  have e : a.eval x = _ := h.sound hs
  obtain ⟨us, h1, h2, h3⟩ := RL.of_fun (ρ := ρ) (w := w) (S := S) (g := ob.f i) (c := fun j => w.cell? ⟨(ρ id).1, i * ob.sz + j, none⟩) n q fun j hj => by
    obtain ⟨u, hu, hr⟩ := hs.cell hob hi (j := q + j) (by omega)
    exact ⟨u, hu, hr⟩
  refine ⟨.agg us.toArray, ⟨us.toArray, rfl, h1⟩, fun w' hb => ?_⟩
  subst h2 hsz
  have hl := loadAt_agg (P := P) (ad := ⟨(ρ id).1, i * ob.sz + q, none⟩) (w := w') hT fun j u hu => by
    have := h3 j u hu
    rw [Addr.add_lit, Nat.add_assoc]
    exact (hb.cell (hs.mem.blk hob (hs.mem.pos hob hi))).trans this
  generalize a.eval = ev at e ⊢
  simp only [execOp, ho, e, Sem.run_bind, hl]
  simp [go_sem, Result.andThen]
end
end Go.Proofs.Ytonfeiloekofdaa

namespace Go.Proofs.Ytonfeiloekofdaa
open Go.ChangeShapes Go.WideShapes Go.ChangeAt Go.RowKit Go.BigFrame Go.Deep
set_option linter.unusedVariables false
set_option linter.unusedSimpArgs false
section
variable {P : Program} {σ : Sig}
def intRes (op : BinOp) (k : IntKind) (a b : Int) : Option AV :=
  match op with
  | .add => some (.int k (k.wrap (a + b)))
  | .sub => some (.int k (k.wrap (a - b)))
  | .mul => some (.int k (k.wrap (a * b)))
  | .eql => some (.bool (decide (a = b)))
  | .neq => some (.bool (!decide (a = b)))
  | .lss => some (.bool (decide (a < b)))
  | .leq => some (.bool (decide (a ≤ b)))
  | .gtr => some (.bool (decide (b < a)))
  | .geq => some (.bool (decide (b ≤ a)))
  | _ => none
theorem eqGuard_int {op : BinOp} {t : TypeId} {x y : Operand} {k k' : IntKind} {a b : Int} (w : World) : (eqGuard op t x y (.int k a) (.int k' b)).run P w = .ok () w := by
  unfold eqGuard
  cases op <;> simp [go_sem]
theorem PureOp.intOp {o : Oper} {op : BinOp} {t t' : TypeId} {x y : Operand} {k : IntKind} {a b : Int} {r : AV} (ho : o.op = .binOp op t x y t') (hx : Kn σ x (.one (.int k a))) (hy : Kn σ y (.one (.int k b))) (hr : intRes op k a b = some r) : PureOp P o σ (.one r) := by
  refine PureOp.val fun N w0 ρ S ac w hs => ?_
  have e1 : ac.eval x = .int k a := hx.sound hs
  have e2 : ac.eval y = .int k b := hy.sound hs
  cases op <;> simp only [intRes, reduceCtorEq, Option.some.injEq] at hr <;> subst hr <;>
    exact ⟨_, rfl, fun w' _ => by
      generalize ac.eval = ev at e1 e2 ⊢
      simp only [execOp, ho, e1, e2, Sem.run_bind, eqGuard_int, Result.andThen_ok]
      simp [binOp, Op.intCmp, Op.intArith, go_sem, bne, BEq.beq]⟩
theorem PureOp.add {o : Oper} {t t' : TypeId} {x y : Operand} {a b c : Int} (ho : o.op = .binOp .add t x y t') (hx : Kn σ x (.one (.int .i64 a))) (hy : Kn σ y (.one (.int .i64 b))) (hc : IntKind.i64.wrap (a + b) = c) : PureOp P o σ (.one (.int .i64 c)) := by
  subst hc; exact PureOp.intOp ho hx hy rfl
theorem PureOp.sub {o : Oper} {t t' : TypeId} {x y : Operand} {a b c : Int} (ho : o.op = .binOp .sub t x y t') (hx : Kn σ x (.one (.int .i64 a))) (hy : Kn σ y (.one (.int .i64 b))) (hc : IntKind.i64.wrap (a - b) = c) : PureOp P o σ (.one (.int .i64 c)) := by
  subst hc; exact PureOp.intOp ho hx hy rfl
theorem PureOp.mul {o : Oper} {t t' : TypeId} {x y : Operand} {a b c : Int} (ho : o.op = .binOp .mul t x y t') (hx : Kn σ x (.one (.int .i64 a))) (hy : Kn σ y (.one (.int .i64 b))) (hc : IntKind.i64.wrap (a * b) = c) : PureOp P o σ (.one (.int .i64 c)) := by
  subst hc; exact PureOp.intOp ho hx hy rfl
theorem wrap_id {n : Int} (h1 : -9223372036854775808 ≤ n) (h2 : n ≤ 9223372036854775807) : IntKind.i64.wrap n = n := by rw [IntKind.wrap_i64]; omega
def strRes (op : BinOp) (a b : ByteArray) : Option Bool :=
  match op with
  | .eql => some (decide (a = b))
  | .neq => some (!decide (a = b))
  | .lss => some (Op.bytesLess a.toList b.toList)
  | .leq => some (Op.bytesLess a.toList b.toList || decide (a = b))
  | .gtr => some (!(Op.bytesLess a.toList b.toList || decide (a = b)))
  | .geq => some (!Op.bytesLess a.toList b.toList)
  | _ => none
theorem beq_ba (a b : ByteArray) : (a.toList == b.toList) = decide (a = b) := by
  rw [Bool.eq_iff_iff, beq_iff_eq, decide_eq_true_iff]; exact ba_inj
theorem PureOp.strOp {o : Oper} {op : BinOp} {t t' : TypeId} {x y : Operand} {a b : ByteArray} {r : Bool} (ho : o.op = .binOp op t x y t') (hx : Kn σ x (.one (.str a))) (hy : Kn σ y (.one (.str b))) (hr : strRes op a b = some r) : PureOp P o σ (.one (.bool r)) := by
  refine PureOp.val fun N w0 ρ S ac w hs => ?_
  obtain ⟨e1, _⟩ : ac.eval x = .string a ∧ _ := hx.sound hs
  obtain ⟨e2, _⟩ : ac.eval y = .string b ∧ _ := hy.sound hs
  cases op <;> simp only [strRes, reduceCtorEq, Option.some.injEq] at hr <;> subst hr <;>
    exact ⟨_, rfl, fun w' _ => by
      generalize ac.eval = ev at e1 e2 ⊢
      simp only [execOp, ho, e1, e2, Sem.run_bind, eqGuard, Result.andThen_ok]
      simp [binOp, Op.stringOp, go_sem, beq_ba]⟩
theorem PureOp.not {o : Oper} {t : TypeId} {x : Operand} {b : Bool} (ho : o.op = .unOp .not t x) (hx : Kn σ x (.one (.bool b))) : PureOp P o σ (.one (.bool (!b))) := by
  refine PureOp.val fun N w0 ρ S ac w hs => ?_
  have e1 : ac.eval x = .bool b := hx.sound hs
  refine ⟨.bool (!b), rfl, fun w' _ => ?_⟩
  generalize ac.eval = ev at e1 ⊢
  simp [execOp, ho, e1, Op.unary, go_sem]
def boolB (P : Program) (t : Nat) : Bool := match P.underlying t with | some .bool => true | _ => false
theorem boolB_spec {t : Nat} (h : boolB P t = true) : P.underlying t = some .bool := by
  unfold boolB at h
  split at h
  · assumption
  · cases h
theorem PureOp.boolEq {o : Oper} {t t' : TypeId} {x y : Operand} {a b : Bool} (ho : o.op = .binOp .eql t x y t') (hx : Kn σ x (.one (.bool a))) (hy : Kn σ y (.one (.bool b))) (ht : boolB P t = true) : PureOp P o σ (.one (.bool (a == b))) := by
  refine PureOp.val fun N w0 ρ S ac w hs => ?_
  have e1 : ac.eval x = .bool a := hx.sound hs
  have e2 : ac.eval y = .bool b := hy.sound hs
  refine ⟨_, rfl, fun w' _ => ?_⟩
  generalize ac.eval = ev at e1 e2 ⊢
  simp only [execOp, ho, e1, e2, Sem.run_bind, eqGuard, Result.andThen_ok, binOp]
  simp [go_sem, run_equal_bool (w := w') t a b (boolB_spec ht)]
theorem PureOp.boolNe {o : Oper} {t t' : TypeId} {x y : Operand} {a b : Bool} (ho : o.op = .binOp .neq t x y t') (hx : Kn σ x (.one (.bool a))) (hy : Kn σ y (.one (.bool b))) (ht : boolB P t = true) : PureOp P o σ (.one (.bool (!(a == b)))) := by
  refine PureOp.val fun N w0 ρ S ac w hs => ?_
  have e1 : ac.eval x = .bool a := hx.sound hs
  have e2 : ac.eval y = .bool b := hy.sound hs
  refine ⟨_, rfl, fun w' _ => ?_⟩
  generalize ac.eval = ev at e1 e2 ⊢
  simp only [execOp, ho, e1, e2, Sem.run_bind, eqGuard, Result.andThen_ok, binOp]
  simp [go_sem, run_equal_bool (w := w') t a b (boolB_spec ht)]
def sliceB (P : Program) (t : Nat) : Bool := match P.underlying t with | some (.slice _) => true | _ => false
def stringB (P : Program) (t : Nat) : Bool := match P.underlying t with | some .string => true | _ => false
theorem sliceB_spec {t : Nat} (h : sliceB P t = true) : ∃ e, P.underlying t = some (.slice e) := by
  unfold sliceB at h
  split at h
  · rename_i e he; exact ⟨e, he⟩
  · cases h
theorem stringB_spec {t : Nat} (h : stringB P t = true) : P.underlying t = some .string := by
  unfold stringB at h
  split at h
  · assumption
  · cases h
theorem PureOp.lenLst {o : Oper} {t : TypeId} {x : Operand} {sz n : Nat} {f : Nat → Nat → AV} (ho : o.op = .call { callee := .builtin .len, args := #[x], argTypes := #[t] }) (hx : Kn σ x (.one (.lst sz n f))) (ht : sliceB P t = true) : PureOp P o σ (.one (.int .i64 n)) := by
  refine PureOp.val fun N w0 ρ S ac w hs => ?_
  obtain ⟨A, c, e1, _⟩ := hx.sound hs
  obtain ⟨e, he⟩ := sliceB_spec ht
  refine ⟨_, rfl, fun w' _ => ?_⟩
  generalize ac.eval = ev at e1 ⊢
  simp [execOp, ho, e1, resolve, invoke, builtin, Builtin.len_, run_underlying he, goInt, go_sem]
theorem PureOp.lenOwn {o : Oper} {t : TypeId} {x : Operand} {id sz n : Nat} (ho : o.op = .call { callee := .builtin .len, args := #[x], argTypes := #[t] }) (hx : Kn σ x (.one (.own id sz n))) (ht : sliceB P t = true) : PureOp P o σ (.one (.int .i64 n)) := by
  refine PureOp.val fun N w0 ρ S ac w hs => ?_
  obtain ⟨A, e1, _⟩ := hx.sound hs
  obtain ⟨e, he⟩ := sliceB_spec ht
  refine ⟨_, rfl, fun w' _ => ?_⟩
  generalize ac.eval = ev at e1 ⊢
  simp [execOp, ho, e1, resolve, invoke, builtin, Builtin.len_, run_underlying he, goInt, go_sem]
theorem PureOp.lenStr {o : Oper} {t : TypeId} {x : Operand} {s : ByteArray} (ho : o.op = .call { callee := .builtin .len, args := #[x], argTypes := #[t] }) (hx : Kn σ x (.one (.str s))) (ht : stringB P t = true) : PureOp P o σ (.one (.int .i64 s.size)) := by
  refine PureOp.val fun N w0 ρ S ac w hs => ?_
  obtain ⟨e1, _⟩ := hx.sound hs
  refine ⟨_, rfl, fun w' _ => ?_⟩
  generalize ac.eval = ev at e1 ⊢
  simp [execOp, ho, e1, resolve, invoke, builtin, Builtin.len_, run_underlying (stringB_spec ht), goInt, go_sem]
theorem PureOp.ext2a {o : Oper} {x : Operand} {s u : SV} (ho : o.op = .extract x 0) (hx : Kn σ x (.tup2 s u)) : PureOp P o σ s := by
  refine PureOp.val fun N w0 ρ S ac w hs => ?_
  obtain ⟨a, b, e1, h1, h2⟩ := hx.sound hs
  refine ⟨a, h1, fun w' _ => ?_⟩
  generalize ac.eval = ev at e1 ⊢
  simp [execOp, ho, e1, Instr.extract, go_sem]
theorem PureOp.ext2b {o : Oper} {x : Operand} {s u : SV} (ho : o.op = .extract x 1) (hx : Kn σ x (.tup2 s u)) : PureOp P o σ u := by
  refine PureOp.val fun N w0 ρ S ac w hs => ?_
  obtain ⟨a, b, e1, h1, h2⟩ := hx.sound hs
  refine ⟨b, h2, fun w' _ => ?_⟩
  generalize ac.eval = ev at e1 ⊢
  simp [execOp, ho, e1, Instr.extract, go_sem]
theorem PureOp.indexStr {o : Oper} {t : Nat} {x y : Operand} {k : IntKind} {s : ByteArray} {m : Int} {i : Nat} (ho : o.op = .index t x y) (hx : Kn σ x (.one (.str s))) (ht : stringB P t = true) (hy : Kn σ y (.one (.int k m))) (hm : m = (i : Int)) (hlt : i < s.size) :
    PureOp P o σ (.one (.int .u8 (s.get i hlt).toNat)) := by
  refine PureOp.val fun N w0 ρ S ac w hs => ?_
  obtain ⟨e1, _⟩ := hx.sound hs
  have e2 : ac.eval y = _ := hy.sound hs
  refine ⟨_, rfl, fun w' _ => ?_⟩
  subst hm
  generalize ac.eval = ev at e1 e2 ⊢
  have h1 : s[i]? = some s[i] := getElem?_pos s i hlt
  simp [execOp, ho, e1, e2, Instr.index, asIntOf, run_underlying (stringB_spec ht), go_sem, h1]
  rfl
end
end Go.Proofs.Ytonfeiloekofdaa

namespace Go.Proofs.Ytonfeiloekofdaa
open Go.ChangeShapes Go.WideShapes Go.ChangeAt Go.RowKit Go.BigFrame Go.Deep
set_option linter.unusedVariables false
set_option linter.unusedSimpArgs false
inductive Vw (H : Heap) : AV → AV → Prop
  | int {k : IntKind} {n : Int} : Vw H (.int k n) (.int k n)
  | bool {b : Bool} : Vw H (.bool b) (.bool b)
  | str {s : ByteArray} : Vw H (.str s) (.str s)
  | con {v : Value} : Vw H (.con v) (.con v)
  | lst {sz n : Nat} {f : Nat → Nat → AV} : Vw H (.lst sz n f) (.lst sz n f)
  | ref {sz : Nat} {f : Nat → AV} : Vw H (.ref sz f) (.ref sz f)
  | ptr {id sz i j m : Nat} {g : Nat → AV} {o : AObj} : H.lookup id = some o → o.sz = sz → i < o.n → j + m ≤ sz → (∀ k, k < m → Vw H (o.f i (j + k)) (g k)) → Vw H (.ptr id sz i j) (.ref m g)
  | own {id sz n : Nat} {g : Nat → Nat → AV} {o : AObj} : H.lookup id = some o → o.sz = sz → n ≤ o.n → (∀ i j, i < n → j < sz → Vw H (o.f i j) (g i j)) → Vw H (.own id sz n) (.lst sz n g)
  | fn {f : FuncId} {m : Nat} {caps g : Nat → AV} : (∀ j, j < m → Vw H (caps j) (g j)) → Vw H (.fn f m caps) (.fn f m g)
  | frs {x : AV} : Vw H (.frs x) x
  | tre {id i n : Nat} {X : Nat → AV} : H.lookup id = some (.trees n X) → i < n → Vw H (.tre id i) (X i)
  | nil {sz : Nat} {f : Nat → Nat → AV} : Vw H (.con (.slice none 0 0)) (.lst sz 0 f)
def withOwn (ρ : Rho) (H : Heap) (S : Nat → Prop) (b : Nat) : Prop := S b ∨ (∃ id o, H.lookup id = some o ∧ (ρ id).2 ≠ 0 ∧ (ρ id).1 = b) ∨ ∃ id n X i, H.lookup id = some (.trees n X) ∧ i < n ∧ ρ.tb id i b
theorem D.more {w : World} {S S' : Nat → Prop} {x : AV} {v : Value} (h : D w S x v) (hs : ∀ b, S b → S' b) : D w S' x v := h.keep ⟨hs, fun _ _ => rfl⟩
theorem Vw.sound {B : Nat} {ρ : Rho} {S : Nat → Prop} {H : Heap} {w : World} (hm : MemOk B ρ S H w) {x y : AV} (h : Vw H x y) : ∀ {v : Value}, R ρ w S x v → D w (withOwn ρ H S) y v := by
  induction h with
  | int => exact fun h => h
  | bool => exact fun h => h
  | str => exact fun h => h
  | con => exact fun h => h
  | lst => exact fun h => D.more (x := .lst _ _ _) h fun b hb => .inl hb
  | ref => exact fun h => D.more (x := .ref _ _) h fun b hb => .inl hb
  | @ptr id sz i j m g o ho hsz hi hj _ ih =>
    intro v hv
    subst hsz
    have hv : v = _ := hv
    have hc := hm.pos ho hi
    obtain ⟨cs, e, h1, h2, h3, h4, h5, h6, h7⟩ := hm.obj id o ho hc
    refine ⟨(ρ id).1, i * o.sz + j, hv, .inr (.inl ⟨id, o, ho, hc, rfl⟩), fun k hk => ?_⟩
    obtain ⟨u, hu, hr⟩ := h7 i (j + k) hi (by omega)
    refine ⟨u, ?_, ih k hk hr⟩
    simp [World.cell?, h1, Nat.add_assoc, hu]
  | @own id sz n g o ho hsz hn _ ih =>
    intro v hv
    subst hsz
    obtain ⟨A, hv, hn1, hn2, hA⟩ := hv
    refine ⟨A, _, hv, hn1, hn2, (fun e => by rcases hA with h | ⟨_, h⟩; (· rw [h] at e; cases e); (· exact h)), fun i hi => ?_⟩
    have hc : (ρ id).2 ≠ 0 := by omega
    obtain ⟨cs, e, h1, h2, h3, h4, h5, h6, h7⟩ := hm.obj id o ho hc
    refine ⟨(ρ id).1, 0, by rcases hA with h | ⟨_, h⟩; (· exact h); (· exact absurd h hc), .inr (.inl ⟨id, o, ho, hc, rfl⟩), fun j hj => ?_⟩
    obtain ⟨u, hu, hr⟩ := h7 i j (by omega) hj
    refine ⟨u, ?_, ih i j hi hj hr⟩
    simp [World.cell?, h1, hu]
  | frs => exact fun h => D.keep (S := freshS ρ S) ⟨fun _ hb => .inl hb.1, fun _ _ => rfl⟩ h
  | @tre id i n X hX hi =>
    intro v hv
    obtain ⟨e, _⟩ := hv
    rw [e]
    exact ((hm.tree id n X hX i hi).1).d fun b hb => .inr (.inr ⟨id, n, X, i, hX, hi, hb⟩)
  | nil =>
    intro v hv
    have e : v = Value.slice none 0 0 := hv
    exact ⟨none, 0, e, Nat.le_refl _, by decide, fun _ => rfl, fun i hi => absurd hi (by omega)⟩
  | @fn f m caps g _ ih =>
    intro v hv
    obtain ⟨vs, e, hs, hc⟩ := hv
    refine ⟨vs, e, hs, fun j hj => ?_⟩
    obtain ⟨u, hu, hr⟩ := hc j hj
    exact ⟨u, hu, ih j hj hr⟩
def DL (w : World) (S : Nat → Prop) : List AV → List Value → Prop
  | [], vs => vs = []
  | x :: l, vs => ∃ u us, vs = u :: us ∧ D w S x u ∧ DL w S l us
def DS (w : World) (S : Nat → Prop) : SV → Value → Prop
  | .one x, v => D w S x v
  | .agg l, v => ∃ us : Array Value, v = .agg us ∧ DL w S l us.toList
  | _, _ => False
def DSs (w : World) (S : Nat → Prop) : List SV → List Value → Prop
  | [], vs => vs = []
  | x :: l, vs => ∃ u us, vs = u :: us ∧ DS w S x u ∧ DSs w S l us
theorem DL.toRL {ρ : Rho} {w : World} {S : Nat → Prop} : ∀ {l : List AV} {us : List Value}, DL w S l us → RL ρ w S l us
  | [], _, h => h
  | _ :: _, _, ⟨u, us, e, h1, h2⟩ => ⟨u, us, e, h1.toR, DL.toRL h2⟩
theorem DS.toRS {ρ : Rho} {w : World} {S : Nat → Prop} : ∀ {s : SV} {v : Value}, DS w S s v → RS ρ w S s v
  | .one _, _, h => D.toR h
  | .agg _, _, ⟨us, e, h⟩ => ⟨us, e, h.toRL⟩
  | .tup2 _ _, _, h => h.elim
  | .tup3 _ _ _, _, h => h.elim
  | .tup4 _ _ _ _, _, h => h.elim
  | .gd _ _, _, h => h.elim
def VL (H : Heap) : List AV → List AV → Prop
  | [], [] => True
  | x :: l, y :: m => Vw H x y ∧ VL H l m
  | _, _ => False
def VS (H : Heap) : SV → SV → Prop
  | .one x, .one y => Vw H x y
  | .agg l, .agg m => VL H l m
  | _, _ => False
theorem VL.sound {B : Nat} {ρ : Rho} {S : Nat → Prop} {H : Heap} {w : World} (hm : MemOk B ρ S H w) : ∀ {l m : List AV} {us : List Value}, VL H l m → RL ρ w S l us → DL w (withOwn ρ H S) m us
  | [], [], _, _, h => h
  | _ :: _, _ :: _, _, ⟨h1, h2⟩, ⟨u, us, e, g1, g2⟩ => ⟨u, us, e, h1.sound hm g1, VL.sound hm h2 g2⟩
  | [], _ :: _, _, h, _ => h.elim
  | _ :: _, [], _, h, _ => h.elim
theorem VS.sound {B : Nat} {ρ : Rho} {S : Nat → Prop} {H : Heap} {w : World} (hm : MemOk B ρ S H w) : ∀ {s t : SV} {v : Value}, VS H s t → RS ρ w S s v → DS w (withOwn ρ H S) t v := by
  intro s t v h hr
  cases s <;> cases t <;> first | exact h.elim | skip
  · exact Vw.sound hm h hr
  · obtain ⟨us, e, hl⟩ := hr
    exact ⟨us, e, VL.sound hm h hl⟩
def KnA (σ : Sig) : List Operand → List SV → Prop
  | [], [] => True
  | x :: xs, y :: ys => (∃ s, Kn σ x s ∧ VS σ.heap s y) ∧ KnA σ xs ys
  | _, _ => False
theorem KnA.sound {N : Nat} {w0 : Start} {ρ : Rho} {S : Nat → Prop} {σ : Sig} {a : Act} {w : World} (hs : St N w0 ρ S σ a w) : ∀ {xs : List Operand} {ys : List SV}, KnA σ xs ys → DSs w (withOwn ρ σ.heap S) ys (xs.map a.eval)
  | [], [], _ => rfl
  | _ :: _, _ :: _, ⟨⟨s, h1, h2⟩, h3⟩ => ⟨_, _, rfl, h2.sound hs.mem (h1.sound hs), KnA.sound hs h3⟩
  | [], _ :: _, h => h.elim
  | _ :: _, [], h => h.elim
def AV.val : AV → Value
  | .int k n => .int k n
  | .bool b => .bool b
  | .str s => .string s
  | .con v => v
  | _ => undef
def AV.Plain : AV → Prop
  | .int _ _ => True
  | .bool _ => True
  | .str s => s.size ≤ maxLen
  | .con _ => True
  | _ => False
def SV.val : SV → Value
  | .one x => x.val
  | .agg l => .agg (l.map AV.val).toArray
  | .tup2 x y => .tuple #[x.val, y.val]
  | .tup3 x y z => .tuple #[x.val, y.val, z.val]
  | .tup4 x y z u => .tuple #[x.val, y.val, z.val, u.val]
  | .gd _ _ => undef
def SV.Plain : SV → Prop
  | .one x => x.Plain
  | .agg l => ∀ x ∈ l, x.Plain
  | .tup2 x y => x.Plain ∧ y.Plain
  | .tup3 x y z => x.Plain ∧ y.Plain ∧ z.Plain
  | .tup4 x y z u => x.Plain ∧ y.Plain ∧ z.Plain ∧ u.Plain
  | .gd _ _ => False
theorem AV.Plain.r {x : AV} (h : x.Plain) (ρ : Rho) (w : World) (S : Nat → Prop) : R ρ w S x x.val := by
  cases x <;> first | exact h.elim | rfl | exact ⟨rfl, h⟩
theorem AV.Plain.eq {x : AV} (h : x.Plain) {ρ : Rho} {w : World} {S : Nat → Prop} {v : Value} (hr : R ρ w S x v) : v = x.val := by
  cases x <;> first | exact h.elim | exact hr | exact hr.1
theorem plainL_r {ρ : Rho} {w : World} {S : Nat → Prop} : ∀ {l : List AV}, (∀ x ∈ l, x.Plain) → RL ρ w S l (l.map AV.val)
  | [], _ => rfl
  | x :: l, h => ⟨_, _, rfl, (h x (List.mem_cons_self ..)).r _ _ _, plainL_r fun y hy => h y (List.mem_cons_of_mem _ hy)⟩
theorem plainL_eq {ρ : Rho} {w : World} {S : Nat → Prop} : ∀ {l : List AV} {us : List Value}, (∀ x ∈ l, x.Plain) → RL ρ w S l us → us = l.map AV.val
  | [], _, _, h => h
  | x :: l, _, hp, ⟨u, us, e, h1, h2⟩ => by rw [e, (hp x (List.mem_cons_self ..)).eq h1, plainL_eq (fun y hy => hp y (List.mem_cons_of_mem _ hy)) h2]; rfl
theorem SV.Plain.r (ρ : Rho) (w : World) (S : Nat → Prop) : ∀ {s : SV}, s.Plain → RS ρ w S s s.val
  | .one _, h => AV.Plain.r h _ _ _
  | .agg l, h => ⟨_, rfl, by simpa using plainL_r h⟩
  | .tup2 _ _, h => ⟨_, _, rfl, SV.Plain.r ρ w S h.1, SV.Plain.r ρ w S h.2⟩
  | .tup3 _ _ _, h => ⟨_, _, _, rfl, SV.Plain.r ρ w S h.1, SV.Plain.r ρ w S h.2.1, SV.Plain.r ρ w S h.2.2⟩
  | .tup4 _ _ _ _, h => ⟨_, _, _, _, rfl, SV.Plain.r ρ w S h.1, SV.Plain.r ρ w S h.2.1, SV.Plain.r ρ w S h.2.2.1, SV.Plain.r ρ w S h.2.2.2⟩
  | .gd _ _, h => h.elim
theorem SV.Plain.eq {ρ : Rho} {w : World} {S : Nat → Prop} : ∀ {s : SV} {v : Value}, s.Plain → RS ρ w S s v → v = s.val
  | .one _, _, h, hr => AV.Plain.eq h hr
  | .agg l, _, h, ⟨us, e, hl⟩ => by
    rw [e, SV.val, ← plainL_eq h hl]
  | .tup2 _ _, _, h, ⟨a, b, e, h1, h2⟩ => by rw [e, SV.Plain.eq h.1 h1, SV.Plain.eq h.2 h2]; rfl
  | .tup3 _ _ _, _, h, ⟨a, b, c, e, h1, h2, h3⟩ => by rw [e, SV.Plain.eq h.1 h1, SV.Plain.eq h.2.1 h2, SV.Plain.eq h.2.2 h3]; rfl
  | .tup4 _ _ _ _, _, h, ⟨a, b, c, d, e, h1, h2, h3, h4⟩ => by rw [e, SV.Plain.eq h.1 h1, SV.Plain.eq h.2.1 h2, SV.Plain.eq h.2.2.1 h3, SV.Plain.eq h.2.2.2 h4]; rfl
  | .gd _ _, _, h, _ => h.elim
def Fn (P : Program) (f : FuncId) (args : List SV) (r : SV) : Prop :=
  ∀ (w : World) (S : Nat → Prop) (vs : List Value), Rd S w → DSs w S args vs → Calls P f vs.toArray w fun e w' => e = .returned r.val ∧ Below w.heap.size w w'
def callB (P : Program) (f : FuncId) : Bool := match P.funcs[f]? with | some fn => !(fn.name == "runtime.NumGoroutine") && !fn.body.isNone | none => false
theorem callFunc_run {P : Program} {f : FuncId} (h : callB P f = true) (args : Array Value) (w : World) : (callFunc f args).run P w = .ok (.enter f args) w := by
  unfold callB at h
  split at h
  · rename_i fn hf
    rw [Bool.and_eq_true, Bool.not_eq_true', Bool.not_eq_true'] at h
    have h1 : fn.name ≠ "runtime.NumGoroutine" := by simpa using h.1
    have h2 : fn.body ≠ none := by intro e; simp [e] at h
    simp [callFunc, go_sem, hf, h1, h2]
  · cases h
theorem wpQuiet_mono {P : Program} {ops : Array Oper} {C : World → Prop} {Q Q' : Act → Prop} (hQ : ∀ a, Q a → Q' a) : ∀ {l : List Oper} {a : Act}, wpQuiet P ops C Q l a → wpQuiet P ops C Q' l a
  | [], a, h => hQ a h
  | o :: l, a, h => by
    unfold wpQuiet at h ⊢
    split
    · rename_i hw
      rw [if_pos hw] at h
      exact Oper.quiet_mono (fun a ha => wpQuiet_mono hQ ha) h
    · rename_i hw
      rw [if_neg hw] at h
      exact wpQuiet_mono hQ h
section
variable {P : Program} {σ : Sig}
theorem withOwn_lt {N : Nat} {w0 : Start} {ρ : Rho} {S : Nat → Prop} {a : Act} {w : World} (hs : St N w0 ρ S σ a w) : ∀ b, withOwn ρ σ.heap S b → b < w.heap.size := by
  rintro b (h | ⟨id, o, ho, hc, rfl⟩ | ⟨id, n, X, i, hX, hi, hb⟩)
  · exact hs.mem.lt b h
  · exact hs.mem.blk ho hc
  · exact (((hs.mem.tree id n X hX i hi).2) b hb).2.1
theorem DL.keep {w w' : World} {S S' : Nat → Prop} (h : Same S w S' w') : ∀ {l : List AV} {us : List Value}, DL w S l us → DL w' S' l us
  | [], _, hd => hd
  | _ :: _, _, ⟨u, us, e, h1, h2⟩ => ⟨u, us, e, h1.keep h, DL.keep h h2⟩
theorem DS.keep {w w' : World} {S S' : Nat → Prop} (h : Same S w S' w') : ∀ {s : SV} {v : Value}, DS w S s v → DS w' S' s v
  | .one _, _, hd => D.keep h hd
  | .agg _, _, ⟨us, e, hd⟩ => ⟨us, e, hd.keep h⟩
  | .tup2 _ _, _, h => h.elim
  | .tup3 _ _ _, _, h => h.elim
  | .tup4 _ _ _ _, _, h => h.elim
  | .gd _ _, _, h => h.elim
theorem DSs.keep {w w' : World} {S S' : Nat → Prop} (h : Same S w S' w') : ∀ {l : List SV} {us : List Value}, DSs w S l us → DSs w' S' l us
  | [], _, hd => hd
  | _ :: _, _, ⟨u, us, e, h1, h2⟩ => ⟨u, us, e, h1.keep h, DSs.keep h h2⟩
theorem execCall {o : Oper} {ev : Operand → Value} {c : Operand} {g : FuncId} {caps : Array Value} {xs : List Operand} {ts : Array TypeId} (ho : o.op = .call { callee := .value c, args := xs.toArray, argTypes := ts })
    (hc : ev c = .func (.func g) #[] caps) (hB : callB P g = true) (w : World) : (execOp ev o).run P w = .ok (.enter g ((xs.map ev).toArray ++ caps)) w := by
  simp only [execOp, ho, resolve, Sem.run_bind, hc, Deferred.ofValue]
  simp only [Sem.run_pure, Result.andThen_ok, invoke, Array.empty_append, List.map_toArray]
  exact callFunc_run hB _ w
theorem PureOp.call {o : Oper} {f : FuncId} {xs : List Operand} {ts : Array TypeId} {args : List SV} {r : SV} (ho : o.op = .call { callee := .value (.func f), args := xs.toArray, argTypes := ts })
    (hF : Fn P f args r) (hk : KnA σ xs args) (hB : callB P f = true) (hp : r.Plain) : PureOp P o σ r := by
  intro N w0 ρ S a w hs
  refine ⟨r.val, hp.r _ _ _, fun w' hb => ?_⟩
  have h1 := (KnA.sound hs hk).keep (same_below (withOwn_lt hs) hb)
  have h2 := hF w' _ _ ⟨fun b hb' => Nat.lt_of_lt_of_le (withOwn_lt hs b hb') hb.size, (hs.pre.below hb).mono hb.size⟩ h1
  have e : (execOp a.eval o).run P w' = .ok (.enter f (xs.map a.eval).toArray) w' := by
    have := execCall (P := P) (ev := a.eval) (caps := #[]) ho rfl hB w'
    simpa using this
  rw [e]
  exact ⟨rfl, h2.mono fun e w'' ⟨he, hb2⟩ => ⟨he, hb.trans (hb2.mono hb.size)⟩⟩
def capL (m : Nat) (caps : Nat → AV) : List SV := (List.range' 0 m).map fun j => .one (caps j)
theorem DSs.append {w : World} {S : Nat → Prop} : ∀ {l m : List SV} {us vs : List Value}, DSs w S l us → DSs w S m vs → DSs w S (l ++ m) (us ++ vs)
  | [], _, _, _, h, k => by rw [show _ = [] from h]; exact k
  | _ :: _, _, _, _, ⟨u, us, e, h1, h2⟩, k => ⟨u, _, by rw [e]; rfl, h1, DSs.append h2 k⟩
theorem capL_sound {w : World} {S : Nat → Prop} {caps : Nat → AV} : ∀ (m i : Nat) (vs : List Value), vs.length = m → (∀ j, j < m → ∃ u, vs[j]? = some u ∧ D w S (caps (i + j)) u) → DSs w S ((List.range' i m).map fun j => .one (caps j)) vs
  | 0, _, vs, hl, _ => List.eq_nil_of_length_eq_zero hl
  | m + 1, i, [], hl, _ => by simp at hl
  | m + 1, i, v :: vs, hl, h => by
    obtain ⟨u, hu, hd⟩ := h 0 (by omega)
    simp at hu
    subst hu
    refine ⟨_, vs, rfl, hd, capL_sound m (i + 1) vs (by simpa using hl) fun j hj => ?_⟩
    obtain ⟨u, hu, hd⟩ := h (j + 1) (by omega)
    exact ⟨u, by simpa using hu, by rw [show i + 1 + j = i + (j + 1) by omega]; exact hd⟩
theorem PureOp.callv {o : Oper} {c : Operand} {g : FuncId} {m : Nat} {caps cv : Nat → AV} {xs : List Operand} {ts : Array TypeId} {args : List SV} {r : SV} (ho : o.op = .call { callee := .value c, args := xs.toArray, argTypes := ts })
    (hc : Kn σ c (.one (.fn g m caps))) (hF : Fn P g (args ++ capL m cv) r) (hv : ∀ j, j < m → Vw σ.heap (caps j) (cv j)) (hk : KnA σ xs args) (hB : callB P g = true) (hp : r.Plain) : PureOp P o σ r := by
  intro N w0 ρ S a w hs
  refine ⟨r.val, hp.r _ _ _, fun w' hb => ?_⟩
  have h1 := (KnA.sound hs hk).keep (same_below (withOwn_lt hs) hb)
  obtain ⟨vs, ec, hm, hcc⟩ := hc.sound hs
  have h3 : DSs w' (withOwn ρ σ.heap S) (capL m cv) vs.toList := by
    refine DSs.keep (same_below (withOwn_lt hs) hb) (capL_sound m 0 vs.toList (by simpa using hm) fun j hj => ?_)
    obtain ⟨u, hu, hr⟩ := hcc j hj
    exact ⟨u, by simpa using hu, by rw [Nat.zero_add]; exact (hv j hj).sound hs.mem hr⟩
  have h2 := hF w' _ _ ⟨fun b hb' => Nat.lt_of_lt_of_le (withOwn_lt hs b hb') hb.size, (hs.pre.below hb).mono hb.size⟩ (h1.append h3)
  have e : (execOp a.eval o).run P w' = .ok (.enter g (xs.map a.eval ++ vs.toList).toArray) w' := by
    have := execCall (P := P) (ev := a.eval) (caps := vs) ho ec hB w'
    rw [this]; simp
  rw [e]
  exact ⟨rfl, h2.mono fun e w'' ⟨he, hb2⟩ => ⟨he, hb.trans (hb2.mono hb.size)⟩⟩
def ARun (P : Program) (N : Nat) (w0 : Start) (ops : Array Oper) (Q : Sig → Prop) (l : List Oper) (σ : Sig) : Prop :=
  ∀ (ρ : Rho) (S : Nat → Prop) (a : Act) (w : World) (Q' : Exit → Act → World → Prop), (∀ ρ S σ a w, St N w0 ρ S σ a w → Q σ → Q' .normal a w) → St N w0 ρ S σ a w → wpList P ops Q' l a w
def AQ (P : Program) (N : Nat) (w0 : Start) (ops : Array Oper) (Q : Sig → Prop) (l : List Oper) (σ : Sig) : Prop :=
  ∀ (ρ : Rho) (S : Nat → Prop) (a : Act) (w : World), St N w0 ρ S σ a w → wpQuiet P ops (fun w'' => Below w.heap.size w w'') (fun a' => ∃ σ', St N w0 ρ S σ' a' w ∧ Q σ') l a
inductive Gate (σ : Sig) (t : Nat) : Bool → Bool → Prop
  | tt {x : Bool} : σ.env.lookup t = some (.one (.bool x)) → Gate σ t true x
  | tf {x : Bool} : σ.env.lookup t = some (.one (.bool x)) → Gate σ t false (!x)
  | gt {b x : Bool} : σ.env.lookup t = some (.gd b (.one (.bool x))) → Gate σ t true (b && x)
  | gf {b x : Bool} : σ.env.lookup t = some (.gd b (.one (.bool x))) → Gate σ t false (b && !x)
variable {N : Nat} {w0 : Start} {ops : Array Oper} {rest : List Oper} {o : Oper}
theorem Gate.sound {ρ : Rho} {S : Nat → Prop} {a : Act} {w : World} (hs : St N w0 ρ S σ a w) {t g : Nat} {want c : Bool} (h : Gate σ t want c) (ht : t < N) (hg : o.guard = some (g, want)) (hd : (ops[g]?).bind (·.dst) = some t) : Region.wanted o (yielded ops a.tmps) = c := by
  have hlt : t < a.tmps.size := by rw [hs.size]; exact ht
  have hget : ∀ v, a.tmps.getD t undef = v → a.tmps[t]? = some v := fun v hv => by
    rw [Array.getElem?_eq_getElem hlt]
    rw [Array.getD_eq_getD_getElem?, Array.getElem?_eq_getElem hlt] at hv
    exact congrArg some hv
  have key : yielded ops a.tmps g = match a.tmps[t]? with | some (.bool b) => some b | _ => none := by
    unfold yielded
    rw [hd]; rfl
  unfold Region.wanted
  rw [hg]
  simp only [key]
  cases h with
  | tt h =>
    have := hget _ (hs.env _ _ h)
    rw [this]; cases c <;> rfl
  | @tf x h =>
    have := hget _ (hs.env _ _ h)
    rw [this]; cases x <;> rfl
  | @gt b x h =>
    obtain ⟨h1, h2⟩ := hs.env _ _ h
    cases b with
    | true =>
      have := hget _ (h1 rfl)
      rw [this]; cases x <;> rfl
    | false =>
      have := hget _ (h2 rfl)
      rw [this]; cases x <;> rfl
  | @gf b x h =>
    obtain ⟨h1, h2⟩ := hs.env _ _ h
    cases b with
    | true =>
      have := hget _ (h1 rfl)
      rw [this]; cases x <;> rfl
    | false =>
      have := hget _ (h2 rfl)
      rw [this]; cases x <;> rfl
variable {Q : Sig → Prop}
theorem ARun.nil (h : Q σ) : ARun P N w0 ops Q [] σ := fun ρ S a w _ hQ hs => hQ ρ S σ a w hs h
theorem AQ.nil (h : Q σ) : AQ P N w0 ops Q [] σ := fun _ _ _ _ hs => ⟨σ, hs, h⟩
theorem ARun.pure {s : SV} {d : Nat} (hp : PureOp P o σ s) (hg : o.guard = none) (hd : o.dst = some d) (hN : d < N) (h : ARun P N w0 ops Q rest (σ.put d s)) : ARun P N w0 ops Q (o :: rest) σ := by
  intro ρ S a w Q' hQ hs
  obtain ⟨v, hv, hq⟩ := hp N w0 ρ S a w hs
  refine wpList_plain hg fun K hK => ?_
  refine Oper.wp_of_quiet (C := fun w'' => Below w.heap.size w w'') (K := fun a' => a' = a.put o.dst v) (Below.refl _ _) (fun a' w' hw ha => ?_) ⟨v, hq, rfl⟩
  subst ha
  rw [hd]
  exact hK _ _ (h ρ S _ w' Q' hQ ((hs.put hN hv).world hw))
theorem AQ.pure {s : SV} {d : Nat} (hp : PureOp P o σ s) (hg : o.guard = none) (hd : o.dst = some d) (hN : d < N) (h : AQ P N w0 ops Q rest (σ.put d s)) : AQ P N w0 ops Q (o :: rest) σ := by
  intro ρ S a w hs
  obtain ⟨v, hv, hq⟩ := hp N w0 ρ S a w hs
  unfold wpQuiet
  rw [if_pos (by simp [Region.wanted, hg])]
  refine ⟨v, hq, ?_⟩
  rw [hd]
  exact h ρ S _ w (hs.put hN hv)
theorem ARun.gpure {s : SV} {d g t : Nat} {want c : Bool} (hgate : Gate σ t want c) (hp : c = true → PureOp P o σ s) (hg : o.guard = some (g, want)) (hgd : (ops[g]?).bind (·.dst) = some t) (ht : t < N) (hd : o.dst = some d) (hN : d < N)
    (h : ARun P N w0 ops Q rest (σ.put d (.gd c s))) : ARun P N w0 ops Q (o :: rest) σ := by
  intro ρ S a w Q' hQ hs
  have hw := hgate.sound (ops := ops) hs ht hg hgd
  refine wpList_step fun K hK => ?_
  cases c with
  | true =>
    rw [if_pos hw]
    obtain ⟨v, hv, hq⟩ := hp rfl N w0 ρ S a w hs
    refine Oper.wp_of_quiet (C := fun w'' => Below w.heap.size w w'') (K := fun a' => a' = a.put o.dst v) (Below.refl _ _) (fun a' w' hw ha => ?_) ⟨v, hq, rfl⟩
    subst ha
    rw [hd]
    exact hK _ _ (h ρ S _ w' Q' hQ ((hs.put hN (s := .gd true s) ⟨fun _ => hv, (fun e => by cases e)⟩).world hw))
  | false =>
    rw [if_neg (by rw [hw]; simp), hd]
    exact hK _ _ (h ρ S _ w Q' hQ (hs.put hN (s := .gd false s) ⟨(fun e => by cases e), fun _ => rfl⟩))
theorem AQ.gpure {s : SV} {d g t : Nat} {want c : Bool} (hgate : Gate σ t want c) (hp : c = true → PureOp P o σ s) (hg : o.guard = some (g, want)) (hgd : (ops[g]?).bind (·.dst) = some t) (ht : t < N) (hd : o.dst = some d) (hN : d < N)
    (h : AQ P N w0 ops Q rest (σ.put d (.gd c s))) : AQ P N w0 ops Q (o :: rest) σ := by
  intro ρ S a w hs
  have hw := hgate.sound (ops := ops) hs ht hg hgd
  unfold wpQuiet
  cases c with
  | true =>
    rw [if_pos hw]
    obtain ⟨v, hv, hq⟩ := hp rfl N w0 ρ S a w hs
    refine ⟨v, hq, ?_⟩
    rw [hd]
    exact h ρ S _ w (hs.put hN (s := .gd true s) ⟨fun _ => hv, (fun e => by cases e)⟩)
  | false =>
    rw [if_neg (by rw [hw]; simp), hd]
    exact h ρ S _ w (hs.put hN (s := .gd false s) ⟨(fun e => by cases e), fun _ => rfl⟩)
def AW (P : Program) (N : Nat) (w0 : Start) (c : Code) (Q : Exit → Sig → Prop) (σ : Sig) : Prop :=
  ∀ (ρ : Rho) (S : Nat → Prop) (a : Act) (w : World) (Q' : Exit → Act → World → Prop), (∀ e ρ S σ a w, St N w0 ρ S σ a w → Q e σ → Q' e a w) → St N w0 ρ S σ a w → c.wp P Q' a w
def ThenA (P : Program) (N : Nat) (w0 : Start) (y : Code) (Q : Exit → Sig → Prop) : Exit → Sig → Prop
  | .normal, σ => AW P N w0 y Q σ
  | e, σ => Q e σ
def BlkA (id : Nat) (Q : Exit → Sig → Prop) : Exit → Sig → Prop
  | .exit i, σ => if i = id then Q .normal σ else Q (.exit i) σ
  | e, σ => Q e σ
variable {Q : Exit → Sig → Prop}
theorem AW.skip (h : Q .normal σ) : AW P N w0 .skip Q σ := fun ρ S a w _ hQ hs => wp_skip (hQ _ ρ S σ a w hs h)
theorem AW.ret (h : Q .ret σ) : AW P N w0 .ret Q σ := fun ρ S a w _ hQ hs => wp_ret (hQ _ ρ S σ a w hs h)
theorem AW.exit {i : Nat} (h : Q (.exit i) σ) : AW P N w0 (.exit i) Q σ := fun ρ S a w _ hQ hs => wp_exit (hQ _ ρ S σ a w hs h)
theorem AW.seq {x y : Code} (h : AW P N w0 x (ThenA P N w0 y Q) σ) : AW P N w0 (.seq x y) Q σ := by
  intro ρ S a w Q' hQ hs
  refine wp_seq (h ρ S a w _ (fun e ρ S σ a w hs hq => ?_) hs)
  cases e <;> first | exact hq ρ S a w Q' hQ hs | exact hQ _ ρ S σ a w hs hq
theorem AW.block {i : Nat} {c : Code} (h : AW P N w0 c (BlkA i Q) σ) : AW P N w0 (.block i c) Q σ := by
  intro ρ S a w Q' hQ hs
  refine wp_block (h ρ S a w _ (fun e ρ S σ a w hs hq => ?_) hs)
  cases e
  case exit k =>
    simp only [BlkA] at hq
    simp only [Exit.inBlock]
    split
    · rename_i hk; rw [if_pos hk] at hq; exact hQ _ ρ S σ a w hs hq
    · rename_i hk; rw [if_neg hk] at hq; exact hQ _ ρ S σ a w hs hq
  all_goals exact hQ _ ρ S σ a w hs hq
theorem AW.cond {c : Operand} {x y : Code} {b : Bool} (hc : Kn σ c (.one (.bool b))) (ht : b = true → AW P N w0 x Q σ) (hf : b = false → AW P N w0 y Q σ) : AW P N w0 (.cond c x y) Q σ := by
  intro ρ S a w Q' hQ hs
  refine wp_cond_split (t := b) (hc.sound hs) (fun e => ht e ρ S a w Q' hQ hs) (fun e => hf e ρ S a w Q' hQ hs)
theorem AW.region {i : Nat} {l : List Oper} (h : ARun P N w0 l.toArray (fun σ => Q .normal σ) l σ) : AW P N w0 (.region i l.toArray false) Q σ := by
  intro ρ S a w Q' hQ hs
  exact wp_region_lit (h ρ S a w Q' (fun ρ S σ a w hs hq => hQ _ ρ S σ a w hs hq) hs)
theorem AW.draw {i : Nat} {l : List Oper} (hm : P.follows .mixedOrders = true) (hB : Region.lexB .any l.toArray = true) (h : AQ P N w0 l.toArray (fun σ => Q .normal σ) l σ) : AW P N w0 (.region i l.toArray true) Q σ := by
  intro ρ S a w Q' hQ hs
  refine wp_region_quiet (C := fun w'' => Below w.heap.size w w'') hm hB (Below.drew (Below.refl _ _)) ?_
  have h1 := h ρ S a w hs
  refine wpQuiet_mono (l := l) (fun a' ⟨σ', hs', hq⟩ w' hw' => hQ _ ρ S σ' a' w' (hs'.world hw') hq) h1
end
theorem nB {a b : Nat} (h : Nat.ble a b = true) : a ≤ b := Nat.le_of_ble_eq_true h
theorem pu {P : Program} {N : Nat} {w0 : Start} {σ : Sig} {ops : Array Oper} {rest : List Oper} {o : Oper} {Q : Sig → Prop} {s : SV} {d : Nat} (hp : PureOp P o σ s) (hg : o.guard = none) (hd : o.dst = some d) (hN : Nat.ble (d + 1) N = true) (h : ARun P N w0 ops Q rest (σ.put d s)) : ARun P N w0 ops Q (o :: rest) σ := ARun.pure hp hg hd (Nat.le_of_ble_eq_true hN) h
end Go.Proofs.Ytonfeiloekofdaa

namespace Go.Proofs.Ytonfeiloekofdaa
open Go.ChangeShapes Go.WideShapes Go.ChangeAt Go.RowKit Go.BigFrame Go.Deep
set_option linter.unusedVariables false
set_option linter.unusedSimpArgs false
def EnvLe (e : Env) : Env → Prop
  | [] => True
  | (t, s) :: l => (∃ s', e.lookup t = some s' ∧ s' = s) ∧ EnvLe e l
def HLe (H : Heap) (id : Nat) : AObj → Prop
  | .trees n X => ∃ X', H.lookup id = some (.trees n X') ∧ ∀ i, i < n → X' i = X i
  | .cells l => ∃ o', H.lookup id = some o' ∧ o'.sz = (AObj.cells l).sz ∧ (AObj.cells l).n ≤ o'.n ∧ ∀ i j, i < (AObj.cells l).n → j < (AObj.cells l).sz → o'.f i j = (AObj.cells l).f i j
  | .arr sz n f => ∃ o', H.lookup id = some o' ∧ o'.sz = (AObj.arr sz n f).sz ∧ (AObj.arr sz n f).n ≤ o'.n ∧ ∀ i j, i < (AObj.arr sz n f).n → j < (AObj.arr sz n f).sz → o'.f i j = (AObj.arr sz n f).f i j
theorem HLe.refl {H : Heap} {id : Nat} {o : AObj} (h : H.lookup id = some o) : HLe H id o := by
  cases o with
  | trees n X => exact ⟨X, h, fun _ _ => rfl⟩
  | cells l => exact ⟨_, h, rfl, Nat.le_refl _, fun _ _ _ _ => rfl⟩
  | arr sz n f => exact ⟨_, h, rfl, Nat.le_refl _, fun _ _ _ _ => rfl⟩
theorem HLe.any {H : Heap} {id : Nat} {o : AObj} (h : HLe H id o) : ∃ o', H.lookup id = some o' ∧ o'.sz = o.sz ∧ o.n ≤ o'.n ∧ ∀ i j, i < o.n → j < o.sz → o'.f i j = o.f i j := by
  cases o with
  | trees n X =>
    obtain ⟨X', h1, _⟩ := h
    exact ⟨_, h1, rfl, Nat.le_refl _, fun i j hi => absurd hi (Nat.not_lt_zero _)⟩
  | cells l => exact h
  | arr sz n f => exact h
theorem HLe.mk {H : Heap} {id : Nat} {o o' : AObj} (h : H.lookup id = some o') (ht : o.isT = false) (h1 : o'.sz = o.sz) (h2 : o.n ≤ o'.n) (h3 : ∀ i j, i < o.n → j < o.sz → o'.f i j = o.f i j) : HLe H id o := by
  cases o with
  | trees n X => cases ht
  | cells l => exact ⟨o', h, h1, h2, h3⟩
  | arr sz n f => exact ⟨o', h, h1, h2, h3⟩
def HeapLe (H : Heap) : Heap → Prop
  | [] => True
  | (id, o) :: l => HLe H id o ∧ HeapLe H l
theorem HeapLe.one {H l : Heap} {id : Nat} {o : AObj} (h : H.lookup id = some o) (hl : HeapLe H l) : HeapLe H ((id, o) :: l) := ⟨HLe.refl h, hl⟩
structure SigLe (σ τ : Sig) : Prop where
  env : EnvLe σ.env τ.env
  heap : HeapLe σ.heap τ.heap
theorem EnvLe.get {e : Env} : ∀ {l : Env}, EnvLe e l → ∀ {t : Nat} {s : SV}, l.lookup t = some s → e.lookup t = some s
  | [], _, _, _, h => by simp at h
  | (t', s') :: l, ⟨⟨s1, h1, e1⟩, h2⟩, t, s, h => by
    simp only [List.lookup_cons] at h
    by_cases e : t = t'
    · subst e
      simp at h
      rw [← h, ← e1]; exact h1
    · have : (t == t') = false := by simpa using e
      rw [this] at h
      exact EnvLe.get h2 h
theorem HeapLe.get {H : Heap} : ∀ {l : Heap}, HeapLe H l → ∀ {id : Nat} {o : AObj}, l.lookup id = some o → HLe H id o
  | [], _, _, _, h => by simp at h
  | (t', s') :: l, ⟨h1, h2⟩, t, s, h => by
    simp only [List.lookup_cons] at h
    by_cases e : t = t'
    · subst e
      simp at h
      rw [← h]; exact h1
    · have : (t == t') = false := by simpa using e
      rw [this] at h
      exact HeapLe.get h2 h
theorem MemOk.le' {B : Nat} {ρ : Rho} {S : Nat → Prop} {H H' : Heap} {w : World} (h : MemOk B ρ S H w) (hl : ∀ id o, H'.lookup id = some o → HLe H id o) : MemOk B ρ S H' w where
  base := h.base
  low := h.low
  lt := h.lt
  cap id o ho := by
    obtain ⟨o', ho', e1, e2, e3⟩ := (hl id o ho).any
    exact Nat.le_trans e2 (h.cap id o' ho')
  obj id o ho hc := by
    obtain ⟨o', ho', e1, e2, e3⟩ := (hl id o ho).any
    obtain ⟨cs, e, h1, h2, h3, h4, h5, h6, h7⟩ := h.obj id o' ho' hc
    refine ⟨cs, e, h1, by rw [← e1]; exact h2, by omega, h4, h5, h6, fun i j hi hj => ?_⟩
    rw [← e3 i j hi hj, ← e1]
    exact h7 i j (by omega) (by rw [e1]; exact hj)
  inj id id' o o' ho ho' hne := by
    obtain ⟨p, hp, _⟩ := (hl id o ho).any
    obtain ⟨q, hq, _⟩ := (hl id' o' ho').any
    exact h.inj id id' p q hp hq hne
  tree0 := h.treeOf (Nat.le_refl _) (fun id n X hX => by
    obtain ⟨X', h1, h3⟩ := hl id _ hX
    exact ⟨X', h1, h3, rfl, rfl, rfl⟩) (fun id n X i b hX hi hb => ⟨rfl, (((h.tree id n X hX i hi).2) b hb).2.1, (((h.tree id n X hX i hi).2) b hb).2.2.1⟩) (fun id o ho _ => by
    obtain ⟨o', h1, _⟩ := (hl id o ho).any
    exact .inl ⟨o', h1, rfl⟩)
theorem MemOk.le {B : Nat} {ρ : Rho} {S : Nat → Prop} {H H' : Heap} {w : World} (h : MemOk B ρ S H w) (hl : HeapLe H H') : MemOk B ρ S H' w := h.le' fun _ _ ho => hl.get ho
theorem St.le {N : Nat} {w0 : Start} {ρ : Rho} {S : Nat → Prop} {σ τ : Sig} {a : Act} {w : World} (h : St N w0 ρ S σ a w) (hl : SigLe σ τ) : St N w0 ρ S τ a w :=
  ⟨h.size, h.defers, h.below, h.mem.le hl.heap, fun t s hs => h.env t s (hl.env.get hs)⟩
theorem exists_min {p : Nat → Prop} : ∀ n, p n → ∃ m, p m ∧ ∀ k, p k → m ≤ k := by
  intro n
  induction n using Nat.strongRecOn with
  | _ n ih =>
    intro h
    by_cases hk : ∃ k, k < n ∧ p k
    · obtain ⟨k, hk, hp⟩ := hk
      exact ih k hk hp
    · exact ⟨n, h, fun k hp => by
        rcases Nat.lt_or_ge k n with hlt | hge
        · exact absurd ⟨k, hlt, hp⟩ hk
        · exact hge⟩
noncomputable def minOf (p : Nat → Prop) : Nat := by
  classical exact if h : ∃ n, p n then (exists_min h.choose h.choose_spec).choose else 0
theorem minOf_spec {p : Nat → Prop} (h : ∃ n, p n) : p (minOf p) ∧ ∀ k, p k → minOf p ≤ k := by
  classical
  have e : minOf p = (exists_min h.choose h.choose_spec).choose := by unfold minOf; rw [dif_pos h]
  rw [e]
  exact (exists_min h.choose h.choose_spec).choose_spec
def LoopQ (Q : Exit → Sig → Prop) {ι : Type} (L : ι → Sig) (I : ι → Prop) (μ : ι → Nat) (i : ι) : Exit → Sig → Prop
  | .normal, σ => ∃ i', I i' ∧ μ i' < μ i ∧ SigLe σ (L i')
  | e, σ => Q e σ
section
variable {P : Program} {N : Nat} {w0 : Start} {σ : Sig} {Q : Exit → Sig → Prop}
theorem AW.le {c : Code} {τ : Sig} (hl : SigLe σ τ) (h : AW P N w0 c Q τ) : AW P N w0 c Q σ := fun ρ S a w Q' hQ hs => h ρ S a w Q' hQ (hs.le hl)
theorem AW.mono {c : Code} {Q' : Exit → Sig → Prop} (hq : ∀ e σ, Q e σ → Q' e σ) (h : AW P N w0 c Q σ) : AW P N w0 c Q' σ := fun ρ S a w Q'' hQ hs => h ρ S a w Q'' (fun e ρ S σ a w hs hh => hQ e ρ S σ a w hs (hq e σ hh)) hs
theorem AW.loop {ι : Type} {c : Code} (L : ι → Sig) (I : ι → Prop) (μ : ι → Nat) (i0 : ι) (h0 : I i0) (hl : SigLe σ (L i0)) (hb : ∀ i, I i → AW P N w0 c (LoopQ Q L I μ i) (L i)) : AW P N w0 (.loop c) Q σ := by
  intro ρ S a w Q' hQ hs
  let p : Act → World → Nat → Prop := fun a w n => ∃ i ρ S, I i ∧ St N w0 ρ S (L i) a w ∧ μ i = n
  refine wp_loop (fun a w => ∃ n, p a w n) (fun a w => minOf (p a w)) ⟨_, i0, ρ, S, h0, hs.le hl, rfl⟩ fun a w hI => ?_
  obtain ⟨⟨i, ρ, S, hi, hst, hn⟩, hmin⟩ := minOf_spec hI
  refine hb i hi ρ S a w _ (fun e ρ' S' σ' a' w' hs' hq => ?_) hst
  cases e
  case normal =>
    obtain ⟨i', hi', hlt, hle⟩ := hq
    have hp : p a' w' (μ i') := ⟨i', ρ', S', hi', hs'.le hle, rfl⟩
    refine ⟨⟨_, hp⟩, ?_⟩
    have := (minOf_spec ⟨_, hp⟩).2 _ hp
    omega
  all_goals exact hQ _ ρ' S' σ' a' w' hs' hq
def enumE : Nat → List SV → Env
  | _, [] => []
  | i, s :: l => (i, s) :: enumE (i + 1) l
inductive ResV (P : Program) (σ : Sig) : ResultVar → SV → Prop
  | tmp {t : Nat} {s : SV} : σ.env.lookup t = some s → ResV P σ (.tmp t) s
  | cell {t ty id sz : Nat} {o : AObj} : σ.env.lookup t = some (.one (.ptr id sz 0 0)) → plainB P ty = true → σ.heap.lookup id = some o → o.sz = sz → 0 < o.n → 0 < o.sz → ResV P σ (.cell t ty) (.one (o.f 0 0))
  | cells {t ty n id sz : Nat} {o : AObj} : σ.env.lookup t = some (.one (.ptr id sz 0 0)) → aggB P ty n = true → σ.heap.lookup id = some o → o.sz = sz → 0 < o.n → n ≤ o.sz → ResV P σ (.cell t ty) (.agg ((List.range' 0 n).map (o.f 0)))
def ResL (P : Program) (σ : Sig) (rs : List ResultVar) (s : SV) : Prop :=
  (∃ x, rs = [x] ∧ ResV P σ x s) ∨ (∃ x y s1 s2, rs = [x, y] ∧ ResV P σ x s1 ∧ ResV P σ y s2 ∧ s = .tup2 s1 s2) ∨ (∃ x y z s1 s2 s3, rs = [x, y, z] ∧ ResV P σ x s1 ∧ ResV P σ y s2 ∧ ResV P σ z s3 ∧ s = .tup3 s1 s2 s3) ∨ (∃ x y z u s1 s2 s3 s4, rs = [x, y, z, u] ∧ ResV P σ x s1 ∧ ResV P σ y s2 ∧ ResV P σ z s3 ∧ ResV P σ u s4 ∧ s = .tup4 s1 s2 s3 s4)
def resV (tmps : Array Value) : ResultVar → Sem Value
  | .tmp t => pure (tmps.getD t undef)
  | .cell ad t => do loadVar t (← asAddr (tmps.getD ad undef))
theorem results_eq (fn : Func) (tmps : Array Value) : results fn tmps = (do let vs ← fn.results.mapM (resV tmps); pure (if h : vs.size = 1 then vs[0] else .tuple vs)) := rfl
theorem ResV.run {ρ : Rho} {S : Nat → Prop} {a : Act} {w : World} (hs : St N w0 ρ S σ a w) {x : ResultVar} {s : SV} (h : ResV P σ x s) :
    ∃ v, RS ρ w S s v ∧ (resV a.tmps x).run P w = .ok v w := by
  cases h with
  | tmp h => exact ⟨_, hs.env _ _ h, rfl⟩
  | @cell t ty id sz o h hT ho hsz hn hz =>
    have e : a.tmps.getD t undef = .pointer (some ⟨(ρ id).1, 0 * sz + 0, none⟩) := hs.env _ _ h
    obtain ⟨u, hu, hr⟩ := hs.cell ho hn hz
    subst hsz
    refine ⟨u, hr, ?_⟩
    have := loadAt_one (P := P) hT hu
    simp only [Instr.loadAt, Instr.sureAddr, Sem.run_bind, Sem.run_pure, Result.andThen_ok] at this
    simp only [resV, e, asAddr, Sem.run_bind, Sem.run_pure, Result.andThen_ok, this]
  | @cells t ty n id sz o h hT ho hsz hn hz =>
    have e : a.tmps.getD t undef = .pointer (some ⟨(ρ id).1, 0 * sz + 0, none⟩) := hs.env _ _ h
    obtain ⟨us, h1, h2, h3⟩ := RL.of_fun (ρ := ρ) (w := w) (S := S) (g := o.f 0) (c := fun j => w.cell? ⟨(ρ id).1, 0 * o.sz + j, none⟩) n 0 fun j hj => by
      obtain ⟨u, hu, hr⟩ := hs.cell ho hn (j := j) (by omega)
      exact ⟨u, by simpa using hu, by simpa using hr⟩
    subst h2 hsz
    refine ⟨.agg us.toArray, ⟨us.toArray, rfl, h1⟩, ?_⟩
    have := loadAt_agg (P := P) (ad := ⟨(ρ id).1, 0 * o.sz + 0, none⟩) (w := w) hT fun j u hu => by
      have := h3 j u hu
      simp only [Nat.zero_add] at this
      rw [Addr.add_lit]
      simpa using this
    simp only [Instr.loadAt, Instr.sureAddr, Sem.run_bind, Sem.run_pure, Result.andThen_ok] at this
    simp only [resV, e, asAddr, Sem.run_bind, Sem.run_pure, Result.andThen_ok, this]
theorem ResL.run {ρ : Rho} {S : Nat → Prop} {a : Act} {w : World} (hs : St N w0 ρ S σ a w) {fn : Func} {s : SV} (h : ResL P σ fn.results.toList s) :
    ∃ v, RS ρ w S s v ∧ (results fn a.tmps).run P w = .ok v w := by
  obtain ⟨name, origin, targs, params, rts, nfree, ntmps, res, body, norace, ours, file, endLine, litNo, met, tn⟩ := fn
  simp only at h
  rcases h with ⟨x, e, hx⟩ | ⟨x, y, s1, s2, e, hx, hy, rfl⟩ | ⟨x, y, z, s1, s2, s3, e, hx, hy, hz, rfl⟩ | ⟨x, y, z, t, s1, s2, s3, s4, e, hx, hy, hz, ht, rfl⟩
  · have e' : res = #[x] := by rw [← Array.toArray_toList (xs := res), e]
    subst e'
    obtain ⟨v, hv, hr⟩ := hx.run hs
    refine ⟨v, hv, ?_⟩
    simp only [results_eq, List.mapM_toArray, List.mapM_cons, List.mapM_nil, Sem.run_bind, Sem.run_pure, hr, Result.andThen_ok, map_eq_pure_bind]
    rfl
  · have e' : res = #[x, y] := by rw [← Array.toArray_toList (xs := res), e]
    subst e'
    obtain ⟨v, hv, hr⟩ := hx.run hs
    obtain ⟨v2, hv2, hr2⟩ := hy.run hs
    refine ⟨_, ⟨v, v2, rfl, hv, hv2⟩, ?_⟩
    simp only [results_eq, List.mapM_toArray, List.mapM_cons, List.mapM_nil, Sem.run_bind, Sem.run_pure, hr, hr2, Result.andThen_ok, map_eq_pure_bind]
    rfl
  · have e' : res = #[x, y, z] := by rw [← Array.toArray_toList (xs := res), e]
    subst e'
    obtain ⟨v, hv, hr⟩ := hx.run hs
    obtain ⟨v2, hv2, hr2⟩ := hy.run hs
    obtain ⟨v3, hv3, hr3⟩ := hz.run hs
    refine ⟨_, ⟨v, v2, v3, rfl, hv, hv2, hv3⟩, ?_⟩
    simp only [results_eq, List.mapM_toArray, List.mapM_cons, List.mapM_nil, Sem.run_bind, Sem.run_pure, hr, hr2, hr3, Result.andThen_ok, map_eq_pure_bind]
    rfl
  · have e' : res = #[x, y, z, t] := by rw [← Array.toArray_toList (xs := res), e]
    subst e'
    obtain ⟨v, hv, hr⟩ := hx.run hs
    obtain ⟨v2, hv2, hr2⟩ := hy.run hs
    obtain ⟨v3, hv3, hr3⟩ := hz.run hs
    obtain ⟨v4, hv4, hr4⟩ := ht.run hs
    refine ⟨_, ⟨v, v2, v3, v4, rfl, hv, hv2, hv3, hv4⟩, ?_⟩
    simp only [results_eq, List.mapM_toArray, List.mapM_cons, List.mapM_nil, Sem.run_bind, Sem.run_pure, hr, hr2, hr3, hr4, Result.andThen_ok, map_eq_pure_bind]
    rfl
def RetQ (P : Program) (fn : Func) (r : SV) : Exit → Sig → Prop
  | .ret, σ => ResL P σ fn.results.toList r
  | .normal, σ => ResL P σ fn.results.toList r
  | _, _ => False
theorem DSs.get {w : World} {S : Nat → Prop} : ∀ {l : List SV} {us : List Value} {i t : Nat} {s : SV}, DSs w S l us → (enumE i l).lookup t = some s → ∃ j u, t = i + j ∧ us[j]? = some u ∧ DS w S s u
  | [], _, _, _, _, _, h => by simp [enumE] at h
  | x :: l, _, i, t, s, ⟨u, us, e, h1, h2⟩, h => by
    subst e
    simp only [enumE, List.lookup_cons] at h
    by_cases e : t = i
    · subst e
      simp at h
      subst h
      exact ⟨0, u, rfl, rfl, h1⟩
    · have : (t == i) = false := by simpa using e
      rw [this] at h
      obtain ⟨j, u', e1, e2, e3⟩ := DSs.get h2 h
      exact ⟨j + 1, u', by omega, by simpa using e2, e3⟩
theorem DSs.len {w : World} {S : Nat → Prop} : ∀ {l : List SV} {us : List Value}, DSs w S l us → us.length = l.length
  | [], us, h => by rw [show us = [] from h]; rfl
  | _ :: _, _, ⟨_, _, e, _, h2⟩ => by rw [e]; simp [DSs.len h2]
theorem Fn.of_body {f : FuncId} {fn : Func} {c : Code} {args : List SV} {r : SV} (hf : P.funcs[f]? = some fn) (hb : fn.body = some c) (hle : args.length ≤ fn.ntmps) (hp : r.Plain)
    (h : ∀ w0, AW P fn.ntmps w0 c (RetQ P fn r) ⟨enumE 0 args, []⟩) : Fn P f args r := by
  intro w S vs hS hd
  have hl := hd.len
  refine calls_of_wp hf hb ?_
  refine h ⟨w.heap.size, w, S, w, ⟨fun _ => (0, 0), w.heap.size, fun _ _ => undef, fun _ _ _ => False, fun _ => 0⟩, hS.pre⟩ ⟨fun _ => (0, 0), w.heap.size, fun _ _ => undef, fun _ _ _ => False, fun _ => 0⟩ S _ w _ (fun e ρ S' σ a w' hs hq => ?_) ⟨?_, rfl, ⟨Below.refl _ _, Same.refl _ _, fun _ _ => .refl _ _⟩, ⟨rfl, Nat.le_refl _, hS, fun id o ho => by simp at ho, fun id o ho => by simp at ho, fun id id' o o' ho => by simp at ho, fun id n X ho => by simp at ho⟩, ?_⟩
  · have fin : ResL P σ fn.results.toList r → a.defers = [] ∧ ∃ v, (results fn a.tmps).run P w' = .ok v w' ∧ (Ending.returned v = .returned r.val ∧ Below w.heap.size w w') := fun hr => by
      obtain ⟨v, hv, hrun⟩ := hr.run hs
      refine ⟨hs.defers, v, hrun, by rw [hp.eq hv], hs.below.old⟩
    cases e
    case ret => exact fin hq
    case normal => exact fin hq
    all_goals exact hq.elim
  · simp [hl]; omega
  · intro t s ht
    obtain ⟨j, u, e1, e2, e3⟩ := hd.get ht
    have hj : j < vs.length := (List.getElem?_eq_some_iff.1 e2).1
    have : ((vs.toArray ++ Array.replicate (fn.ntmps - vs.toArray.size) undef).getD t undef) = u := by
      rw [Array.getD_eq_getD_getElem?, Array.getElem?_append_left (by simp; omega)]
      simp [show t = j by omega, e2]
    show RS _ w S s ((vs.toArray ++ Array.replicate (fn.ntmps - vs.toArray.size) undef).getD t undef)
    rw [this]
    exact e3.toRS
end
end Go.Proofs.Ytonfeiloekofdaa

namespace Go.Proofs.Ytonfeiloekofdaa
open Go.ChangeShapes Go.WideShapes Go.ChangeAt Go.RowKit Go.BigFrame Go.Deep
set_option linter.unusedVariables false
set_option linter.unusedSimpArgs false
theorem getD_no {id j : Nat} {l : List AV} (h : l.all (AV.no id) = true) : (l.getD j (.con undef)).no id = true := by
  rw [List.getD_eq_getElem?_getD]
  cases hl : l[j]? with
  | none => rfl
  | some x => exact List.all_eq_true.1 h x (List.mem_of_getElem? hl)
def FrH (id : Nat) : Heap → Prop
  | [] => True
  | (k, o) :: l => k ≠ id ∧ o.No id ∧ FrH id l
structure Fr (id : Nat) (σ : Sig) : Prop where
  envB : (Nat.blt id 1000000 && σ.env.all (fun p => p.2.no id)) = true
  heap : FrH id σ.heap
theorem Fr.env {id : Nat} {σ : Sig} (h : Fr id σ) : σ.env.all (fun p => p.2.no id) = true := by
  have := h.envB; rw [Bool.and_eq_true] at this; exact this.2
theorem Fr.small {id : Nat} {σ : Sig} (h : Fr id σ) : id < 1000000 := by
  have := h.envB; rw [Bool.and_eq_true] at this; simpa [Nat.blt_eq] using this.1
theorem FrH.get {id : Nat} : ∀ {l : Heap}, FrH id l → ∀ {k : Nat} {o : AObj}, l.lookup k = some o → k ≠ id ∧ o.No id
  | [], _, _, _, h => by simp at h
  | (k', o') :: l, ⟨h1, h2, h3⟩, k, o, h => by
    simp only [List.lookup_cons] at h
    by_cases e : k = k'
    · subst e
      simp at h
      subst h
      exact ⟨h1, h2⟩
    · have : (k == k') = false := by simpa using e
      rw [this] at h
      exact FrH.get h3 h
theorem lookup_mem {α : Type} : ∀ {l : List (Nat × α)} {k : Nat} {o : α}, l.lookup k = some o → (k, o) ∈ l
  | [], _, _, h => by simp at h
  | (k', o') :: l, k, o, h => by
    simp only [List.lookup_cons] at h
    by_cases e : k = k'
    · subst e
      simp at h
      subst h
      exact List.mem_cons_self ..
    · have : (k == k') = false := by simpa using e
      rw [this] at h
      exact List.mem_cons_of_mem _ (lookup_mem h)
theorem lookup_put {α : Type} {l : List (Nat × α)} {k k' : Nat} {o p : α} (h : ((k', p) :: l).lookup k = some o) : (k = k' ∧ o = p) ∨ (k ≠ k' ∧ l.lookup k = some o) := by
  simp only [List.lookup_cons] at h
  by_cases e : k = k'
  · subst e
    simp at h
    exact .inl ⟨rfl, h.symm⟩
  · have : (k == k') = false := by simpa using e
    rw [this] at h
    exact .inr ⟨e, h⟩
section
variable {P : Program} {N : Nat} {w0 : Start} {σ : Sig}
theorem World.heap_alloc (w : World) (o : Obj) : (w.alloc o).heap = w.heap.push o := rfl
theorem St.newA {ρ : Rho} {S : Nat → Prop} {a : Act} {w : World} (hs : St N w0 ρ S σ a w) {id : Nat} (hf : Fr id σ) {cs : Array Value} {e : TypeId} {cap : Nat} {o : AObj} (hT : o.isT = false) (h1 : cs.size = cap * o.sz) (h2 : o.n ≤ cap) (h3 : cap ≤ maxLen)
    (h4 : ∀ i j, i < o.n → j < o.sz → ∃ u, cs[i * o.sz + j]? = some u ∧ R ρ w S (o.f i j) u) (h5 : o.No id) :
    ∃ ρ' : Rho, ρ' id = (w.heap.size, cap) ∧ ρ'.base = ρ.base ∧ (∀ k, k ≠ id → Rho.At ρ ρ' k) ∧ St N w0 ρ' S (σ.set id o) a (w.alloc (.cells cs e)) := by
  refine ⟨⟨fun k => if k = id then (w.heap.size, cap) else ρ k, ρ.base, ρ.tv, ρ.tb, ρ.tn⟩, by simp, rfl, fun k hk => ⟨if_neg hk, rfl, rfl, rfl⟩, ?_⟩
  have hb : Below w.heap.size w (w.alloc (.cells cs e)) := (Below.refl _ _).alloc (Nat.le_refl _) _
  have hsame : Same S w S (w.alloc (.cells cs e)) := hs.mem.same hb
  have hρ : ∀ k, k ≠ id → (if k = id then (w.heap.size, cap) else ρ k) = ρ k := fun k hk => if_neg hk
  have hρA : ∀ k, k ≠ id → Rho.At ρ ⟨fun k => if k = id then (w.heap.size, cap) else ρ k, ρ.base, ρ.tv, ρ.tb, ρ.tn⟩ k := fun k hk => ⟨hρ k hk, rfl, rfl, rfl⟩
  refine ⟨hs.size, hs.defers, ⟨hs.below.old.trans (hb.mono hs.mem.low), hs.below.same.trans hsame, fun k hk => (hs.below.ids k hk).trans (hρA k (fun e => by have := hf.small; omega))⟩, ⟨hs.mem.base, ?_, ?_, ?_, ?_, ?_, ?_⟩, ?_⟩
  · exact Nat.le_trans hs.mem.low hb.size
  · exact fun b hS => Nat.lt_of_lt_of_le (hs.mem.lt b hS) hb.size
  · intro k p hp
    rcases lookup_put hp with ⟨rfl, rfl⟩ | ⟨hne, hp⟩
    · simpa using h2
    · simp only [hρ k hne]; exact hs.mem.cap k p hp
  · intro k p hp hc
    rcases lookup_put hp with ⟨rfl, rfl⟩ | ⟨hne, hp⟩
    · refine ⟨cs, e, ?_, by simpa using h1, by simpa using h2, by simpa using h3, by simpa using hs.mem.low, ?_, fun i j hi hj => ?_⟩
      · simp [World.heap_alloc]
      · simp only [if_true]
        exact fun hS => absurd (hs.mem.lt _ hS) (by omega)
      · obtain ⟨u, hu, hr⟩ := h4 i j hi hj
        exact ⟨u, hu, hr.keep (ρ := ρ) hsame ⟨rfl, fun q => by
          by_cases hq : q = k
          · subst hq; exact .inr (h5.at_ i j)
          · exact .inl (hρA q hq)⟩⟩
    · obtain ⟨_, hno⟩ := hf.heap.get hp
      simp only [hρ k hne] at hc
      have hlt := hs.mem.blk hp hc
      obtain ⟨cs', e', g1, g2, g3, g4, g5, g6, g7⟩ := hs.mem.obj k p hp hc
      simp only [hρ k hne]
      refine ⟨cs', e', by rw [hb.block _ hlt]; exact g1, g2, g3, g4, g5, g6, fun i j hi hj => ?_⟩
      obtain ⟨u, hu, hr⟩ := g7 i j hi hj
      exact ⟨u, hu, hr.keep (ρ := ρ) hsame ⟨rfl, fun q => by
        by_cases hq : q = id
        · subst hq; exact .inr (hno.at_ i j)
        · exact .inl (hρA q hq)⟩⟩
  · intro k k' p p' hp hp' hne hc hc'
    rcases lookup_put hp with ⟨rfl, rfl⟩ | ⟨q1, hp2⟩ <;> rcases lookup_put hp' with ⟨rfl, rfl⟩ | ⟨q2, hp2'⟩
    · exact absurd rfl hne
    · simp only [hρ k' q2] at hc'
      simp only [if_true, hρ k' q2]
      have := hs.mem.blk hp2' hc'
      omega
    · simp only [hρ k q1] at hc
      simp only [if_true, hρ k q1]
      have := hs.mem.blk hp2 hc
      omega
    · simp only [hρ k q1] at hc
      simp only [hρ k' q2] at hc'
      simp only [hρ k q1, hρ k' q2]
      exact hs.mem.inj k k' p p' hp2 hp2' hne hc hc'
  · refine hs.mem.treeOf (Nat.le_refl _) (fun k n X hX => ?_) (fun k n X i b hX hi hb' => ?_) (fun k p hp hc => ?_)
    · rcases lookup_put hX with ⟨rfl, rfl⟩ | ⟨hne, hX⟩
      · cases hT
      · exact ⟨X, hX, fun _ _ => rfl, rfl, rfl, rfl⟩
    · obtain ⟨q1, q2, q3, _⟩ := (hs.mem.tree k n X hX i hi).2 b hb'
      exact ⟨hb.block b q2, Nat.lt_of_lt_of_le q2 hb.size, q3⟩
    · rcases lookup_put hp with ⟨rfl, rfl⟩ | ⟨hne, hp⟩
      · refine .inr fun k2 n X i hX hi hb' => ?_
        have := ((hs.mem.tree k2 n X hX i hi).2 _ hb').2.1
        simp at this
      · exact .inl ⟨p, hp, hρ k hne⟩
  · intro t s ht
    refine (hs.env t s ht).keep (ρ := ρ) hsame ⟨rfl, fun q => ?_⟩
    by_cases hq : q = id
    · subst hq
      exact .inr (List.all_eq_true.1 hf.env _ (lookup_mem ht))
    · exact .inl (hρA q hq)
theorem St.new {ρ : Rho} {S : Nat → Prop} {a : Act} {w : World} (hs : St N w0 ρ S σ a w) {id : Nat} (hf : Fr id σ) {cs : Array Value} {e : TypeId} {cap : Nat} {o : AObj} (hT : o.isT = false) (h1 : cs.size = cap * o.sz) (h2 : o.n ≤ cap) (h3 : cap ≤ maxLen)
    (h4 : ∀ i j, i < o.n → j < o.sz → ∃ u, cs[i * o.sz + j]? = some u ∧ R ρ w S (o.f i j) u) (h5 : o.No id) :
    ∃ ρ' : Rho, ρ' id = (w.heap.size, cap) ∧ St N w0 ρ' S (σ.set id o) a (w.alloc (.cells cs e)) :=
  let ⟨ρ', h1', _, _, h4'⟩ := hs.newA hf (e := e) hT h1 h2 h3 h4 h5
  ⟨ρ', h1', h4'⟩
theorem ix_inj {sz a b i j : Nat} (hb : b < sz) (hj : j < sz) (h : a * sz + b = i * sz + j) : a = i ∧ b = j := by
  have h1 : (a * sz + b) / sz = a := by rw [Nat.mul_comm, Nat.mul_add_div (by omega), Nat.div_eq_of_lt hb, Nat.add_zero]
  have h2 : (i * sz + j) / sz = i := by rw [Nat.mul_comm, Nat.mul_add_div (by omega), Nat.div_eq_of_lt hj, Nat.add_zero]
  have h3 : a = i := by rw [← h1, ← h2, h]
  subst h3
  exact ⟨rfl, by omega⟩
def AObj.Upd (o o' : AObj) (i j : Nat) (x : AV) : Prop := o'.sz = o.sz ∧ o'.n = o.n ∧ ∀ a b, a < o.n → b < o.sz → (a = i ∧ b = j → o'.f a b = x) ∧ (¬ (a = i ∧ b = j) → o'.f a b = o.f a b)
theorem AObj.upd_cells (l : List AV) (j : Nat) (x : AV) (hj : j < l.length) : (AObj.cells l).Upd (.cells (l.set j x)) 0 j x := by
  refine ⟨by simp [AObj.sz], rfl, fun a b ha hb => ⟨fun h => ?_, fun h => ?_⟩⟩
  · obtain ⟨rfl, rfl⟩ := h
    simp [AObj.f, List.getD_eq_getElem?_getD, hj]
  · have ha : a < 1 := ha
    have : ¬ b = j := fun e => h ⟨by omega, e⟩
    simp only [AObj.f, List.getD_eq_getElem?_getD, List.getElem?_set]
    rw [if_neg (fun e => this e.symm)]
theorem AObj.upd_arr (sz n : Nat) (f : Nat → Nat → AV) (i j : Nat) (x : AV) : (AObj.arr sz n f).Upd (.arr sz n fun a b => if a = i ∧ b = j then x else f a b) i j x :=
  ⟨rfl, rfl, fun a b _ _ => ⟨fun h => by simp only [AObj.f]; rw [if_pos h], fun h => by simp only [AObj.f]; rw [if_neg h]⟩⟩
theorem St.write {ρ : Rho} {S : Nat → Prop} {a : Act} {w : World} (hs : St N w0 ρ S σ a w) {id i j : Nat} {o o' : AObj} {x : AV} {u : Value} (ho : σ.heap.lookup id = some o) (hi : i < o.n) (hj : j < o.sz) (hu : R ρ w S x u) (hup : o.Upd o' i j x) (hT : o'.isT = false := by rfl) :
    St N w0 ρ S (σ.set id o') a (w.setCell ⟨(ρ id).1, i * o.sz + j, none⟩ u) := by
  obtain ⟨e1, e2, e3⟩ := hup
  have hc0 := hs.mem.pos ho hi
  obtain ⟨cs, e, h1, h2, h3, h4, h5, h6, h7⟩ := hs.mem.obj id o ho hc0
  have hlt := hs.mem.blk ho hc0
  have hblk : ∀ k, k ≠ (ρ id).1 → (w.setCell ⟨(ρ id).1, i * o.sz + j, none⟩ u).heap[k]? = w.heap[k]? := fun k hk => Below.heap_setCell _ _ _ _ hk
  have hown : (w.setCell ⟨(ρ id).1, i * o.sz + j, none⟩ u).heap[(ρ id).1]? = some (.cells (cs.setIfInBounds (i * o.sz + j) u) e (0, 0)) := by
    simp [World.setCell, Array.getElem?_modify, h1]
  have hsame : Same S w S (w.setCell ⟨(ρ id).1, i * o.sz + j, none⟩ u) := ⟨fun _ h => h, fun b hb => hblk b fun e => h6 (e ▸ hb)⟩
  have hsz : (w.setCell ⟨(ρ id).1, i * o.sz + j, none⟩ u).heap.size = w.heap.size := by simp [World.setCell]
  refine ⟨hs.size, hs.defers, hs.below.step ((Below.refl _ _).setCell h5 _) hsame, ⟨hs.mem.base, by rw [hsz]; exact hs.mem.low, fun b hb => by rw [hsz]; exact hs.mem.lt b hb, ?_, ?_, ?_, ?_⟩, fun t s ht => (hs.env t s ht).keep hsame (Rn.refl _ _)⟩
  · intro k p hp
    rcases lookup_put hp with ⟨rfl, rfl⟩ | ⟨hne, hp⟩
    · rw [e2]; exact hs.mem.cap k o ho
    · exact hs.mem.cap k p hp
  · intro k p hp hc
    rcases lookup_put hp with ⟨rfl, rfl⟩ | ⟨hne, hp⟩
    · refine ⟨_, e, hown, by rw [Array.size_setIfInBounds, e1]; exact h2, by rw [e2]; exact h3, h4, h5, h6, fun a b ha hb => ?_⟩
      rw [e2] at ha
      rw [e1] at hb ⊢
      obtain ⟨v, hv, hr⟩ := h7 a b ha hb
      obtain ⟨q1, q2⟩ := e3 a b ha hb
      by_cases hab : a = i ∧ b = j
      · rw [q1 hab]
        obtain ⟨rfl, rfl⟩ := hab
        refine ⟨u, ?_, hu.keep hsame (Rn.refl _ _)⟩
        rw [Array.getElem?_setIfInBounds, if_pos rfl, if_pos (Array.getElem?_eq_some_iff.1 hv).1]
      · rw [q2 hab]
        refine ⟨v, ?_, hr.keep hsame (Rn.refl _ _)⟩
        rw [Array.getElem?_setIfInBounds, if_neg (fun e => hab (ix_inj hb hj e.symm))]
        exact hv
    · obtain ⟨cs', e', g1, g2, g3, g4, g5, g6, g7⟩ := hs.mem.obj k p hp hc
      refine ⟨cs', e', by rw [hblk _ (hs.mem.inj k id p o hp ho hne hc hc0)]; exact g1, g2, g3, g4, g5, g6, fun a b ha hb => ?_⟩
      obtain ⟨v, hv, hr⟩ := g7 a b ha hb
      exact ⟨v, hv, hr.keep hsame (Rn.refl _ _)⟩
  · have conv : ∀ {k p}, (σ.set id o').heap.lookup k = some p → ∃ p', σ.heap.lookup k = some p' := fun {k p} hp => by
      rcases lookup_put hp with ⟨rfl, rfl⟩ | ⟨_, hp⟩
      · exact ⟨o, ho⟩
      · exact ⟨p, hp⟩
    intro k k' p p' hp hp' hne hc hc'
    obtain ⟨q, hq⟩ := conv hp
    obtain ⟨q', hq'⟩ := conv hp'
    exact hs.mem.inj k k' q q' hq hq' hne hc hc'
  · refine hs.mem.treeOf (Nat.le_refl _) (fun k n X hX => ?_) (fun k n X i b hX hi hb => ?_) (fun k p hp hc => ?_)
    · rcases lookup_put hX with ⟨rfl, rfl⟩ | ⟨hne, hX⟩
      · cases hT
      · exact ⟨X, hX, fun _ _ => rfl, rfl, rfl, rfl⟩
    · obtain ⟨q1, q2, q3, q4, _⟩ := (hs.mem.tree k n X hX i hi).2 b hb
      exact ⟨hblk b fun e => q4 id o ho hc0 e.symm, by rw [hsz]; exact q2, q3⟩
    · rcases lookup_put hp with ⟨rfl, rfl⟩ | ⟨_, hp⟩
      · exact .inl ⟨o, ho, rfl⟩
      · exact .inl ⟨p, hp, rfl⟩
def AV.Cell : AV → Prop
  | .con v => v.cells = #[v] ∧ (∀ c, v ≠ .agg c) ∧ (∀ c, v ≠ .tuple c)
  | .frs x => (match x with | .lst _ _ _ => True | .ref _ _ => True | _ => False)
  | .cv _ x => (match x with | .lst _ _ _ => True | _ => False)
  | _ => True
theorem AV.Cell.cells {ρ : Rho} {w : World} {S : Nat → Prop} {x : AV} {v : Value} (h : x.Cell) (hr : R ρ w S x v) : v.cells = #[v] ∧ (∀ c, v ≠ .agg c) ∧ (∀ c, v ≠ .tuple c) := by
  cases x with
  | int k n => rw [show v = _ from hr]; exact ⟨rfl, (fun _ e => by cases e), (fun _ e => by cases e)⟩
  | bool b => rw [show v = _ from hr]; exact ⟨rfl, (fun _ e => by cases e), (fun _ e => by cases e)⟩
  | str s => rw [hr.1]; exact ⟨rfl, (fun _ e => by cases e), (fun _ e => by cases e)⟩
  | con c => rw [show v = c from hr]; exact h
  | lst sz n f => obtain ⟨A, c, e, _⟩ := hr; rw [e]; exact ⟨rfl, (fun _ e => by cases e), (fun _ e => by cases e)⟩
  | ref sz f => obtain ⟨b, off, e, _⟩ := hr; rw [e]; exact ⟨rfl, (fun _ e => by cases e), (fun _ e => by cases e)⟩
  | ptr id sz i j => rw [show v = _ from hr]; exact ⟨rfl, (fun _ e => by cases e), (fun _ e => by cases e)⟩
  | own id sz n => obtain ⟨A, e, _⟩ := hr; rw [e]; exact ⟨rfl, (fun _ e => by cases e), (fun _ e => by cases e)⟩
  | frs x =>
    cases x with
    | lst sz n f => obtain ⟨A, c, e, _⟩ := hr; rw [e]; exact ⟨rfl, (fun _ e => by cases e), (fun _ e => by cases e)⟩
    | ref sz f => obtain ⟨b, off, e, _⟩ := hr; rw [e]; exact ⟨rfl, (fun _ e => by cases e), (fun _ e => by cases e)⟩
    | _ => exact h.elim
  | cv c x =>
    cases x with
    | lst sz n f => obtain ⟨_, A, c, e, _⟩ := hr; rw [e]; exact ⟨rfl, (fun _ e => by cases e), (fun _ e => by cases e)⟩
    | _ => exact h.elim
  | tl id sz q n => obtain ⟨A, e, _⟩ := hr; rw [e]; exact ⟨rfl, (fun _ e => by cases e), (fun _ e => by cases e)⟩
  | tre id i => obtain ⟨_, _, A, n, c, e⟩ := hr; rw [e]; exact ⟨rfl, (fun _ e => by cases e), (fun _ e => by cases e)⟩
  | fn g m caps => obtain ⟨vs, e, _⟩ := hr; rw [e]; exact ⟨rfl, (fun _ e => by cases e), (fun _ e => by cases e)⟩
def SV.cs : SV → List AV
  | .one x => [x]
  | .agg l => l
  | _ => []
def SV.Cells : SV → Prop
  | .one x => x.Cell
  | .agg l => ∀ x ∈ l, x.Cell
  | _ => False
theorem SV.Cells.rl {ρ : Rho} {w : World} {S : Nat → Prop} {s : SV} {v : Value} (h : s.Cells) (hr : RS ρ w S s v) : RL ρ w S s.cs v.cells.toList := by
  cases s with
  | one x => rw [(h.cells hr).1]; exact ⟨v, [], rfl, hr, rfl⟩
  | agg l => obtain ⟨us, e, hl⟩ := hr; rw [e]; exact hl
  | tup2 _ _ => exact h.elim
  | tup3 _ _ _ => exact h.elim
  | tup4 _ _ _ _ => exact h.elim
  | gd _ _ => exact h.elim
variable {ops : Array Oper} {rest : List Oper} {o : Oper} {Q : Sig → Prop}
theorem St.newVar {ρ : Rho} {S : Nat → Prop} {a : Act} {w : World} (hs : St N w0 ρ S σ a w) {id : Nat} (hf : Fr id σ) {l : List AV} {us : Array Value} {e : TypeId} (hl : RL ρ w S l us.toList) (hn : l.all (AV.no id) = true) :
    ∃ ρ' : Rho, ρ' id = (w.heap.size, 1) ∧ St N w0 ρ' S (σ.set id (.cells l)) a (w.alloc (.cells us e)) := by
  have hlen : us.size = l.length := by have := hl.len; simpa using this
  refine hs.new hf (o := .cells l) (cap := 1) rfl (by simpa [AObj.sz] using hlen) (Nat.le_refl _) (by unfold maxLen; omega) (fun i j hi hj => ?_) hn
  have hi0 : i = 0 := by have : i < 1 := hi; omega
  subst hi0
  have hj' : j < l.length := hj
  obtain ⟨u, hu, hr⟩ := hl.get (j := j) (x := l[j]) (List.getElem?_eq_getElem hj')
  refine ⟨u, by simpa using hu, ?_⟩
  show R ρ w S (l.getD j (.con undef)) u
  rw [List.getD_eq_getElem?_getD, List.getElem?_eq_getElem hj']
  exact hr
theorem ARun.box {t d id : Nat} {x : Operand} {s : SV} (ho : o.op = .box t x) (hx : Kn σ x s) (hc : s.Cells) (hf : Fr id σ) (hn : s.cs.all (AV.no id) = true) (hg : o.guard = none) (hd : o.dst = some d) (hN : d < N)
    (h : ARun P N w0 ops Q rest ((σ.set id (.cells s.cs)).put d (.one (.ptr id s.cs.length 0 0)))) : ARun P N w0 ops Q (o :: rest) σ := by
  intro ρ S a w Q' hQ hs
  refine wpList_plain hg fun K hK => ?_
  obtain ⟨ρ', e1, hs'⟩ := hs.newVar (e := t) hf (hc.rl (hx.sound hs)) hn
  have hrun : (execOp a.eval o).run P w = .ok (.value (.pointer (some ⟨w.heap.size, 0, none⟩))) (w.alloc (.cells (a.eval x).cells t)) := by
    generalize a.eval = ev
    simp [execOp, ho, Instr.box, newVar, newRow, newObj, go_sem]
    rfl
  unfold Oper.wp
  rw [hrun]
  simp only [Oper.upon, hd]
  refine hK _ _ (h ρ' S _ _ Q' hQ (hs'.put hN ?_))
  show Value.pointer _ = .pointer (some ⟨(ρ' id).1, 0 * _ + 0, none⟩)
  rw [e1]; simp
theorem ARun.alloc {t d id : Nat} {z : Value} {l : List AV} (ho : o.op = .alloc t) (hz : (P.info? t).bind (·.zero) = some z) (hl : ∀ ρ w S, RL ρ w S l z.cells.toList) (hf : Fr id σ) (hn : l.all (AV.no id) = true) (hg : o.guard = none) (hd : o.dst = some d) (hN : d < N)
    (h : ARun P N w0 ops Q rest ((σ.set id (.cells l)).put d (.one (.ptr id l.length 0 0)))) : ARun P N w0 ops Q (o :: rest) σ := by
  intro ρ S a w Q' hQ hs
  refine wpList_plain hg fun K hK => ?_
  obtain ⟨ρ', e1, hs'⟩ := hs.newVar (e := t) hf (us := z.cells) (hl ρ w S) hn
  have hrun : (execOp a.eval o).run P w = .ok (.value (.pointer (some ⟨w.heap.size, 0, none⟩))) (w.alloc (.cells z.cells t)) := by
    generalize a.eval = ev
    cases hi : P.info? t with
    | none => rw [hi] at hz; cases hz
    | some inf =>
      rw [hi] at hz
      have hz' : inf.zero = some z := hz
      simp [execOp, ho, Instr.alloc, newVar, newRow, newObj, go_sem, zeroValue, typeInfo, hi, hz']
      rfl
  unfold Oper.wp
  rw [hrun]
  simp only [Oper.upon, hd]
  refine hK _ _ (h ρ' S _ _ Q' hQ (hs'.put hN ?_))
  show Value.pointer _ = .pointer (some ⟨(ρ' id).1, 0 * _ + 0, none⟩)
  rw [e1]; simp
def setL (l : List AV) : Nat → List AV → List AV
  | _, [] => l
  | j, x :: m => setL (l.set j x) (j + 1) m
theorem St.writes {a : Act} {S : Nat → Prop} {ρ : Rho} {id : Nat} : ∀ {m : List AV} {us : List Value} {w : World} {σ : Sig} {l : List AV} {j i : Nat} {ad : Addr}, St N w0 ρ S σ a w → σ.heap.lookup id = some (.cells l) → j + m.length ≤ l.length → RL ρ w S m us → (∀ u ∈ us, (∀ c, u ≠ .agg c) ∧ (∀ c, u ≠ .tuple c)) →
    ad.add i = ⟨(ρ id).1, j, none⟩ → ∃ w', (storeCells ad us i).run P w = .ok () w' ∧ ∃ σ', St N w0 ρ S σ' a w' ∧ σ'.env = σ.env ∧ ∀ k, σ'.heap.lookup k = ((id, AObj.cells (setL l j m)) :: σ.heap).lookup k
  | [], us, w, σ, l, j, i, ad, hs, ho, _, hr, _, _ => by
    rw [show us = [] from hr]
    refine ⟨w, by simp [storeCells, go_sem], σ, hs, rfl, fun k => ?_⟩
    simp only [List.lookup_cons, setL]
    by_cases e : k = id
    · subst e; simp [ho]
    · rw [show (k == id) = false by simpa using e]
  | x :: m, us, w, σ, l, j, i, ad, hs, ho, hlen, hr, hcell, had => by
    obtain ⟨u, us, rfl, h1, h2⟩ := hr
    simp only [List.length_cons] at hlen
    have hj : j < l.length := by omega
    have hw := hs.write (i := 0) (j := j) ho (by simp [AObj.n]) hj h1 (AObj.upd_cells l j x hj)
    obtain ⟨v, hv, _⟩ := hs.cell ho (i := 0) (j := j) (by simp [AObj.n]) hj
    obtain ⟨cs, e, g1, g2, g3, g4, g5, g6, g7⟩ := hs.mem.obj id _ ho (hs.mem.pos ho (i := 0) (by simp [AObj.n]))
    have hfr : w.frozen? ⟨(ρ id).1, j, none⟩ = false := by
      simp [World.frozen?, g1]
    simp only [Nat.zero_mul, Nat.zero_add] at hv hw
    have hsame : Same S w S (w.setCell ⟨(ρ id).1, j, none⟩ u) := ⟨fun _ h => h, fun b hb => Below.heap_setCell _ _ _ _ fun e => g6 (by have e' : b = (ρ id).1 := e; rw [← e']; exact hb)⟩
    have had2 : ad.add (i + 1) = ⟨(ρ id).1, j + 1, none⟩ := by
      rw [← add_add, had]; rfl
    obtain ⟨w', hrun, σ', hs', he, hh⟩ := St.writes (i := i + 1) (ad := ad) (l := l.set j x) (j := j + 1) (m := m) (us := us) hw (by simp [Sig.set]) (by simp; omega) (h2.keep hsame (Rn.refl _ _)) (fun u hu => hcell u (List.mem_cons_of_mem _ hu)) had2
    refine ⟨w', ?_, σ', hs', he, fun k => ?_⟩
    · obtain ⟨c1, c2⟩ := hcell u (List.mem_cons_self ..)
      rw [← hrun]
      simp only [storeCells, store, Sem.run_bind, had]
      cases u <;> first | exact absurd rfl (c1 _) | exact absurd rfl (c2 _) | simp [Sem.run, hv, hfr, Result.andThen]
    · rw [hh k, setL]
      simp only [List.lookup_cons, Sig.set]
      cases k == id <;> rfl
end
section
variable {P : Program} {N : Nat} {w0 : Start} {σ : Sig} {ops : Array Oper} {rest : List Oper} {o : Oper} {Q : Sig → Prop}
def sizeB (P : Program) (t n : Nat) : Bool := match P.info? t with | some i => i.size == n | none => false
theorem sizeB_run {t n : Nat} (h : sizeB P t n = true) (w : World) : (sizeOf t).run P w = .ok n w := by
  unfold sizeB at h
  split at h
  · rename_i i hi
    rw [run_sizeOf' hi]; simp at h; rw [h]
  · cases h
theorem SV.Cells.each {ρ : Rho} {w : World} {S : Nat → Prop} {s : SV} {v : Value} (h : s.Cells) (hr : RS ρ w S s v) : ∀ u ∈ v.cells.toList, (∀ c, u ≠ .agg c) ∧ (∀ c, u ≠ .tuple c) := by
  have hl := h.rl hr
  have hc : ∀ x ∈ s.cs, x.Cell := by
    cases s with
    | one x => intro y hy; rw [List.mem_singleton.1 hy]; exact h
    | agg l => exact h
    | tup2 _ _ => exact h.elim
    | tup3 _ _ _ => exact h.elim
    | tup4 _ _ _ _ => exact h.elim
    | gd _ _ => exact h.elim
  intro u hu
  obtain ⟨j, hj, rfl⟩ := List.mem_iff_getElem.1 hu
  have hj' : j < s.cs.length := by rw [← hl.len]; exact hj
  obtain ⟨u', hu', hr'⟩ := hl.get (List.getElem?_eq_getElem hj')
  rw [List.getElem?_eq_getElem hj] at hu'
  obtain rfl := Option.some.inj hu'
  exact ((hc _ (List.getElem_mem hj')).cells hr').2
theorem ARun.store {t id sz j : Nat} {p x : Operand} {s : SV} {l : List AV} (ho : o.op = .store t p x) (hp : Kn σ p (.one (.ptr id sz 0 j))) (hx : Kn σ x s) (hc : s.Cells) (hob : σ.heap.lookup id = some (.cells l)) (hlen : j + s.cs.length ≤ l.length) (hsz : sizeB P t s.cs.length = true)
    (hg : o.guard = none) (hd : o.dst = none) (h : ARun P N w0 ops Q rest (σ.set id (.cells (setL l j s.cs)))) : ARun P N w0 ops Q (o :: rest) σ := by
  intro ρ S a w Q' hQ hs
  refine wpList_plain hg fun K hK => ?_
  have e1 : a.eval p = .pointer (some ⟨(ρ id).1, 0 * sz + j, none⟩) := hp.sound hs
  have hrs := hx.sound hs
  have hl := hc.rl hrs
  obtain ⟨w', hrun, σ', hs', he, hh⟩ := hs.writes (P := P) (i := 0) (ad := ⟨(ρ id).1, 0 * sz + j, none⟩) hob hlen hl (hc.each hrs) (by simp [Addr.add])
  have hvs : (a.eval x).cells.size = s.cs.length := by have := hl.len; simpa using this
  have hr2 : (execOp a.eval o).run P w = .ok .skip w' := by
    generalize a.eval = ev at e1 hrun hvs
    simp only [execOp, ho, e1, Instr.storeAt, Instr.sureAddr, storeVar, Sem.run_bind, Sem.run_pure, Result.andThen_ok, sizeB_run hsz, hvs, ne_eq, not_true, if_false, hrun]
  unfold Oper.wp
  rw [hr2]
  simp only [Oper.upon, hd, Act.put]
  refine hK _ _ (h ρ S _ _ Q' hQ ⟨hs'.size, hs'.defers, hs'.below, ?_, fun t s ht => hs'.env t s (by rw [he]; exact ht)⟩)
  have hm := hs'.mem
  have hget : ∀ k p, (σ.set id (AObj.cells (setL l j s.cs))).heap.lookup k = some p → σ'.heap.lookup k = some p := fun k p hk => by rw [hh k]; exact hk
  exact ⟨hm.base, hm.low, hm.lt, fun k p hk => hm.cap k p (hget k p hk), fun k p hk => hm.obj k p (hget k p hk), fun k k' p p' hk hk' => hm.inj k k' p p' (hget k p hk) (hget k' p' hk'), hm.treeOf (Nat.le_refl _) (fun k n X hX => ⟨X, hget k _ hX, fun _ _ => rfl, rfl, rfl, rfl⟩) (fun k n X i b hX hi hb => ⟨rfl, (((hm.tree k n X hX i hi).2) b hb).2.1, (((hm.tree k n X hX i hi).2) b hb).2.2.1⟩) (fun k p hk _ => .inl ⟨p, hget k p hk, rfl⟩)⟩
theorem ARun.storeArr {t id sz n i j : Nat} {p x : Operand} {y : AV} {f : Nat → Nat → AV} (ho : o.op = .store t p x) (hp : Kn σ p (.one (.ptr id sz i j))) (hx : Kn σ x (.one y)) (hc : y.Cell) (hob : σ.heap.lookup id = some (.arr sz n f)) (hi : i < n) (hj : j < sz) (hsz : sizeB P t 1 = true)
    (hg : o.guard = none) (hd : o.dst = none) (h : ARun P N w0 ops Q rest (σ.set id (.arr sz n fun a b => if a = i ∧ b = j then y else f a b))) : ARun P N w0 ops Q (o :: rest) σ := by
  intro ρ S a w Q' hQ hs
  refine wpList_plain hg fun K hK => ?_
  have e1 : a.eval p = .pointer (some ⟨(ρ id).1, i * sz + j, none⟩) := hp.sound hs
  have hrs : R ρ w S y (a.eval x) := hx.sound hs
  obtain ⟨c0, c1, c2⟩ := hc.cells hrs
  have hs' := hs.write (i := i) (j := j) hob hi hj hrs (AObj.upd_arr sz n f i j y)
  obtain ⟨v, hv, _⟩ := hs.cell hob (i := i) (j := j) hi hj
  obtain ⟨cs, e, g1, _⟩ := hs.mem.obj id _ hob (hs.mem.pos hob (i := i) hi)
  have hfr : w.frozen? ⟨(ρ id).1, i * sz + j, none⟩ = false := by simp [World.frozen?, g1]
  have hv' : w.cell? ⟨(ρ id).1, i * sz + j, none⟩ = some v := hv
  have hr2 : (execOp a.eval o).run P w = .ok .skip (w.setCell ⟨(ρ id).1, i * sz + j, none⟩ (a.eval x)) := by
    generalize a.eval = ev at e1 c0 c1 c2 ⊢
    simp only [execOp, ho, e1, Instr.storeAt, Instr.sureAddr, storeVar, Sem.run_bind, Sem.run_pure, Result.andThen_ok, sizeB_run hsz, c0]
    generalize ev x = u at c0 c1 c2 ⊢
    simp only [storeCells, Go.store, Sem.run_bind, Addr.add]
    cases u <;> first | exact absurd rfl (c1 _) | exact absurd rfl (c2 _) | simp [Sem.run, hv', hfr, Result.andThen]
  unfold Oper.wp
  rw [hr2]
  simp only [Oper.upon, hd, Act.put]
  exact hK _ _ (h ρ S _ _ Q' hQ hs')
end
end Go.Proofs.Ytonfeiloekofdaa

namespace Go.Proofs.Ytonfeiloekofdaa
open Go.ChangeShapes Go.WideShapes Go.ChangeAt Go.RowKit Go.BigFrame Go.Deep
set_option linter.unusedVariables false
theorem and_mk {a b : Bool} (h : a = true) (k : b = true) : (a && b) = true := by rw [h, k]; rfl
theorem not_of {a : Bool} (h : a = false) : (!a) = true := by rw [h]; rfl
theorem of_not {a : Bool} (h : (!a) = true) : a = false := by cases a <;> simp_all
section
variable {P : Program} {σ : Sig} {N : Nat} {w0 : Start} {Q : Exit → Sig → Prop}
theorem resB {t : Nat} {x r : Bool} (h : σ.env.lookup t = some (.one (.bool x))) (e : x = r) : ResL P σ [.tmp t] (.one (.bool r)) := by subst e; exact .inl ⟨_, rfl, .tmp h⟩
theorem resI {t : Nat} {k : IntKind} {x r : Int} (h : σ.env.lookup t = some (.one (.int k x))) (e : x = r) : ResL P σ [.tmp t] (.one (.int k r)) := by subst e; exact .inl ⟨_, rfl, .tmp h⟩
theorem resS {t : Nat} {x r : ByteArray} (h : σ.env.lookup t = some (.one (.str x))) (e : x = r) : ResL P σ [.tmp t] (.one (.str r)) := by subst e; exact .inl ⟨_, rfl, .tmp h⟩
theorem res2S {t t' : Nat} {x r : ByteArray} {y q : Bool} (h : σ.env.lookup t = some (.one (.str x))) (h' : σ.env.lookup t' = some (.one (.bool y))) (e : x = r ∧ y = q) : ResL P σ [.tmp t, .tmp t'] (.tup2 (.one (.str r)) (.one (.bool q))) := by
  obtain ⟨rfl, rfl⟩ := e; exact .inr (.inl ⟨_, _, _, _, rfl, .tmp h, .tmp h', rfl⟩)
theorem AW.bound {t sz n : Nat} {f : Nat → Nat → AV} {c : Code} (h : σ.env.lookup t = some (.one (.lst sz n f))) (k : n ≤ 9223372036854775807 → AW P N w0 c Q σ) : AW P N w0 c Q σ := by
  intro ρ S a w Q' hQ hs
  obtain ⟨A, c', _, h1, h2, _⟩ := hs.env _ _ h
  exact k (by unfold maxLen at h2; omega) ρ S a w Q' hQ hs
theorem AW.boundS {t : Nat} {s : ByteArray} {c : Code} (h : σ.env.lookup t = some (.one (.str s))) (k : s.size ≤ 9223372036854775807 → AW P N w0 c Q σ) : AW P N w0 c Q σ := by
  intro ρ S a w Q' hQ hs
  obtain ⟨_, h2⟩ := hs.env _ _ h
  exact k (by unfold maxLen at h2; omega) ρ S a w Q' hQ hs
end
abbrev iList (l : List Int) : AV := .lst 1 l.length fun i _ => .int .i64 (l.getD i 0)
abbrev bList (l : List Bool) : AV := .lst 1 l.length fun i _ => .bool (l.getD i false)
abbrev sList (l : List ByteArray) : AV := .lst 1 l.length fun i _ => .str (l.getD i ByteArray.empty)
abbrev iLists (l : List (List Int)) : AV := .lst 1 l.length fun i _ => iList (l.getD i [])
abbrev bLists (l : List (List Bool)) : AV := .lst 1 l.length fun i _ => bList (l.getD i [])
abbrev sLists (l : List (List ByteArray)) : AV := .lst 1 l.length fun i _ => sList (l.getD i [])
abbrev i64 (n : Int) : SV := .one (.int .i64 n)
abbrev bo (b : Bool) : SV := .one (.bool b)
def inB (lo hi n : Int) : Bool := decide (lo ≤ n ∧ n ≤ hi)
theorem inB_cond (lo hi n : Int) : (cond (decide (lo ≤ n)) (decide (n ≤ hi)) false) = inB lo hi n := by
  unfold inB
  by_cases h : lo ≤ n <;> simp [h]
theorem inB_true {lo hi n : Int} (h : inB lo hi n = true) : lo ≤ n ∧ n ≤ hi := by simpa [inB] using h
theorem inB_false {lo hi n : Int} (h : inB lo hi n = false) : ¬ (lo ≤ n ∧ n ≤ hi) := by
  intro h'
  have : inB lo hi n = true := by simp only [inB, decide_eq_true_eq]; exact h'
  rw [h] at this; cases this
def allIn' (lo hi : Int) (l : List Int) : Bool := l.all fun n => inB lo hi n
theorem not_f {a : Bool} (h : (!a) = false) : a = true := by cases a <;> simp_all
def CellsL : List AV → Prop
  | [] => True
  | x :: l => x.Cell ∧ CellsL l
theorem SV.cells_of : ∀ {l : List AV}, CellsL l → (SV.agg l).Cells
  | [], _ => fun x hx => by cases hx
  | y :: l, ⟨h1, h2⟩ => fun x hx => by
    rcases List.mem_cons.1 hx with rfl | hx
    · exact h1
    · exact SV.cells_of h2 x hx
end Go.Proofs.Ytonfeiloekofdaa

namespace Go.Proofs.Ytonfeiloekofdaa
open Go.ChangeShapes Go.WideShapes Go.ChangeAt Go.RowKit Go.BigFrame Go.Deep
set_option linter.unusedVariables false
set_option linter.unusedSimpArgs false
def DR (w : World) (S : Nat → Prop) : SV → Value → Prop
  | .one x, v => D w S x v
  | .agg l, v => ∃ us : Array Value, v = .agg us ∧ DL w S l us.toList
  | .tup2 x y, v => ∃ a b, v = .tuple #[a, b] ∧ DR w S x a ∧ DR w S y b
  | .tup3 x y z, v => ∃ a b c, v = .tuple #[a, b, c] ∧ DR w S x a ∧ DR w S y b ∧ DR w S z c
  | .tup4 x y z u, v => ∃ a b c d, v = .tuple #[a, b, c, d] ∧ DR w S x a ∧ DR w S y b ∧ DR w S z c ∧ DR w S u d
  | .gd _ _, _ => False
def newS (w w' : World) (b : Nat) : Prop := w.heap.size ≤ b ∧ b < w'.heap.size
def FnF (P : Program) (f : FuncId) (args : List SV) (r : SV) : Prop :=
  ∀ (w : World) (S : Nat → Prop) (vs : List Value), Rd S w → DSs w S args vs → Calls P f vs.toArray w fun e w' => ∃ v, e = .returned v ∧ DR w' (newS w w') r v ∧ Below w.heap.size w w'
def AV.fr : AV → AV
  | .lst sz n f => .frs (.lst sz n f)
  | .ref sz f => .frs (.ref sz f)
  | x => x
def SV.fr : SV → SV
  | .one x => .one x.fr
  | .agg l => .agg (l.map AV.fr)
  | .tup2 x y => .tup2 x.fr y.fr
  | .tup3 x y z => .tup3 x.fr y.fr z.fr
  | .tup4 x y z u => .tup4 x.fr y.fr z.fr u.fr
  | s => s
theorem D.fr {ρ : Rho} {w : World} {S S' : Nat → Prop} {x : AV} {v : Value} (h : D w S' x v) (hs : ∀ b, S' b → freshS ρ S b) : R ρ w S x.fr v := by
  cases x with
  | lst sz n f => exact D.more h hs
  | ref sz f => exact D.more h hs
  | ptr _ _ _ _ => exact h.elim
  | own _ _ _ => exact h.elim
  | frs _ => exact h.elim
  | tre _ _ => exact h.elim
  | tl _ _ _ _ => exact h.elim
  | cv _ _ => exact h.elim
  | fn g m caps => exact (D.more h fun b hb => (hs b hb).1).toR
  | _ => exact h
theorem DL.fr {ρ : Rho} {w : World} {S S' : Nat → Prop} (hs : ∀ b, S' b → freshS ρ S b) : ∀ {l : List AV} {us : List Value}, DL w S' l us → RL ρ w S (l.map AV.fr) us
  | [], _, h => h
  | _ :: _, _, ⟨u, us, e, h1, h2⟩ => ⟨u, us, e, h1.fr hs, DL.fr hs h2⟩
theorem DR.fr {ρ : Rho} {w : World} {S S' : Nat → Prop} (hs : ∀ b, S' b → freshS ρ S b) : ∀ {s : SV} {v : Value}, DR w S' s v → RS ρ w S s.fr v
  | .one _, _, h => D.fr h hs
  | .agg _, _, ⟨us, e, h⟩ => ⟨us, e, h.fr hs⟩
  | .tup2 _ _, _, ⟨a, b, e, h1, h2⟩ => ⟨a, b, e, DR.fr hs h1, DR.fr hs h2⟩
  | .tup3 _ _ _, _, ⟨a, b, c, e, h1, h2, h3⟩ => ⟨a, b, c, e, DR.fr hs h1, DR.fr hs h2, DR.fr hs h3⟩
  | .tup4 _ _ _ _, _, ⟨a, b, c, d, e, h1, h2, h3, h4⟩ => ⟨a, b, c, d, e, DR.fr hs h1, DR.fr hs h2, DR.fr hs h3, DR.fr hs h4⟩
  | .gd _ _, _, h => h.elim
section
variable {P : Program} {N : Nat} {w0 : Start} {σ : Sig}
def growS (S : Nat → Prop) (w w' : World) (b : Nat) : Prop := S b ∨ newS w w' b
theorem St.grow {ρ : Rho} {S : Nat → Prop} {a : Act} {w w' : World} (hs : St N w0 ρ S σ a w) (hb : Below w.heap.size w w') : Same S w (growS S w w') w' ∧ St N w0 ρ (growS S w w') σ a w' := by
  have hsame : Same S w (growS S w w') w' := ⟨fun b h => .inl h, fun b h => hb.block b (hs.mem.lt b h)⟩
  refine ⟨hsame, hs.size, hs.defers, hs.below.step (hb.mono hs.mem.low) hsame, ⟨hs.mem.base, Nat.le_trans hs.mem.low hb.size, ?_, hs.mem.cap, ?_, hs.mem.inj, ?_⟩, fun t s ht => (hs.env t s ht).keep hsame (Rn.refl _ _)⟩
  · rintro b (h | h)
    · exact Nat.lt_of_lt_of_le (hs.mem.lt b h) hb.size
    · exact h.2
  · intro id o ho hc
    have hlt := hs.mem.blk ho hc
    obtain ⟨cs, e, h1, h2, h3, h4, h5, h6, h7⟩ := hs.mem.obj id o ho hc
    refine ⟨cs, e, by rw [hb.block _ hlt]; exact h1, h2, h3, h4, h5, ?_, fun i j hi hj => ?_⟩
    · rintro (h | h)
      · exact h6 h
      · exact absurd h.1 (by omega)
    · obtain ⟨u, hu, hr⟩ := h7 i j hi hj
      exact ⟨u, hu, hr.keep hsame (Rn.refl _ _)⟩
  · refine hs.mem.treeOf (Nat.le_refl _) (fun k n X hX => ⟨X, hX, fun _ _ => rfl, rfl, rfl, rfl⟩) (fun k n X i b hX hi hb' => ?_) (fun k p hp hc => .inl ⟨p, hp, rfl⟩)
    obtain ⟨q1, q2, q3, _⟩ := (hs.mem.tree k n X hX i hi).2 b hb'
    refine ⟨hb.block b q2, Nat.lt_of_lt_of_le q2 hb.size, ?_⟩
    rintro (h | h)
    · exact q3 h
    · exact absurd h.1 (by omega)
structure FreshOp (P : Program) (o : Oper) (σ : Sig) (s : SV) : Prop where
  run : ∀ (N : Nat) (w0 : Start) (ρ : Rho) (S : Nat → Prop) (a : Act) (w : World) (K : Act → World → Prop) (Q' : Exit → Act → World → Prop), St N w0 ρ S σ a w →
    (∀ v S' w', Same S w S' w' → Below w.heap.size w w' → (∀ b, S' b → S b ∨ w.heap.size ≤ b) → St N w0 ρ S' σ a w' → RS ρ w' S' s v → K (a.put o.dst v) w') → o.wp P a w K Q'
theorem PureOp.fresh {o : Oper} {s : SV} (h : PureOp P o σ s) : FreshOp P o σ s := by
  constructor
  intro N w0 ρ S a w K Q' hs hK
  obtain ⟨v, hv, hq⟩ := h N w0 ρ S a w hs
  refine Oper.wp_of_quiet (C := fun w'' => Below w.heap.size w w'') (K := fun a' => a' = a.put o.dst v) (Below.refl _ _) (fun a' w' hw ha => ?_) ⟨v, hq, rfl⟩
  subst ha
  exact hK v S w' (hs.mem.same hw) hw (fun b h => .inl h) (hs.world hw) (hv.keep (hs.mem.same hw) (Rn.refl _ _))
theorem FreshOp.call {o : Oper} {f : FuncId} {xs : List Operand} {ts : Array TypeId} {args : List SV} {r : SV} (ho : o.op = .call { callee := .value (.func f), args := xs.toArray, argTypes := ts })
    (hF : FnF P f args r) (hk : KnA σ xs args) (hB : callB P f = true) : FreshOp P o σ r.fr := by
  constructor
  intro N w0 ρ S a w K Q' hs hK
  have h2 := hF w _ _ ⟨withOwn_lt hs, hs.pre⟩ (KnA.sound hs hk)
  have e : (execOp a.eval o).run P w = .ok (.enter f (xs.map a.eval).toArray) w := by
    have := execCall (P := P) (ev := a.eval) (caps := #[]) ho rfl hB w
    simpa using this
  unfold Oper.wp
  rw [e]
  refine Calls.mono h2 fun e w' ⟨v, he, hd, hb⟩ => ?_
  subst he
  obtain ⟨g1, g2⟩ := hs.grow hb
  have hlow := hs.mem.low
  have hbase := hs.mem.base
  exact hK v _ w' g1 hb (fun b h => h.imp (fun h => h) (fun h => h.1)) g2 (hd.fr fun b hb' => ⟨.inr hb', by have := hb'.1; omega⟩)
theorem FreshOp.callS {o : Oper} {f : FuncId} {xs : List Operand} {ts : Array TypeId} {args : List SV} {r s : SV} (ho : o.op = .call { callee := .value (.func f), args := xs.toArray, argTypes := ts })
    (hF : FnF P f args r) (hk : KnA σ xs args) (hB : callB P f = true) (hs : r.fr = s) : FreshOp P o σ s := by
  subst hs; exact FreshOp.call ho hF hk hB
variable {ops : Array Oper} {rest : List Oper} {o : Oper} {Q : Sig → Prop}
theorem ARun.fresh {s : SV} {d : Nat} (hp : FreshOp P o σ s) (hg : o.guard = none) (hd : o.dst = some d) (hN : d < N) (h : ARun P N w0 ops Q rest (σ.put d s)) : ARun P N w0 ops Q (o :: rest) σ := by
  intro ρ S a w Q' hQ hs
  refine wpList_plain hg fun K hK => ?_
  refine hp.run N w0 ρ S a w K Q' hs fun v S' w' _ _ _ hs' hv => ?_
  rw [hd]
  exact hK _ _ (h ρ S' _ w' Q' hQ (hs'.put hN hv))
structure OpStep (P : Program) (ops : Array Oper) (o : Oper) (σ : Sig) (s : SV) : Prop where
  run : ∀ (N : Nat) (w0 : Start) (ρ : Rho) (S : Nat → Prop) (a : Act) (w : World) (K : Act → World → Prop) (Q' : Exit → Act → World → Prop), St N w0 ρ S σ a w →
    (∀ v S' w', Same S w S' w' → Below w.heap.size w w' → (∀ b, S' b → S b ∨ w.heap.size ≤ b) → St N w0 ρ S' σ a w' → RS ρ w' S' s v → K (a.put o.dst v) w') → if Region.wanted o (yielded ops a.tmps) then o.wp P a w K Q' else K (a.put o.dst undef) w
theorem FreshOp.step {s : SV} (h : FreshOp P o σ s) (hg : o.guard = none) : OpStep P ops o σ s := by
  constructor
  intro N w0 ρ S a w K Q' hs hK
  rw [if_pos (by simp [Region.wanted, hg])]
  exact h.run N w0 ρ S a w K Q' hs hK
theorem FreshOp.gstep {s : SV} {g t : Nat} {want c : Bool} (hgate : Gate σ t want c) (hp : c = true → FreshOp P o σ s) (hg : o.guard = some (g, want)) (hgd : (ops[g]?).bind (·.dst) = some t) (hlk : ∀ (N : Nat) (w0 : Start) (ρ : Rho) (S : Nat → Prop) (a : Act) (w : World), St N w0 ρ S σ a w → t < N ∨ N ≤ t) : OpStep P ops o σ (.gd c s) := by
  constructor
  intro N w0 ρ S a w K Q' hs hK
  by_cases ht : t < N
  · have hw := hgate.sound (ops := ops) hs ht hg hgd
    cases c with
    | true =>
      rw [if_pos hw]
      exact (hp rfl).run N w0 ρ S a w K Q' hs fun v S' w' h1 h2 h0 h3 h4 => hK v S' w' h1 h2 h0 h3 ⟨fun _ => h4, (fun e => by cases e)⟩
    | false =>
      rw [if_neg (by rw [hw]; simp)]
      exact hK _ S w ⟨fun _ h => h, fun _ _ => rfl⟩ (Below.refl _ _) (fun b h => .inl h) hs ⟨(fun e => by cases e), fun _ => rfl⟩
  · -- the guard's slot lies outside: it reads as nothing
    have hnone : a.tmps[t]? = none := Array.getElem?_eq_none (by rw [hs.size]; omega)
    have hund : a.tmps.getD t undef = undef := by rw [Array.getD_eq_getD_getElem?, hnone]; rfl
    have hy : yielded ops a.tmps g = none := by unfold yielded; rw [hgd]; simp [hnone]
    have hw : Region.wanted o (yielded ops a.tmps) = false := by unfold Region.wanted; rw [hg]; simp [hy]
    have hcf : c = false := by
      have hu : ∀ b, undef ≠ Value.bool b := fun b e => by cases e
      cases hgate with
      | tt h => have := hs.env _ _ h; rw [hund] at this; exact absurd this (hu _)
      | tf h => have := hs.env _ _ h; rw [hund] at this; exact absurd this (hu _)
      | @gt b x h =>
        obtain ⟨h1, _⟩ := hs.env _ _ h
        cases b with
        | true => have := h1 rfl; rw [hund] at this; exact absurd this (hu _)
        | false => rfl
      | @gf b x h =>
        obtain ⟨h1, _⟩ := hs.env _ _ h
        cases b with
        | true => have := h1 rfl; rw [hund] at this; exact absurd this (hu _)
        | false => rfl
    subst hcf
    rw [if_neg (by rw [hw]; simp)]
    exact hK _ S w ⟨fun _ h => h, fun _ _ => rfl⟩ (Below.refl _ _) (fun b h => .inl h) hs ⟨(fun e => by cases e), fun _ => rfl⟩
def Sig.only (σ : Sig) (L : List Nat) : Sig := ⟨σ.env.filter fun p => L.contains p.1, σ.heap⟩
theorem lookup_filter {α : Type} {L : List Nat} {t : Nat} : ∀ {e : List (Nat × α)} {s : α}, (e.filter fun p => L.contains p.1).lookup t = some s → t ∈ L ∧ e.lookup t = some s
  | [], _, h => by simp at h
  | (k, v) :: e, s, h => by
    by_cases hk : L.contains k
    · rw [List.filter_cons_of_pos (by simpa using hk)] at h
      rcases lookup_put h with ⟨rfl, rfl⟩ | ⟨hne, h⟩
      · exact ⟨by simpa using hk, by simp⟩
      · obtain ⟨h1, h2⟩ := lookup_filter h
        refine ⟨h1, ?_⟩
        rw [List.lookup_cons, show (t == k) = false by simpa using hne]
        exact h2
    · rw [List.filter_cons_of_neg (by simpa using hk)] at h
      obtain ⟨h1, h2⟩ := lookup_filter h
      refine ⟨h1, ?_⟩
      have hne : t ≠ k := fun e => by subst e; exact hk (by simpa using h1)
      rw [List.lookup_cons, show (t == k) = false by simpa using hne]
      exact h2
inductive ADs (P : Program) (N : Nat) (ops : Array Oper) : List Oper → Sig → Sig → Prop
  | nil {σ : Sig} : ADs P N ops [] σ σ
  | cons {o : Oper} {rest : List Oper} {σ τ : Sig} {d : Nat} {s : SV} : o.dst = some d → d < N → OpStep P ops o (σ.only (o.looksAt ops)) s → ADs P N ops rest (σ.put d s) τ → ADs P N ops (o :: rest) σ τ
def AD (P : Program) (N : Nat) (ops : Array Oper) (Q : Sig → Prop) (l : List Oper) (σ : Sig) : Prop := ∃ τ, ADs P N ops l σ τ ∧ Q τ
theorem AD.nil (h : Q σ) : AD P N ops Q [] σ := ⟨σ, .nil, h⟩
theorem AD.pure {s : SV} {d : Nat} (hp : PureOp P o (σ.only (o.looksAt ops)) s) (hg : o.guard = none) (hd : o.dst = some d) (hN : d < N) (h : AD P N ops Q rest (σ.put d s)) : AD P N ops Q (o :: rest) σ :=
  let ⟨τ, h1, h2⟩ := h
  ⟨τ, .cons hd hN (hp.fresh.step hg) h1, h2⟩
theorem AD.fresh {s : SV} {d : Nat} (hp : FreshOp P o (σ.only (o.looksAt ops)) s) (hg : o.guard = none) (hd : o.dst = some d) (hN : d < N) (h : AD P N ops Q rest (σ.put d s)) : AD P N ops Q (o :: rest) σ :=
  let ⟨τ, h1, h2⟩ := h
  ⟨τ, .cons hd hN (hp.step hg) h1, h2⟩
theorem AD.gpure {s : SV} {d g t : Nat} {want c : Bool} (hgate : Gate (σ.only (o.looksAt ops)) t want c) (hp : c = true → PureOp P o (σ.only (o.looksAt ops)) s) (hg : o.guard = some (g, want)) (hgd : (ops[g]?).bind (·.dst) = some t) (hd : o.dst = some d) (hN : d < N)
    (h : AD P N ops Q rest (σ.put d (.gd c s))) : AD P N ops Q (o :: rest) σ :=
  let ⟨τ, h1, h2⟩ := h
  ⟨τ, .cons hd hN (FreshOp.gstep hgate (fun hc => (hp hc).fresh) hg hgd fun N _ _ _ _ _ _ => by omega) h1, h2⟩
def ordB (md : Region.Mode) (ops : Array Oper) : Bool :=
  (List.range ops.size).all fun i => match ops[i]? with
    | none => true
    | some oi => (oi.after.all fun e => !Region.binds md e || decide (e.on < i)) &&
      (List.range ops.size).all fun j => match ops[j]? with
        | none => true
        | some oj => (i == j || oi.dst != oj.dst || oj.dst == none) && (match oj.dst with
          | none => true
          | some d => !(oi.looksAt ops).contains d || i == j || (if j < i then oi.after.any (fun e => Region.binds md e && e.on == j) else oj.after.any (fun e => Region.binds md e && e.on == i)))
end
end Go.Proofs.Ytonfeiloekofdaa

namespace Go.Proofs.Ytonfeiloekofdaa
open Go.ChangeShapes Go.WideShapes Go.ChangeAt Go.RowKit Go.BigFrame Go.Deep
set_option linter.unusedVariables false
set_option linter.unusedSimpArgs false
theorem ordB_after {md : Region.Mode} {ops : Array Oper} (h : ordB md ops = true) {i : Nat} {o : Oper} (hi : ops[i]? = some o) : ∀ e ∈ o.after, Region.binds md e = true → e.on < i := by
  have hlt : i < ops.size := (Array.getElem?_eq_some_iff.1 hi).1
  have h1 := List.all_eq_true.1 h i (List.mem_range.2 hlt)
  simp only [hi, Bool.and_eq_true] at h1
  intro e he hb
  have := Array.all_eq_true_iff_forall_mem.1 h1.1 e he
  rw [hb] at this
  simpa using this
theorem ordB_pair {md : Region.Mode} {ops : Array Oper} (h : ordB md ops = true) {i j : Nat} {oi oj : Oper} (hi : ops[i]? = some oi) (hj : ops[j]? = some oj) :
    (i ≠ j → oj.dst ≠ none → oi.dst ≠ oj.dst) ∧ ∀ d, oj.dst = some d → d ∈ oi.looksAt ops → i = j ∨ (j < i ∧ ∃ e ∈ oi.after, Region.binds md e = true ∧ e.on = j) ∨ (¬ j < i ∧ ∃ e ∈ oj.after, Region.binds md e = true ∧ e.on = i) := by
  have hlt : i < ops.size := (Array.getElem?_eq_some_iff.1 hi).1
  have hlt2 : j < ops.size := (Array.getElem?_eq_some_iff.1 hj).1
  have h1 := List.all_eq_true.1 h i (List.mem_range.2 hlt)
  simp only [hi, Bool.and_eq_true] at h1
  have h2 := List.all_eq_true.1 h1.2 j (List.mem_range.2 hlt2)
  simp only [hj, Bool.and_eq_true] at h2
  obtain ⟨h3, h4⟩ := h2
  refine ⟨fun hne hn e => ?_, fun d hd hm => ?_⟩
  · simp [hne, e] at h3; exact hn h3
  · simp only [hd] at h4
    by_cases hij : i = j
    · exact .inl hij
    · right
      have hc : (oi.looksAt ops).contains d = true := by simpa using hm
      rw [hc] at h4
      simp only [Bool.not_true, Bool.false_or, show (i == j) = false by simpa using hij] at h4
      by_cases hlt : j < i
      · left
        rw [if_pos hlt] at h4
        obtain ⟨e, he, hb⟩ := Array.any_eq_true'.1 h4
        rw [Bool.and_eq_true, beq_iff_eq] at hb
        exact ⟨hlt, e, he, hb.1, hb.2⟩
      · right
        rw [if_neg hlt] at h4
        obtain ⟨e, he, hb⟩ := Array.any_eq_true'.1 h4
        rw [Bool.and_eq_true, beq_iff_eq] at hb
        exact ⟨hlt, e, he, hb.1, hb.2⟩
section
variable {P : Program} {N : Nat} {w0 : Start} {ops : Array Oper} {md : Region.Mode}
theorem ADs.lay {l : List Oper} {σ τ : Sig} (h : ADs P N ops l σ τ) : ∃ (d : Nat → Nat) (s : Nat → SV) (e : Nat → Env), e 0 = σ.env ∧ τ = ⟨e l.length, σ.heap⟩ ∧
    ∀ k o, l[k]? = some o → o.dst = some (d k) ∧ d k < N ∧ e (k + 1) = (d k, s k) :: e k ∧ OpStep P ops o (Sig.only ⟨e k, σ.heap⟩ (o.looksAt ops)) (s k) := by
  induction h with
  | @nil σ => exact ⟨fun _ => 0, fun _ => .one (.con undef), fun _ => σ.env, rfl, rfl, fun k o hk => by simp at hk⟩
  | @cons o rest σ τ d0 s0 hd hN hs _ ih =>
    obtain ⟨d, s, e, h1, h2, h3⟩ := ih
    refine ⟨fun k => if k = 0 then d0 else d (k - 1), fun k => if k = 0 then s0 else s (k - 1), fun k => if k = 0 then σ.env else e (k - 1), rfl, ?_, fun k o' hk => ?_⟩
    · rw [h2]; simp [Sig.put]
    · cases k with
      | zero =>
        simp at hk
        subst hk
        refine ⟨by simpa using hd, by simpa using hN, by simp [h1, Sig.put], by simpa using hs⟩
      | succ k =>
        obtain ⟨g1, g2, g3, g4⟩ := h3 k o' (by simpa using hk)
        refine ⟨by simpa using g1, by simpa using g2, by simpa using g3, by simpa [Sig.put] using g4⟩
theorem lay_get {d : Nat → Nat} {s : Nat → SV} {e : Nat → Env} {n : Nat} (he : ∀ k, k < n → e (k + 1) = (d k, s k) :: e k) (hinj : ∀ i j, i < n → j < n → i ≠ j → d i ≠ d j) :
    ∀ k, k ≤ n → ∀ t x, (e k).lookup t = some x → (∃ j, j < k ∧ d j = t ∧ x = s j) ∨ ((∀ j, j < k → d j ≠ t) ∧ (e 0).lookup t = some x) := by
  intro k
  induction k with
  | zero => intro _ t x h; exact .inr ⟨fun j hj => absurd hj (by omega), h⟩
  | succ k ih =>
    intro hk t x h
    rw [he k (by omega)] at h
    rcases lookup_put h with ⟨rfl, rfl⟩ | ⟨hne, h⟩
    · exact .inl ⟨k, by omega, rfl, rfl⟩
    · rcases ih (by omega) t x h with ⟨j, hj, h1, h2⟩ | ⟨h1, h2⟩
      · exact .inl ⟨j, by omega, h1, h2⟩
      · refine .inr ⟨fun j hj => ?_, h2⟩
        by_cases hjk : j = k
        · subst hjk; exact fun e => hne e.symm
        · exact h1 j (by omega)
def unl (listed : Array Bool) : Nat → Nat
  | 0 => 0
  | k + 1 => unl listed k + (if listed.getD k true then 0 else 1)
theorem unl_set {listed : Array Bool} {i : Nat} (hi : listed.getD i true = false) : ∀ k, unl (listed.setIfInBounds i true) k + (if i < k then 1 else 0) = unl listed k
  | 0 => rfl
  | k + 1 => by
    have ih := unl_set hi k
    have hb : i < listed.size := by
      apply Classical.byContradiction
      intro hb
      rw [Array.getD_eq_getD_getElem?, Array.getElem?_eq_none (by omega)] at hi
      cases hi
    have h1 : (listed.setIfInBounds i true).getD i true = true := by simp [hb]
    simp only [unl]
    by_cases hik : i = k
    · subst hik
      simp only [Nat.lt_irrefl, if_false, Nat.add_zero] at ih
      rw [h1, hi, ih]
      simp
    · rw [getD_set_ne true hik]
      by_cases hlt : i < k
      · have h2 : i < k + 1 := by omega
        simp only [hlt, h2, if_true] at ih ⊢
        omega
      · have h2 : ¬ i < k + 1 := by omega
        simp only [hlt, h2, if_false] at ih ⊢
        omega
theorem unl_zero {listed : Array Bool} : ∀ k, unl listed k = 0 → ∀ j, j < k → listed.getD j true = true
  | 0, _, j, hj => absurd hj (by omega)
  | k + 1, h, j, hj => by
    simp only [unl] at h
    by_cases hjk : j = k
    · subst hjk
      cases hb : listed.getD j true with
      | true => rfl
      | false => rw [hb] at h; simp at h
    · exact unl_zero k (by omega) j (by omega)
structure Mid (P : Program) (N : Nat) (w0 : Start) (ops : Array Oper) (md : Region.Mode) (d : Nat → Nat) (s : Nat → SV) (σ : Sig) (listed : Array Bool) (ρ : Rho) (S : Nat → Prop) (a : Act) (w : World) : Prop where
  len : listed.size = ops.size
  closed : ∀ j o, ops[j]? = some o → listed.getD j false = true → ∀ e ∈ o.after, Region.binds md e = true → listed.getD e.on false = true
  mem : St N w0 ρ S ⟨[], σ.heap⟩ a w
  done : ∀ j, j < ops.size → listed.getD j false = true → RS ρ w S (s j) (a.tmps.getD (d j) undef)
  old : ∀ t x, σ.env.lookup t = some x → (∀ j, j < ops.size → d j = t → listed.getD j false = false) → RS ρ w S x (a.tmps.getD t undef)
theorem getD_tf {listed : Array Bool} {j : Nat} (hj : j < listed.size) : listed.getD j true = listed.getD j false := by
  rw [Array.getD_eq_getD_getElem?, Array.getD_eq_getD_getElem?, Array.getElem?_eq_getElem hj]; rfl
theorem St.memOnly {σ : Sig} {ρ : Rho} {S : Nat → Prop} {a : Act} {w : World} (h : St N w0 ρ S σ a w) : St N w0 ρ S ⟨[], σ.heap⟩ a w := ⟨h.size, h.defers, h.below, h.mem, fun t s hs => by simp at hs⟩
theorem any_order {σ τ : Sig} {Q : Exit → Act → World → Prop} (hord : ordB md ops = true) (h : ADs P N ops ops.toList σ τ) (hQ : ∀ ρ S a w, St N w0 ρ S τ a w → Q .normal a w) :
    ∀ (ρ : Rho) (S : Nat → Prop) (a : Act) (w : World), St N w0 ρ S σ a w → wpAny P md ops Q ops.size (Array.replicate ops.size false) a w := by
  obtain ⟨d, s, e, he0, hτ, hst⟩ := h.lay
  have hops : ∀ k, ops.toList[k]? = ops[k]? := fun k => by first | rfl | exact Array.getElem?_toList | simp
  have hlen : ops.toList.length = ops.size := by simp
  have hstep : ∀ k o, ops[k]? = some o → o.dst = some (d k) ∧ d k < N ∧ e (k + 1) = (d k, s k) :: e k ∧ OpStep P ops o (Sig.only ⟨e k, σ.heap⟩ (o.looksAt ops)) (s k) := fun k o hk => hst k o (by rw [hops]; exact hk)
  have hinj : ∀ i j, i < ops.size → j < ops.size → i ≠ j → d i ≠ d j := fun i j hi hj hne heq => by
    have g1 := hstep i _ (Array.getElem?_eq_getElem hi)
    have g2 := hstep j _ (Array.getElem?_eq_getElem hj)
    exact (ordB_pair hord (Array.getElem?_eq_getElem hi) (Array.getElem?_eq_getElem hj)).1 hne (by rw [g2.1]; simp) (by rw [g1.1, g2.1, heq])
  have hget := lay_get (fun k hk => (hstep k _ (Array.getElem?_eq_getElem hk)).2.2.1) hinj
  have key : ∀ fuel listed ρ S a w, unl listed ops.size = fuel → Mid P N w0 ops md d s σ listed ρ S a w → wpAny P md ops Q fuel listed a w := by
    intro fuel
    induction fuel with
    | zero =>
      intro listed ρ S a w hf hm
      have hall : ∀ j, j < ops.size → listed.getD j true = true := unl_zero _ hf
      refine ⟨?_, ?_⟩
      · unfold Region.ready
        rw [List.filter_eq_nil_iff]
        intro i hi
        rw [hall i (List.mem_range.1 hi)]; simp
      · refine hQ ρ S a w ⟨hm.mem.size, hm.mem.defers, hm.mem.below, by rw [hτ]; exact hm.mem.mem, fun t x ht => ?_⟩
        rw [hτ, hlen] at ht
        rcases hget _ (Nat.le_refl _) t x ht with ⟨j, hj, rfl, rfl⟩ | ⟨h1, h2⟩
        · exact hm.done j hj (by rw [← getD_tf (by rw [hm.len]; exact hj)]; exact hall j hj)
        · exact hm.old t x (by rw [← he0]; exact h2) fun j hj hd => absurd hd (h1 j hj)
    | succ fuel ih =>
      intro listed ρ S a w hf hm
      refine ⟨fun hnil => ?_, fun i hi => ?_⟩
      · -- something is ready: the least that is not listed
        exfalso
        have hex : ∃ j, j < ops.size ∧ listed.getD j true = false := by
          by_cases hall : ∀ j, j < ops.size → listed.getD j true = true
          · have : ∀ k, k ≤ ops.size → unl listed k = 0 := by
              intro k
              induction k with
              | zero => intro _; rfl
              | succ k ihk => intro hk; simp only [unl]; rw [ihk (by omega), hall k (by omega)]; rfl
            have := this _ (Nat.le_refl _)
            omega
          · apply Classical.byContradiction
            intro hno
            exact hall fun j hj => by
              cases hb : listed.getD j true with
              | true => rfl
              | false => exact absurd ⟨j, hj, hb⟩ hno
        obtain ⟨j0, hj0⟩ := hex
        obtain ⟨j, ⟨hj, hb⟩, hmin⟩ := exists_min (p := fun j => j < ops.size ∧ listed.getD j true = false) j0 hj0
        have : j ∈ Region.ready md ops listed := by
          refine mem_ready.2 ⟨hb, _, Array.getElem?_eq_getElem hj, fun ed hed hbd => ?_⟩
          have hlt := ordB_after hord (Array.getElem?_eq_getElem hj) ed hed hbd
          have h1 : listed.getD ed.on true = true := by
            cases hc : listed.getD ed.on true with
            | true => rfl
            | false => have := hmin ed.on ⟨by omega, hc⟩; omega
          rw [← getD_tf (by rw [hm.len]; omega)]; exact h1
        rw [hnil] at this
        cases this
      · obtain ⟨hun, o, ho, hpre⟩ := mem_ready.1 hi
        have hilt : i < ops.size := (Array.getElem?_eq_some_iff.1 ho).1
        obtain ⟨hd, hN, hen, hop⟩ := hstep i o ho
        have hunf : listed.getD i false = false := by rw [← getD_tf (by rw [hm.len]; exact hilt)]; exact hun
        have hpre' : St N w0 ρ S (Sig.only ⟨e i, σ.heap⟩ (o.looksAt ops)) a w := by
          refine ⟨hm.mem.size, hm.mem.defers, hm.mem.below, hm.mem.mem, fun t x ht => ?_⟩
          obtain ⟨htl, ht⟩ := lookup_filter ht
          rcases hget i (by omega) t x ht with ⟨j, hj, rfl, rfl⟩ | ⟨h1, h2⟩
          · have hjlt : j < ops.size := by omega
            obtain ⟨g1, _⟩ := hstep j _ (Array.getElem?_eq_getElem hjlt)
            rcases (ordB_pair hord ho (Array.getElem?_eq_getElem hjlt)).2 _ g1 htl with e1 | ⟨_, ed, hed, hb, hon⟩ | ⟨hn, _⟩
            · omega
            · exact hm.done j hjlt (by rw [← hon]; exact hpre ed hed hb)
            · exact absurd hj hn
          · refine hm.old t x (by rw [← he0]; exact h2) fun j hj hdj => ?_
            obtain ⟨g1, _⟩ := hstep j _ (Array.getElem?_eq_getElem hj)
            rw [hdj] at g1
            rcases (ordB_pair hord ho (Array.getElem?_eq_getElem hj)).2 _ g1 htl with e1 | ⟨hlt, _⟩ | ⟨hn, ed, hed, hb, hon⟩
            · subst e1; exact hunf
            · exact absurd hdj (h1 j hlt)
            · cases hc : listed.getD j false with
              | false => rfl
              | true =>
                have := hm.closed j _ (Array.getElem?_eq_getElem hj) hc ed hed hb
                rw [hon, hunf] at this
                cases this
        have hnext : ∀ v S' w', Same S w S' w' → Below w.heap.size w w' → (∀ b, S' b → S b ∨ w.heap.size ≤ b) → St N w0 ρ S' (Sig.only ⟨e i, σ.heap⟩ (o.looksAt ops)) a w' → RS ρ w' S' (s i) v → wpAny P md ops Q fuel (listed.setIfInBounds i true) (a.put o.dst v) w' := by
          intro v S' w' hsame hbel _ hs' hv
          refine ih _ ρ S' _ w' ?_ ⟨by simp [hm.len], ?_, ?_, ?_, ?_⟩
          · have := unl_set hun ops.size
            rw [if_pos hilt] at this
            omega
          · intro j oj hoj hl ed hed hb
            by_cases hji : j = i
            · subst hji
              rw [ho] at hoj
              obtain rfl := Option.some.inj hoj
              exact getD_set_true (hpre ed hed hb)
            · rw [getD_set_ne false (Ne.symm hji)] at hl
              exact getD_set_true (hm.closed j oj hoj hl ed hed hb)
          · have := hs'.memOnly
            rw [hd]
            exact (this.put hN hv).memOnly
          · intro j hj hl
            have hsz : d i < a.tmps.size := by rw [hm.mem.size]; exact hN
            rw [hd, getD_put hsz]
            by_cases hji : j = i
            · subst hji; rw [if_pos rfl]; exact hv
            · rw [if_neg (hinj j i hj hilt hji)]
              rw [getD_set_ne false (Ne.symm hji)] at hl
              exact (hm.done j hj hl).keep hsame (Rn.refl _ _)
          · intro t x ht hno
            have hsz : d i < a.tmps.size := by rw [hm.mem.size]; exact hN
            have hti : t ≠ d i := fun e => by
              have := hno i hilt e.symm
              rw [show (listed.setIfInBounds i true).getD i false = true by simp [hm.len, hilt]] at this
              cases this
            rw [hd, getD_put hsz, if_neg hti]
            refine (hm.old t x ht fun j hj hdj => ?_).keep hsame (Rn.refl _ _)
            have hji : i ≠ j := fun e => hti (by rw [← hdj, e])
            have := hno j hj hdj
            rwa [getD_set_ne false hji] at this
        have h1 := hop.run N w0 ρ S a w (wpAny P md ops Q fuel (listed.setIfInBounds i true)) Q hpre' hnext
        unfold wpOp
        simp only [ho]
        split
        · rename_i hw; rw [if_pos hw] at h1; exact .inl h1
        · rename_i hw; rw [if_neg hw] at h1; exact h1
  intro ρ S a w hs
  refine key ops.size _ ρ S a w ?_ ⟨by simp, fun j o ho hl => ?_, hs.memOnly, fun j hj hl => ?_, fun t x ht _ => hs.env t x ht⟩
  · have : ∀ k, k ≤ ops.size → unl (Array.replicate ops.size false) k = k := by
      intro k
      induction k with
      | zero => intro _; rfl
      | succ k ihk => intro hk; simp only [unl]; rw [ihk (by omega)]; simp [show k < ops.size by omega]
    exact this _ (Nat.le_refl _)
  · exfalso
    by_cases hj : j < ops.size <;> simp [hj] at hl
  · exfalso
    simp [hj] at hl
theorem AW.any {i : Nat} {l : List Oper} {Q : Exit → Sig → Prop} {σ : Sig} (hm : P.follows .mixedOrders = true) (hord : ordB .any l.toArray = true) (h : AD P N l.toArray (fun σ => Q .normal σ) l σ) : AW P N w0 (.region i l.toArray true) Q σ := by
  intro ρ S a w Q' hQ hs
  obtain ⟨τ, h1, h2⟩ := h
  refine wp_region_any hm ?_
  exact any_order hord (by simpa using h1) (fun ρ S a w hs' => hQ _ ρ S τ a w hs' h2) ρ S a _ (hs.world ((Below.refl _ _).drew))
end
end Go.Proofs.Ytonfeiloekofdaa

namespace Go.Proofs.Ytonfeiloekofdaa
open Go.ChangeShapes Go.WideShapes Go.ChangeAt Go.RowKit Go.BigFrame Go.Deep
set_option linter.unusedVariables false
set_option linter.unusedSimpArgs false
inductive Fv (H : Heap) : AV → AV → Prop
  | int {k : IntKind} {n : Int} : Fv H (.int k n) (.int k n)
  | bool {b : Bool} : Fv H (.bool b) (.bool b)
  | str {s : ByteArray} : Fv H (.str s) (.str s)
  | con {v : Value} : Fv H (.con v) (.con v)
  | frs {x : AV} : Fv H (.frs x) x
  | nil {sz : Nat} {f g : Nat → Nat → AV} : Fv H (.lst sz 0 f) (.lst sz 0 g)
  | cnil {sz : Nat} {g : Nat → Nat → AV} : Fv H (.con (.slice none 0 0)) (.lst sz 0 g)
  | tre {id i n : Nat} {X : Nat → AV} : H.lookup id = some (.trees n X) → i < n → Fv H (.tre id i) (X i)
  | own {id sz n : Nat} {g : Nat → Nat → AV} {o : AObj} : H.lookup id = some o → o.sz = sz → n ≤ o.n → (∀ i j, i < n → j < sz → Fv H (o.f i j) (g i j)) → Fv H (.own id sz n) (.lst sz n g)
def freshTo (B : Nat) (w : World) (b : Nat) : Prop := B ≤ b ∧ b < w.heap.size
theorem Fv.sound {B : Nat} {ρ : Rho} {S : Nat → Prop} {H : Heap} {w : World} (hm : MemOk B ρ S H w) {x y : AV} (h : Fv H x y) : ∀ {v : Value}, R ρ w S x v → D w (freshTo B w) y v := by
  induction h with
  | int => exact fun h => h
  | bool => exact fun h => h
  | str => exact fun h => h
  | con => exact fun h => h
  | frs => exact fun h => D.keep (S := freshS ρ S) ⟨fun b hb => ⟨by rw [← hm.base]; exact hb.2, hm.lt b hb.1⟩, fun _ _ => rfl⟩ h
  | nil =>
    intro v hv
    obtain ⟨A, c, e, h1, h2, h3, _⟩ := hv
    exact ⟨A, c, e, h1, h2, h3, fun i hi => absurd hi (by omega)⟩
  | cnil =>
    intro v hv
    have e : v = Value.slice none 0 0 := hv
    exact ⟨none, 0, e, Nat.le_refl _, by decide, fun _ => rfl, fun i hi => absurd hi (by omega)⟩
  | @tre id i n X hX hi =>
    intro v hv
    obtain ⟨e, _⟩ := hv
    rw [e]
    refine ((hm.tree id n X hX i hi).1).d fun b hb => ?_
    obtain ⟨q1, q2, _⟩ := (hm.tree id n X hX i hi).2 b hb
    exact ⟨q1, q2⟩
  | @own id sz n g o ho hsz hn _ ih =>
    intro v hv
    subst hsz
    obtain ⟨A, hv, hn1, hn2, hA⟩ := hv
    refine ⟨A, _, hv, hn1, hn2, (fun e => by rcases hA with h | ⟨_, h⟩; (· rw [h] at e; cases e); (· exact h)), fun i hi => ?_⟩
    have hc : (ρ id).2 ≠ 0 := by omega
    have hlt := hm.blk ho hc
    obtain ⟨cs, e, h1, h2, h3, h4, h5, h6, h7⟩ := hm.obj id o ho hc
    refine ⟨(ρ id).1, 0, by rcases hA with h | ⟨_, h⟩; (· exact h); (· exact absurd h hc), ⟨h5, hlt⟩, fun j hj => ?_⟩
    obtain ⟨u, hu, hr⟩ := h7 i j (by omega) hj
    refine ⟨u, ?_, ih i j hi hj hr⟩
    simp [World.cell?, h1, hu]
def FvL (H : Heap) : List AV → List AV → Prop
  | [], [] => True
  | x :: l, y :: m => Fv H x y ∧ FvL H l m
  | _, _ => False
def FvS (H : Heap) : SV → SV → Prop
  | .one x, .one y => Fv H x y
  | .agg l, .agg m => FvL H l m
  | .tup2 a b, .tup2 c d => FvS H a c ∧ FvS H b d
  | .tup3 a b e, .tup3 c d f => FvS H a c ∧ FvS H b d ∧ FvS H e f
  | .tup4 a b e g, .tup4 c d f h => FvS H a c ∧ FvS H b d ∧ FvS H e f ∧ FvS H g h
  | _, _ => False
theorem FvL.sound {B : Nat} {ρ : Rho} {S : Nat → Prop} {H : Heap} {w : World} (hm : MemOk B ρ S H w) : ∀ {l m : List AV} {us : List Value}, FvL H l m → RL ρ w S l us → DL w (freshTo B w) m us
  | [], [], _, _, h => h
  | _ :: _, _ :: _, _, ⟨h1, h2⟩, ⟨u, us, e, g1, g2⟩ => ⟨u, us, e, h1.sound hm g1, FvL.sound hm h2 g2⟩
  | [], _ :: _, _, h, _ => h.elim
  | _ :: _, [], _, h, _ => h.elim
theorem FvS.sound {B : Nat} {ρ : Rho} {S : Nat → Prop} {H : Heap} {w : World} (hm : MemOk B ρ S H w) : ∀ {s t : SV} {v : Value}, FvS H s t → RS ρ w S s v → DR w (freshTo B w) t v
  | .one _, .one _, _, h, hr => Fv.sound hm h hr
  | .agg _, .agg _, _, h, ⟨us, e, hl⟩ => ⟨us, e, FvL.sound hm h hl⟩
  | .tup2 _ _, .tup2 _ _, _, ⟨h1, h2⟩, ⟨a, b, e, g1, g2⟩ => ⟨a, b, e, FvS.sound hm h1 g1, FvS.sound hm h2 g2⟩
  | .tup3 _ _ _, .tup3 _ _ _, _, ⟨h1, h2, h3⟩, ⟨a, b, c, e, g1, g2, g3⟩ => ⟨a, b, c, e, FvS.sound hm h1 g1, FvS.sound hm h2 g2, FvS.sound hm h3 g3⟩
  | .tup4 _ _ _ _, .tup4 _ _ _ _, _, ⟨h1, h2, h3, h4⟩, ⟨a, b, c, d, e, g1, g2, g3, g4⟩ => ⟨a, b, c, d, e, FvS.sound hm h1 g1, FvS.sound hm h2 g2, FvS.sound hm h3 g3, FvS.sound hm h4 g4⟩
  | .one _, .tup4 _ _ _ _, _, h, _ => h.elim
  | .agg _, .tup4 _ _ _ _, _, h, _ => h.elim
  | .tup2 _ _, .tup4 _ _ _ _, _, h, _ => h.elim
  | .tup3 _ _ _, .tup4 _ _ _ _, _, h, _ => h.elim
  | .gd _ _, .tup4 _ _ _ _, _, h, _ => h.elim
  | .tup4 _ _ _ _, .one _, _, h, _ => h.elim
  | .tup4 _ _ _ _, .agg _, _, h, _ => h.elim
  | .tup4 _ _ _ _, .tup2 _ _, _, h, _ => h.elim
  | .tup4 _ _ _ _, .tup3 _ _ _, _, h, _ => h.elim
  | .tup4 _ _ _ _, .gd _ _, _, h, _ => h.elim
  | .one _, .agg _, _, h, _ => h.elim
  | .one _, .tup2 _ _, _, h, _ => h.elim
  | .one _, .tup3 _ _ _, _, h, _ => h.elim
  | .one _, .gd _ _, _, h, _ => h.elim
  | .agg _, .one _, _, h, _ => h.elim
  | .agg _, .tup2 _ _, _, h, _ => h.elim
  | .agg _, .tup3 _ _ _, _, h, _ => h.elim
  | .agg _, .gd _ _, _, h, _ => h.elim
  | .tup2 _ _, .one _, _, h, _ => h.elim
  | .tup2 _ _, .agg _, _, h, _ => h.elim
  | .tup2 _ _, .tup3 _ _ _, _, h, _ => h.elim
  | .tup2 _ _, .gd _ _, _, h, _ => h.elim
  | .tup3 _ _ _, .one _, _, h, _ => h.elim
  | .tup3 _ _ _, .agg _, _, h, _ => h.elim
  | .tup3 _ _ _, .tup2 _ _, _, h, _ => h.elim
  | .tup3 _ _ _, .gd _ _, _, h, _ => h.elim
  | .gd _ _, .one _, _, h, _ => h.elim
  | .gd _ _, .agg _, _, h, _ => h.elim
  | .gd _ _, .tup2 _ _, _, h, _ => h.elim
  | .gd _ _, .tup3 _ _ _, _, h, _ => h.elim
  | .gd _ _, .gd _ _, _, h, _ => h.elim
section
variable {P : Program} {N : Nat} {w0 : Start} {σ : Sig}
def RetF (P : Program) (fn : Func) (r : SV) : Exit → Sig → Prop
  | .ret, σ => ∃ s, ResL P σ fn.results.toList s ∧ FvS σ.heap s r
  | .normal, σ => ∃ s, ResL P σ fn.results.toList s ∧ FvS σ.heap s r
  | _, _ => False
theorem FnF.of_body {f : FuncId} {fn : Func} {c : Code} {args : List SV} {r : SV} (hf : P.funcs[f]? = some fn) (hb : fn.body = some c) (hle : args.length ≤ fn.ntmps)
    (h : ∀ w0, AW P fn.ntmps w0 c (RetF P fn r) ⟨enumE 0 args, []⟩) : FnF P f args r := by
  intro w S vs hS hd
  have hl := hd.len
  refine calls_of_wp hf hb ?_
  refine h ⟨w.heap.size, w, S, w, ⟨fun _ => (0, 0), w.heap.size, fun _ _ => undef, fun _ _ _ => False, fun _ => 0⟩, hS.pre⟩ ⟨fun _ => (0, 0), w.heap.size, fun _ _ => undef, fun _ _ _ => False, fun _ => 0⟩ S _ w _ (fun e ρ S' σ a w' hs hq => ?_) ⟨?_, rfl, ⟨Below.refl _ _, Same.refl _ _, fun _ _ => .refl _ _⟩, ⟨rfl, Nat.le_refl _, hS, fun id o ho => by simp at ho, fun id o ho => by simp at ho, fun id id' o o' ho => by simp at ho, fun id n X ho => by simp at ho⟩, ?_⟩
  · have fin : (∃ s, ResL P σ fn.results.toList s ∧ FvS σ.heap s r) → a.defers = [] ∧ ∃ v, (results fn a.tmps).run P w' = .ok v w' ∧ (∃ v', Ending.returned v = .returned v' ∧ DR w' (newS w w') r v' ∧ Below w.heap.size w w') := fun ⟨s, hr, hfv⟩ => by
      obtain ⟨v, hv, hrun⟩ := hr.run hs
      exact ⟨hs.defers, v, hrun, v, rfl, hfv.sound hs.mem hv, hs.below.old⟩
    cases e
    case ret => exact fin hq
    case normal => exact fin hq
    all_goals exact hq.elim
  · simp [hl]; omega
  · intro t s ht
    obtain ⟨j, u, e1, e2, e3⟩ := hd.get ht
    have hj : j < vs.length := (List.getElem?_eq_some_iff.1 e2).1
    have : ((vs.toArray ++ Array.replicate (fn.ntmps - vs.toArray.size) undef).getD t undef) = u := by
      rw [Array.getD_eq_getD_getElem?, Array.getElem?_append_left (by simp; omega)]
      simp [show t = j by omega, e2]
    show RS _ w S s ((vs.toArray ++ Array.replicate (fn.ntmps - vs.toArray.size) undef).getD t undef)
    rw [this]
    exact e3.toRS
def elemZ (P : Program) (t : TypeId) : Option (Option Value × Nat × Nat) :=
  match P.underlying t with
  | some (.slice e) => (P.info? e).map fun i => (i.zero, i.size, i.bytes)
  | _ => none
theorem elemZ_spec {t : TypeId} {z : Value} {sz by_ : Nat} (h : elemZ P t = some (some z, sz, by_)) : ∃ e i, P.underlying t = some (.slice e) ∧ P.info? e = some i ∧ i.zero = some z ∧ i.size = sz ∧ i.bytes = by_ := by
  unfold elemZ at h
  split at h
  · rename_i e hu
    cases hi : P.info? e with
    | none => rw [hi] at h; cases h
    | some i =>
      rw [hi] at h
      simp only [Option.map_some, Option.some.injEq, Prod.mk.injEq] at h
      exact ⟨e, i, hu, hi, h.1, h.2.1, h.2.2⟩
  · cases h
variable {ops : Array Oper} {rest : List Oper} {o : Oper} {Q : Sig → Prop}
theorem RL.getD {ρ : Rho} {w : World} {S : Nat → Prop} {l : List AV} {us : List Value} (h : RL ρ w S l us) {j : Nat} (hj : j < l.length) : ∃ u, us[j]? = some u ∧ R ρ w S (l.getD j (.con undef)) u := by
  obtain ⟨u, hu, hr⟩ := h.get (List.getElem?_eq_getElem hj)
  exact ⟨u, hu, by rw [List.getD_eq_getElem?_getD, List.getElem?_eq_getElem hj]; exact hr⟩
theorem ARun.make {t d id n by_ : Nat} {m c : Int} {k k' : IntKind} {x y : Operand} {z : Value} {l : List AV} (ho : o.op = .makeSlice t x y) (hz : elemZ P t = some (some z, l.length, by_)) (hl : ∀ ρ w S, RL ρ w S l z.cells.toList)
    (hx : Kn σ x (.one (.int k m))) (hy : Kn σ y (.one (.int k' c))) (hm : m = (n : Int)) (hc : c = (n : Int)) (hn : by_ * n ≤ 281474976710656) (h63 : n ≤ 9223372036854775807) (hsz : 0 < l.length)
    (hf : Fr id σ) (hno : l.all (AV.no id) = true) (hg : o.guard = none) (hd : o.dst = some d) (hN : d < N)
    (h : ARun P N w0 ops Q rest ((σ.set id (.arr l.length n fun _ j => l.getD j (.con undef))).put d (.one (.own id l.length n)))) : ARun P N w0 ops Q (o :: rest) σ := by
  subst hm hc
  intro ρ S a w Q' hQ hs
  refine wpList_plain hg fun K hK => ?_
  obtain ⟨e, i, hu, hi, hz0, hz1, hz2⟩ := elemZ_spec hz
  have hzl := hl ρ w S
  have hzlen : z.cells.size = l.length := by have := hzl.len; simpa using this
  obtain ⟨ρ', e1, hs'⟩ := hs.new hf (o := .arr l.length n fun _ j => l.getD j (.con undef)) (cs := madeCells z.cells (n * i.size)) (e := e) (cap := n) rfl (by rw [size_madeCells, hz1]; rfl) (Nat.le_refl _) (by unfold maxLen; omega)
    (fun i' j hi' hj => by
      have hj' : j < l.length := hj
      have hi'' : i' < n := hi'
      obtain ⟨u, hu', hr⟩ := hzl.getD hj'
      refine ⟨u, ?_, hr⟩
      show (madeCells z.cells (n * i.size))[i' * l.length + j]? = some u
      have hlt : i' * l.length + j < n * i.size := by
        rw [hz1]
        have : (i' + 1) * l.length ≤ n * l.length := Nat.mul_le_mul_right _ hi''
        rw [Nat.succ_mul] at this
        omega
      have hmod : (i' * l.length + j) % z.cells.size = j := by rw [hzlen, Nat.mul_comm, Nat.mul_add_mod, Nat.mod_eq_of_lt hj']
      have hjz : j < z.cells.size := by rw [hzlen]; exact hj'
      have : z.cells[j]? = some u := by simpa using hu'
      rw [Array.getElem?_eq_getElem hjz] at this
      simp only [madeCells, Array.getElem?_map, Array.getElem?_range, hlt, if_true, Option.map_some, hmod]
      rw [show z.cells[j]! = z.cells[j] from getElem!_pos z.cells j hjz]
      exact this)
    (fun i' j => by
      show (l.getD j (.con undef)).no id = true
      rw [List.getD_eq_getElem?_getD]
      cases hl : l[j]? with
      | none => rfl
      | some x => exact List.all_eq_true.1 hno x (List.mem_of_getElem? hl))
  have h1 : a.eval x = .int k (n : Int) := hx.sound hs
  have h2 : a.eval y = .int k' (n : Int) := hy.sound hs
  have hmk := run_make_rowN (P := P) t e i z hu hi hz0 k k' n n (Nat.le_refl _) (by rw [hz2]; exact hn) h63 w
  have hrun : (execOp a.eval o).run P w = .ok (.value (.slice (some ⟨w.heap.size, 0, none⟩) n n)) (w.alloc (.cells (madeCells z.cells (n * i.size)) e)) := by
    generalize a.eval = ev at h1 h2
    simp only [execOp, ho, h1, h2, Sem.run_bind, hmk]
    simp [go_sem]
  unfold Oper.wp
  rw [hrun]
  simp only [Oper.upon, hd]
  refine hK _ _ (h ρ' S _ _ Q' hQ (hs'.put hN ?_))
  show ∃ A, Value.slice _ _ _ = .slice A n (ρ' id).2 ∧ n ≤ (ρ' id).2 ∧ (ρ' id).2 ≤ maxLen ∧ (A = some ⟨(ρ' id).1, 0, none⟩ ∨ (A = none ∧ (ρ' id).2 = 0))
  rw [e1]
  exact ⟨_, rfl, Nat.le_refl _, by unfold maxLen; omega, .inl rfl⟩
end
end Go.Proofs.Ytonfeiloekofdaa

namespace Go.Proofs.Ytonfeiloekofdaa
open Go.ChangeShapes Go.WideShapes Go.ChangeAt Go.RowKit Go.BigFrame Go.Deep
set_option linter.unusedVariables false
set_option linter.unusedSimpArgs false
section
variable {P : Program} {N : Nat} {w0 : Start} {σ : Sig} {ops : Array Oper} {rest : List Oper} {o : Oper} {Q : Sig → Prop}
theorem St.writesArr {a : Act} {S : Nat → Prop} {ρ : Rho} {id sz n i : Nat} (hi : i < n) : ∀ {m : List AV} {us : List Value} {w : World} {σ : Sig} {f : Nat → Nat → AV} {j q : Nat} {ad : Addr}, St N w0 ρ S σ a w → σ.heap.lookup id = some (.arr sz n f) → j + m.length ≤ sz → RL ρ w S m us → (∀ u ∈ us, (∀ c, u ≠ .agg c) ∧ (∀ c, u ≠ .tuple c)) →
    ad.add q = ⟨(ρ id).1, i * sz + j, none⟩ → ∃ w', (storeCells ad us q).run P w = .ok () w' ∧ ∃ σ', St N w0 ρ S σ' a w' ∧ σ'.env = σ.env ∧ ∃ f', (∀ k, σ'.heap.lookup k = ((id, AObj.arr sz n f') :: σ.heap).lookup k) ∧ ∀ x y, f' x y = if x = i ∧ j ≤ y ∧ y < j + m.length then m.getD (y - j) (.con undef) else f x y
  | [], us, w, σ, f, j, q, ad, hs, ho, _, hr, _, _ => by
    rw [show us = [] from hr]
    refine ⟨w, by simp [storeCells, go_sem], σ, hs, rfl, f, fun k => ?_, fun x y => ?_⟩
    · simp only [List.lookup_cons]
      by_cases e : k = id
      · subst e; simp [ho]
      · rw [show (k == id) = false by simpa using e]
    · rw [if_neg (fun h => by have := h.2.1; have := h.2.2; simp at this; omega)]
  | x :: m, us, w, σ, f, j, q, ad, hs, ho, hlen, hr, hcell, had => by
    obtain ⟨u, us, rfl, h1, h2⟩ := hr
    simp only [List.length_cons] at hlen
    have hj : j < sz := by omega
    have hw := hs.write (i := i) (j := j) ho hi hj h1 (AObj.upd_arr sz n f i j x)
    obtain ⟨v, hv, _⟩ := hs.cell ho (i := i) (j := j) hi hj
    obtain ⟨cs, e, g1, g2, g3, g4, g5, g6, g7⟩ := hs.mem.obj id _ ho (hs.mem.pos ho (i := i) hi)
    have hfr : w.frozen? ⟨(ρ id).1, i * sz + j, none⟩ = false := by simp [World.frozen?, g1]
    have hv' : w.cell? ⟨(ρ id).1, i * sz + j, none⟩ = some v := hv
    have hw' : St N w0 ρ S (σ.set id (.arr sz n fun a b => if a = i ∧ b = j then x else f a b)) a (w.setCell ⟨(ρ id).1, i * sz + j, none⟩ u) := hw
    have hsame : Same S w S (w.setCell ⟨(ρ id).1, i * sz + j, none⟩ u) := ⟨fun _ h => h, fun b hb => Below.heap_setCell _ _ _ _ fun e => g6 (by have e' : b = (ρ id).1 := e; rw [← e']; exact hb)⟩
    have had2 : ad.add (q + 1) = ⟨(ρ id).1, i * sz + (j + 1), none⟩ := by
      rw [← add_add, had]; rfl
    obtain ⟨w', hrun, σ', hs', he, f', hh, hf⟩ := St.writesArr hi (q := q + 1) (ad := ad) (j := j + 1) (m := m) (us := us) hw' (by simp [Sig.set]; rfl) (by omega) (h2.keep hsame (Rn.refl _ _)) (fun u hu => hcell u (List.mem_cons_of_mem _ hu)) had2
    refine ⟨w', ?_, σ', hs', he, f', fun k => ?_, fun y z => ?_⟩
    · obtain ⟨c1, c2⟩ := hcell u (List.mem_cons_self ..)
      rw [← hrun]
      simp only [storeCells, Go.store, Sem.run_bind, had]
      cases u <;> first | exact absurd rfl (c1 _) | exact absurd rfl (c2 _) | simp [Sem.run, hv', hfr, Result.andThen]
    · rw [hh k]
      simp only [List.lookup_cons, Sig.set]
      cases k == id <;> rfl
    · rw [hf y z]
      by_cases hy : y = i
      · subst hy
        by_cases hz : z = j
        · subst hz
          rw [if_neg (fun h => by omega), if_pos ⟨rfl, rfl⟩, if_pos ⟨rfl, Nat.le_refl _, by simp⟩]
          simp
        · by_cases hz2 : j + 1 ≤ z ∧ z < j + 1 + m.length
          · rw [if_pos ⟨rfl, hz2⟩, if_pos ⟨rfl, by omega, by simp; omega⟩]
            rw [show z - j = (z - (j + 1)) + 1 by omega]
            rfl
          · rw [if_neg (fun h => hz2 h.2), if_neg (fun h => hz h.2), if_neg (fun h => by have := h.2; simp at this; omega)]
      · rw [if_neg (fun h => hy h.1), if_neg (fun h => hy h.1), if_neg (fun h => hy h.1)]
theorem ARun.storeElem {t id sz n i : Nat} {p x : Operand} {s : SV} {f : Nat → Nat → AV} (ho : o.op = .store t p x) (hp : Kn σ p (.one (.ptr id sz i 0))) (hx : Kn σ x s) (hc : s.Cells) (hob : σ.heap.lookup id = some (.arr sz n f)) (hi : i < n) (hlen : s.cs.length = sz) (hsz : sizeB P t s.cs.length = true)
    (hg : o.guard = none) (hd : o.dst = none) (h : ARun P N w0 ops Q rest (σ.set id (.arr sz n fun a b => if a = i then s.cs.getD b (.con undef) else f a b))) : ARun P N w0 ops Q (o :: rest) σ := by
  intro ρ S a w Q' hQ hs
  refine wpList_plain hg fun K hK => ?_
  have e1 : a.eval p = .pointer (some ⟨(ρ id).1, i * sz + 0, none⟩) := hp.sound hs
  have hrs := hx.sound hs
  have hl := hc.rl hrs
  obtain ⟨w', hrun, σ', hs', he, f', hh, hf⟩ := hs.writesArr (P := P) hi (j := 0) (q := 0) (ad := ⟨(ρ id).1, i * sz + 0, none⟩) hob (by omega) hl (hc.each hrs) (by simp [Addr.add])
  have hvs : (a.eval x).cells.size = s.cs.length := by have := hl.len; simpa using this
  have hr2 : (execOp a.eval o).run P w = .ok .skip w' := by
    generalize a.eval = ev at e1 hrun hvs
    simp only [execOp, ho, e1, Instr.storeAt, Instr.sureAddr, storeVar, Sem.run_bind, Sem.run_pure, Result.andThen_ok, sizeB_run hsz, hvs, ne_eq, not_true, if_false, hrun]
  unfold Oper.wp
  rw [hr2]
  simp only [Oper.upon, hd, Act.put]
  refine hK _ _ (h ρ S _ _ Q' hQ ⟨hs'.size, hs'.defers, hs'.below, ?_, fun t s ht => hs'.env t s (by rw [he]; exact ht)⟩)
  refine hs'.mem.le' fun k p hk => ?_
  rcases lookup_put hk with ⟨rfl, rfl⟩ | ⟨hne, hk⟩
  · refine HLe.mk (o' := .arr sz n f') (by rw [hh k]; simp) rfl rfl (Nat.le_refl _) fun x y hx hy => ?_
    show f' x y = if x = i then s.cs.getD y (.con undef) else f x y
    have hy' : y < sz := hy
    rw [hf x y]
    by_cases hxi : x = i
    · rw [if_pos ⟨hxi, Nat.zero_le _, by omega⟩, if_pos hxi]; rfl
    · rw [if_neg (fun h => hxi h.1), if_neg hxi]
  · exact HLe.refl (by rw [hh k, List.lookup_cons, show (k == id) = false by simpa using hne]; exact hk)
end
def Small (n : Nat) : Prop := n ≤ 1048576
theorem Small.mk {n : Nat} (h : n ≤ 1048576) : Small n := h
def wtl {α : Type} (f : α → Nat) (l : List α) : Nat := l.length + (l.map f).sum
def szR (left : Int) (n : Nat) : Int := if (n : Int) ≤ left then left - n else -1
theorem getD_at {α : Type} {l : List α} {k : Nat} (d : α) (h : k < l.length) : l.getD k d = l[k] := by
  rw [List.getD_eq_getElem?_getD, List.getElem?_eq_getElem h]; rfl
section
variable {P : Program} {N : Nat} {w0 : Start} {σ : Sig} {ops : Array Oper} {rest : List Oper} {Q : Sig → Prop} {Q2 : Exit → Sig → Prop}
theorem ARun.boundS {t : Nat} {s : ByteArray} (h : σ.env.lookup t = some (.one (.str s))) (k : s.size ≤ 9223372036854775807 → ARun P N w0 ops Q rest σ) : ARun P N w0 ops Q rest σ := by
  intro ρ S a w Q' hQ hs
  obtain ⟨_, h2⟩ := hs.env _ _ h
  exact k (by unfold maxLen at h2; omega) ρ S a w Q' hQ hs
theorem ARun.bound {t sz n : Nat} {f : Nat → Nat → AV} (h : σ.env.lookup t = some (.one (.lst sz n f))) (k : n ≤ 9223372036854775807 → ARun P N w0 ops Q rest σ) : ARun P N w0 ops Q rest σ := by
  intro ρ S a w Q' hQ hs
  obtain ⟨A, c', _, h1, h2, _⟩ := hs.env _ _ h
  exact k (by unfold maxLen at h2; omega) ρ S a w Q' hQ hs
end
def AV.Deep : AV → Prop
  | .ptr _ _ _ _ => False
  | .own _ _ _ => False
  | .frs _ => False
  | .fn _ _ _ => False
  | .tre _ _ => False
  | .tl _ _ _ _ => False
  | .cv _ _ => False
  | _ => True
theorem Vw.of_deep {H : Heap} : ∀ {x : AV}, x.Deep → Vw H x x
  | .int _ _, _ => .int
  | .bool _, _ => .bool
  | .str _, _ => .str
  | .con _, _ => .con
  | .lst _ _ _, _ => .lst
  | .ref _ _, _ => .ref
  | .ptr _ _ _ _, h => h.elim
  | .own _ _ _, h => h.elim
  | .frs _, h => h.elim
  | .fn _ _ _, h => h.elim
  | .tre _ _, h => h.elim
  | .tl _ _ _ _, h => h.elim
  | .cv _ _, h => h.elim
def idxF {α : Type} (p : α → Bool) (l : List α) : Int := if l.any p then (l.findIdx p : Int) else -1
theorem any_take {α : Type} {p : α → Bool} {l : List α} {k : Nat} (d : α) (h : k < l.length) (ht : (l.take k).any p = false) (hk : p (l.getD k d) = false) : (l.take (k + 1)).any p = false := by
  rw [List.take_succ_eq_append_getElem h, List.any_append, ht]
  rw [getD_at d h] at hk
  simpa using hk
theorem idxF_hit {α : Type} {p : α → Bool} {l : List α} {k : Nat} (d : α) (h : k < l.length) (ht : (l.take k).any p = false) (hk : p (l.getD k d) = true) : (k : Int) = idxF p l := by
  rw [getD_at d h] at hk
  have ha : l.any p = true := List.any_eq_true.2 ⟨_, List.getElem_mem h, hk⟩
  unfold idxF
  rw [if_pos ha]
  have : l.findIdx p = k := by
    rw [List.findIdx_eq h]
    refine ⟨hk, fun j hj => ?_⟩
    have hjl : j < (l.take k).length := by simp; omega
    rw [← Bool.not_eq_true]
    intro e
    have : (l.take k).any p = true := List.any_eq_true.2 ⟨_, List.getElem_mem hjl, by simpa using e⟩
    rw [ht] at this; cases this
  omega
theorem idxF_none {α : Type} {p : α → Bool} {l : List α} {k : Nat} (h : ¬ k < l.length) (ht : (l.take k).any p = false) : -1 = idxF p l := by
  rw [List.take_of_length_le (by omega)] at ht
  unfold idxF; rw [if_neg (by rw [ht]; simp)]
theorem idxF_any {α : Type} (p : α → Bool) (l : List α) : decide (0 ≤ idxF p l) = l.any p := by
  unfold idxF
  by_cases h : l.any p = true
  · rw [if_pos h, h]; simp
  · rw [if_neg h]; simp only [Bool.not_eq_true] at h; rw [h]; rfl
end Go.Proofs.Ytonfeiloekofdaa

namespace Go.Proofs.Ytonfeiloekofdaa
open Go.ChangeShapes Go.WideShapes Go.ChangeAt Go.RowKit Go.BigFrame Go.Deep
set_option linter.unusedVariables false
set_option linter.unusedSimpArgs false
def KnL (σ : Sig) : List Operand → List AV → Prop
  | [], [] => True
  | x :: xs, y :: ys => Kn σ x (.one y) ∧ KnL σ xs ys
  | _, _ => False
theorem KnL.sound {N : Nat} {w0 : Start} {ρ : Rho} {S : Nat → Prop} {σ : Sig} {a : Act} {w : World} (hs : St N w0 ρ S σ a w) : ∀ {xs : List Operand} {ys : List AV}, KnL σ xs ys → xs.length = ys.length ∧ ∀ j, j < ys.length → ∃ u, (xs.map a.eval)[j]? = some u ∧ R ρ w S (ys.getD j (.con undef)) u
  | [], [], _ => ⟨rfl, fun j hj => absurd hj (by simp)⟩
  | x :: xs, y :: ys, ⟨h1, h2⟩ => by
    obtain ⟨e, h⟩ := KnL.sound hs h2
    refine ⟨by simp [e], fun j hj => ?_⟩
    cases j with
    | zero => exact ⟨a.eval x, rfl, h1.sound hs⟩
    | succ j =>
      obtain ⟨u, hu, hr⟩ := h j (by simpa using hj)
      exact ⟨u, by simpa using hu, by simpa using hr⟩
  | [], _ :: _, h => h.elim
  | _ :: _, [], h => h.elim
theorem PureOp.makeFn {P : Program} {σ : Sig} {o : Oper} {f : FuncId} {xs : List Operand} {caps : List AV} {m : Nat} (ho : o.op = .makeFunc (.func f) #[] xs.toArray) (hk : KnL σ xs caps) (hm : caps.length = m) :
    PureOp P o σ (.one (.fn f m fun j => caps.getD j (.con undef))) := by
  subst hm
  refine PureOp.val fun N w0 ρ S ac w hs => ?_
  obtain ⟨e, h⟩ := hk.sound hs
  refine ⟨.func (.func f) #[] (xs.map ac.eval).toArray, ⟨_, rfl, by simp [e], fun j hj => ?_⟩, fun w' _ => ?_⟩
  · obtain ⟨u, hu, hr⟩ := h j hj
    exact ⟨u, by simpa using hu, hr⟩
  · simp [execOp, ho, Instr.makeFunc, go_sem]
theorem rng_no {n : Nat} {p : Nat → Bool} {k : Nat} (hk : k < n) (h : p k = false) : (List.range n).all p = false := by
  rw [← Bool.not_eq_true, List.all_eq_true]
  intro h'
  rw [h' k (List.mem_range.2 hk)] at h
  cases h
theorem rng_yes {n : Nat} {p : Nat → Bool} (h : ∀ k, k < n → p k = true) : (List.range n).all p = true := by
  rw [List.all_eq_true]
  intro k hk
  exact h k (List.mem_range.1 hk)
theorem rng_succ {p : Nat → Prop} {k : Nat} (h : ∀ i, i < k → p i) (hk : p k) : ∀ i, i < k + 1 → p i := by
  intro i hi
  by_cases e : i = k
  · rw [e]; exact hk
  · exact h i (by omega)
def firstAt (p : Nat → Bool) : Nat → Nat → Option Nat
  | _, 0 => none
  | a, n + 1 => if p a then some a else firstAt p (a + 1) n
def byteAt (s : ByteArray) (k : Nat) : Int := if h : k < s.size then ((s.get k h).toNat : Int) else 0
theorem PureOp.indexStrAt {P : Program} {σ : Sig} {o : Oper} {t : TypeId} {x y : Operand} {s : ByteArray} {i : Nat} {m : Int} (ho : o.op = .index t x y) (hx : Kn σ x (.one (.str s))) (ht : stringB P t = true) (hy : Kn σ y (.one (.int .i64 m))) (hm : m = (i : Int)) (hi : i < s.size) :
    PureOp P o σ (.one (.int .u8 (byteAt s i))) := by
  have e : byteAt s i = ((s.get i hi).toNat : Int) := by unfold byteAt; rw [dif_pos hi]
  rw [e]; exact PureOp.indexStr ho hx ht hy hm hi
end Go.Proofs.Ytonfeiloekofdaa

namespace Go.Proofs.Ytonfeiloekofdaa
open Go.ChangeShapes Go.WideShapes Go.ChangeAt Go.RowKit Go.BigFrame Go.Deep
set_option linter.unusedVariables false
set_option linter.unusedSimpArgs false
def AV.flat : AV → Bool
  | .int _ _ => true
  | .bool _ => true
  | .str _ => true
  | _ => false
theorem AV.flat_val {ρ : Rho} {w : World} {S : Nat → Prop} {x : AV} {v : Value} (h : x.flat = true) (hr : R ρ w S x v) : v = x.val := by
  cases x <;> first | (cases h; done) | exact hr | exact hr.1
theorem RL.vals {ρ : Rho} {w : World} {S : Nat → Prop} : ∀ {l : List AV} {us : List Value}, l.all AV.flat = true → RL ρ w S l us → us = l.map AV.val
  | [], _, _, h => h
  | x :: l, _, hf, ⟨u, us, e, h1, h2⟩ => by
    rw [List.all_cons, Bool.and_eq_true] at hf
    rw [e, AV.flat_val hf.1 h1, RL.vals hf.2 h2]; rfl
section
variable {P : Program} {σ : Sig}
theorem agg_val {l : List AV} {x : Operand} {ρ : Rho} {S : Nat → Prop} {N : Nat} {w0 : Start} {w : World} {ac : Act} (hs : St N w0 ρ S σ ac w) (hx : Kn σ x (.agg l)) (fl : l.all AV.flat = true) : ac.eval x = .agg (l.map AV.val).toArray := by
  obtain ⟨us, e, h⟩ := hx.sound hs
  have := RL.vals fl h
  rw [e, ← this]
theorem PureOp.neAgg {o : Oper} {t t' : TypeId} {x y : Operand} {l m : List AV} {r : Bool} (ho : o.op = .binOp .neq t x y t') (hx : Kn σ x (.agg l)) (hy : Kn σ y (.agg m)) (fl : l.all AV.flat = true) (fm : m.all AV.flat = true) (hg : P.eqGuardType P.depth t = false)
    (he : ∀ w, (Op.equalIn 10000 t (.agg (l.map AV.val).toArray) (.agg (m.map AV.val).toArray)).run P w = .ok r w) : PureOp P o σ (.one (.bool (!r))) := by
  refine PureOp.val fun N w0 ρ S ac w hs => ?_
  have e1 := agg_val hs hx fl
  have e2 := agg_val hs hy fm
  refine ⟨_, rfl, fun w' _ => ?_⟩
  generalize ac.eval = ev at e1 e2 ⊢
  simp only [execOp, ho, e1, e2, Sem.run_bind, run_eqGuard_agg w' .neq t x y _ _ hg, Result.andThen_ok, run_neq_struct, he]
  simp [go_sem]
end
def pre {α : Type} [DecidableEq α] : List α → List α → Nat
  | x :: xs, y :: ys => if x = y then pre xs ys + 1 else 0
  | _, _ => 0
def foldMin (g : Nat → Nat) (a : Nat) : Nat → Nat
  | 0 => a
  | k + 1 => if g k < foldMin g a k then g k else foldMin g a k
end Go.Proofs.Ytonfeiloekofdaa

namespace Go.Proofs.Ytonfeiloekofdaa
open Go.ChangeShapes Go.WideShapes Go.ChangeAt Go.RowKit Go.BigFrame Go.Deep
set_option linter.unusedVariables false
set_option linter.unusedSimpArgs false
abbrev intsAV (l : List Int) : AV := .lst 1 l.length fun i _ => .int .i64 (l.getD i 0)
abbrev rowsAV (l : List (List Int)) : AV := .lst 1 l.length fun i _ => intsAV (l.getD i [])
section
variable {P : Program} {σ : Sig} {o : Oper}
theorem Vw.data {N : Nat} {w0 : Start} {ρ : Rho} {S : Nat → Prop} {a : Act} {w : World} (hs : St N w0 ρ S σ a w) {x y : AV} (h : Vw [] x y) {v : Value} (hr : R ρ w S x v) : D w S y v := by
  have hm : MemOk w0.base ρ S [] w := ⟨hs.mem.base, hs.mem.low, hs.mem.lt, fun id o ho => by simp at ho, fun id o ho => by simp at ho, fun id id' o o' ho => by simp at ho, fun id n X ho => by simp at ho⟩
  refine (h.sound hm hr).more fun b hb => ?_
  rcases hb with hb | ⟨id, o, ho, _⟩ | ⟨id, n, X, i, ho, _⟩
  · exact hb
  · simp at ho
  · simp at ho
end
end Go.Proofs.Ytonfeiloekofdaa

namespace Go.Proofs.Ytonfeiloekofdaa
open Go.ChangeShapes Go.WideShapes Go.ChangeAt Go.RowKit Go.BigFrame Go.Deep
set_option linter.unusedVariables false
set_option linter.unusedSimpArgs false
def AV.ren (g : Nat → Nat) : AV → AV
  | .ptr id sz i j => .ptr (g id) sz i j
  | .own id sz n => .own (g id) sz n
  | .fn f m caps => .fn f m fun j => (caps j).ren g
  | .tre id i => .tre (g id) i
  | .tl id sz q n => .tl (g id) sz q n
  | x => x
def Rho.ren (ρ : Rho) (g : Nat → Nat) : Rho := ⟨fun id => ρ.m (g id), ρ.base, fun id => ρ.tv (g id), fun id => ρ.tb (g id), fun id => ρ.tn (g id)⟩
theorem R.ren {ρ : Rho} {g : Nat → Nat} {w : World} {S : Nat → Prop} : ∀ {x : AV} {v : Value}, R ρ w S (x.ren g) v → R (ρ.ren g) w S x v
  | .int _ _, _, h => h
  | .bool _, _, h => h
  | .str _, _, h => h
  | .con _, _, h => h
  | .lst _ _ _, _, h => by unfold AV.ren R at h; unfold R; exact h
  | .ref _ _, _, h => by unfold AV.ren R at h; unfold R; exact h
  | .ptr _ _ _ _, _, h => by unfold AV.ren R at h; unfold R; exact h
  | .own _ _ _, _, h => by unfold AV.ren R at h; unfold R; exact h
  | .frs _, _, h => by unfold AV.ren R at h; unfold R; exact h
  | .tre _ _, _, h => by unfold AV.ren R at h; unfold R; exact h
  | .tl _ _ _ _, _, h => by unfold AV.ren R at h; unfold R; exact h
  | .cv _ _, _, h => by unfold AV.ren R at h; unfold R; exact h
  | .fn f m caps, _, h => by
    unfold AV.ren R at h
    unfold R
    obtain ⟨vs, e, hm, hc⟩ := h
    refine ⟨vs, e, hm, fun j hj => ?_⟩
    obtain ⟨u, hu, hr⟩ := hc j hj
    exact ⟨u, hu, R.ren hr⟩
def SV.ren (g : Nat → Nat) : SV → SV
  | .one x => .one (x.ren g)
  | .agg l => .agg (l.map (AV.ren g))
  | .tup2 x y => .tup2 (x.ren g) (y.ren g)
  | .tup3 x y z => .tup3 (x.ren g) (y.ren g) (z.ren g)
  | .tup4 x y z u => .tup4 (x.ren g) (y.ren g) (z.ren g) (u.ren g)
  | .gd b s => .gd b (s.ren g)
theorem RL.ren {ρ : Rho} {g : Nat → Nat} {w : World} {S : Nat → Prop} : ∀ {l : List AV} {us : List Value}, RL ρ w S (l.map (AV.ren g)) us → RL (ρ.ren g) w S l us
  | [], _, h => h
  | _ :: _, _, ⟨u, us, e, h1, h2⟩ => ⟨u, us, e, R.ren h1, RL.ren h2⟩
theorem RS.ren {ρ : Rho} {g : Nat → Nat} {w : World} {S : Nat → Prop} : ∀ {s : SV} {v : Value}, RS ρ w S (s.ren g) v → RS (ρ.ren g) w S s v
  | .one _, _, h => R.ren h
  | .agg _, _, ⟨us, e, h⟩ => ⟨us, e, RL.ren h⟩
  | .tup2 _ _, _, ⟨a, b, e, h1, h2⟩ => ⟨a, b, e, RS.ren h1, RS.ren h2⟩
  | .tup3 _ _ _, _, ⟨a, b, c, e, h1, h2, h3⟩ => ⟨a, b, c, e, RS.ren h1, RS.ren h2, RS.ren h3⟩
  | .tup4 _ _ _ _, _, ⟨a, b, c, d, e, h1, h2, h3, h4⟩ => ⟨a, b, c, d, e, RS.ren h1, RS.ren h2, RS.ren h3, RS.ren h4⟩
  | .gd _ _, _, h => ⟨fun hb => RS.ren (h.1 hb), h.2⟩
def AV.sc : AV → Bool
  | .int _ _ => true
  | .bool _ => true
  | .str _ => true
  | .con _ => true
  | .lst _ n _ => n == 0
  | _ => false
theorem AV.sc_r {ρ ρ' : Rho} {w w' : World} {S S' : Nat → Prop} {x : AV} {v : Value} (h : x.sc = true) (hr : R ρ w S x v) : R ρ' w' S' x v := by
  cases x <;> first | (cases h; done) | exact hr | skip
  obtain ⟨A, c, e, h1, h2, h3, h4⟩ := hr
  simp only [AV.sc, beq_iff_eq] at h
  subst h
  exact ⟨A, c, e, h1, h2, h3, fun i hi => absurd hi (by omega)⟩
def RSs (ρ : Rho) (w : World) (S : Nat → Prop) : List SV → List Value → Prop
  | [], us => us = []
  | s :: l, us => ∃ u us', us = u :: us' ∧ RS ρ w S s u ∧ RSs ρ w S l us'
theorem RSs.len {ρ : Rho} {w : World} {S : Nat → Prop} : ∀ {l : List SV} {us : List Value}, RSs ρ w S l us → us.length = l.length
  | [], us, h => by rw [show us = [] from h]; rfl
  | _ :: _, _, ⟨_, _, e, _, h2⟩ => by rw [e]; simp [RSs.len h2]
theorem RSs.get {ρ : Rho} {w : World} {S : Nat → Prop} : ∀ {l : List SV} {us : List Value} {i t : Nat} {s : SV}, RSs ρ w S l us → (enumE i l).lookup t = some s → ∃ j u, t = i + j ∧ us[j]? = some u ∧ RS ρ w S s u
  | [], _, _, _, _, _, h => by simp [enumE] at h
  | x :: l, _, i, t, s, ⟨u, us, e, h1, h2⟩, h => by
    subst e
    simp only [enumE, List.lookup_cons] at h
    by_cases e : t = i
    · subst e
      simp at h
      subst h
      exact ⟨0, u, rfl, rfl, h1⟩
    · have : (t == i) = false := by simpa using e
      rw [this] at h
      obtain ⟨j, u', e1, e2, e3⟩ := RSs.get h2 h
      exact ⟨j + 1, u', by omega, by simpa using e2, e3⟩
def FnG (P : Program) (f : FuncId) (args : List SV) (H : Heap) (r : SV) (H' : Heap) : Prop :=
  ∀ (ρ : Rho) (S : Nat → Prop) (w : World) (vs : List Value), MemOk ρ.base ρ S H w → Pre ρ.base w → RSs ρ w S args vs → Calls P f vs.toArray w fun e w' => ∃ v ρ' S', e = .returned v ∧ Below ρ.base w w' ∧ Same S w S' w' ∧ ρ'.base = ρ.base ∧ (∀ id, 1000000 ≤ id → Rho.At ρ ρ' id) ∧ MemOk ρ.base ρ' S' H' w' ∧ RS ρ' w' S' r v
def RetG (P : Program) (fn : Func) (r : SV) (H' : Heap) : Exit → Sig → Prop
  | .ret, σ => ResL P σ fn.results.toList r ∧ HeapLe σ.heap H'
  | .normal, σ => ResL P σ fn.results.toList r ∧ HeapLe σ.heap H'
  | _, _ => False
theorem FnG.of_body {P : Program} {f : FuncId} {fn : Func} {c : Code} {args : List SV} {r : SV} {H H' : Heap} (hf : P.funcs[f]? = some fn) (hb : fn.body = some c) (hle : args.length ≤ fn.ntmps)
    (h : ∀ w0, AW P fn.ntmps w0 c (RetG P fn r H') ⟨enumE 0 args, H⟩) : FnG P f args H r H' := by
  intro ρ0 S w vs hm hpre hd
  have hl := hd.len
  refine calls_of_wp hf hb ?_
  refine h ⟨ρ0.base, w, S, w, ρ0, hpre⟩ ρ0 S _ w _ (fun e ρ S' σ a w' hs hq => ?_) ⟨?_, rfl, ⟨Below.refl _ _, Same.refl _ _, fun _ _ => .refl _ _⟩, hm, ?_⟩
  · have fin : ResL P σ fn.results.toList r ∧ HeapLe σ.heap H' → a.defers = [] ∧ ∃ v, (results fn a.tmps).run P w' = .ok v w' ∧ (∃ v' ρ' S'', Ending.returned v = .returned v' ∧ Below ρ0.base w w' ∧ Same S w S'' w' ∧ ρ'.base = ρ0.base ∧ (∀ id, 1000000 ≤ id → Rho.At ρ0 ρ' id) ∧ MemOk ρ0.base ρ' S'' H' w' ∧ RS ρ' w' S'' r v') := fun ⟨hr, hh⟩ => by
      obtain ⟨v, hv, hrun⟩ := hr.run hs
      exact ⟨hs.defers, v, hrun, v, ρ, S', rfl, hs.below.old, hs.below.same, hs.mem.base, hs.below.ids, hs.mem.le hh, hv⟩
    cases e
    case ret => exact fin hq
    case normal => exact fin hq
    all_goals exact hq.elim
  · simp [hl]; omega
  · intro t s ht
    obtain ⟨j, u, e1, e2, e3⟩ := hd.get ht
    have hj : j < vs.length := (List.getElem?_eq_some_iff.1 e2).1
    have : ((vs.toArray ++ Array.replicate (fn.ntmps - vs.toArray.size) undef).getD t undef) = u := by
      rw [Array.getD_eq_getD_getElem?, Array.getElem?_append_left (by simp; omega)]
      simp [show t = j by omega, e2]
    show RS _ w S s ((vs.toArray ++ Array.replicate (fn.ntmps - vs.toArray.size) undef).getD t undef)
    rw [this]
    exact e3
theorem SV.Plain.r' {s : SV} (h : s.Plain) {ρ : Rho} {w : World} {S : Nat → Prop} {v : Value} (hr : RS ρ w S s v) : v = s.val := h.eq hr
theorem Rn.of_eq {ρ ρ' : Rho} {p : Nat → Prop} (h : ρ'.base = ρ.base) (he : ∀ id, Rho.At ρ ρ' id) : Rn ρ ρ' p := ⟨h, fun id => .inl (he id)⟩
section
variable {P : Program} {N : Nat} {w0 : Start} {σ : Sig} {ops : Array Oper} {rest : List Oper} {o : Oper} {Q : Sig → Prop}
def KnG (σ : Sig) (Hr : Heap) (g : Nat → Nat) : List Operand → List SV → Prop
  | [], [] => True
  | x :: xs, y :: ys => ((∃ s, Kn σ x s ∧ VS Hr s y) ∨ Kn σ x (y.ren g)) ∧ KnG σ Hr g xs ys
  | _, _ => False
theorem KnG.sound {ρ : Rho} {S : Nat → Prop} {a : Act} {w : World} {Hr : Heap} {g : Nat → Nat} (hs : St N w0 ρ S σ a w) (hm : MemOk w0.base ρ S Hr w) (hsame : Same S w (withOwn ρ Hr S) w) : ∀ {xs : List Operand} {ys : List SV}, KnG σ Hr g xs ys → RSs (ρ.ren g) w (withOwn ρ Hr S) ys (xs.map a.eval)
  | [], [], _ => rfl
  | _ :: _, _ :: _, ⟨h1, h2⟩ => by
    refine ⟨_, _, rfl, ?_, KnG.sound hs hm hsame h2⟩
    rcases h1 with ⟨s, k, h⟩ | h
    · exact (h.sound hm (k.sound hs)).toRS
    · exact RS.keep hsame (Rn.refl _ _) (RS.ren (h.sound hs))
  | [], _ :: _, h => h.elim
  | _ :: _, [], h => h.elim
def AV.hd : AV → Bool
  | .ptr id _ _ _ => Nat.ble 1000000 id
  | .own id _ _ => Nat.ble 1000000 id
  | x => x.sc
def SV.hd : SV → Bool
  | .one x => x.hd
  | .agg l => l.all AV.hd
  | .tup2 x y => x.hd && y.hd
  | .tup3 x y z => x.hd && y.hd && z.hd
  | .tup4 _ _ _ _ => false
  | .gd _ _ => false
end
end Go.Proofs.Ytonfeiloekofdaa

namespace Go.Proofs.Ytonfeiloekofdaa
open Go.ChangeShapes Go.WideShapes Go.ChangeAt Go.RowKit Go.BigFrame Go.Deep
set_option linter.unusedVariables false
set_option linter.unusedSimpArgs false
section
variable {P : Program} {N : Nat} {w0 : Start} {σ : Sig} {ops : Array Oper} {rest : List Oper} {o : Oper} {Q : Sig → Prop}
theorem St.phantomAt (b0 : Nat) {ρ : Rho} {S : Nat → Prop} {a : Act} {w : World} (hs : St N w0 ρ S σ a w) {id : Nat} (hf : Fr id σ) (sz : Nat) (f : Nat → Nat → AV) :
    ∃ ρ' : Rho, ρ' id = (b0, 0) ∧ St N w0 ρ' S (σ.set id (.arr sz 0 f)) a w := by
  refine ⟨⟨fun k => if k = id then (b0, 0) else ρ k, ρ.base, ρ.tv, ρ.tb, ρ.tn⟩, by simp, ?_⟩
  have hρ : ∀ k, k ≠ id → (if k = id then (b0, 0) else ρ k) = ρ k := fun k hk => if_neg hk
  have hsame : Same S w S w := Same.refl _ _
  have hρA : ∀ k, k ≠ id → Rho.At ρ ⟨fun k => if k = id then (b0, 0) else ρ k, ρ.base, ρ.tv, ρ.tb, ρ.tn⟩ k := fun k hk => ⟨hρ k hk, rfl, rfl, rfl⟩
  refine ⟨hs.size, hs.defers, ⟨hs.below.old, hs.below.same, fun k hk => (hs.below.ids k hk).trans (hρA k (fun e => by have := hf.small; omega))⟩, ⟨hs.mem.base, hs.mem.low, hs.mem.lt, ?_, ?_, ?_, ?_⟩, ?_⟩
  · intro k p hp
    rcases lookup_put hp with ⟨rfl, rfl⟩ | ⟨hne, hp⟩
    · simp [AObj.n]
    · simp only [hρ k hne]; exact hs.mem.cap k p hp
  · intro k p hp hc
    rcases lookup_put hp with ⟨rfl, rfl⟩ | ⟨hne, hp⟩
    · simp at hc
    · obtain ⟨_, hno⟩ := hf.heap.get hp
      simp only [hρ k hne] at hc
      obtain ⟨cs', e', g1, g2, g3, g4, g5, g6, g7⟩ := hs.mem.obj k p hp hc
      simp only [hρ k hne]
      refine ⟨cs', e', g1, g2, g3, g4, g5, g6, fun i j hi hj => ?_⟩
      obtain ⟨u, hu, hr⟩ := g7 i j hi hj
      exact ⟨u, hu, hr.keep (ρ := ρ) hsame ⟨rfl, fun q => by
        by_cases hq : q = id
        · subst hq; exact .inr (hno.at_ i j)
        · exact .inl (hρA q hq)⟩⟩
  · intro k k' p p' hp hp' hne hc hc'
    rcases lookup_put hp with ⟨rfl, rfl⟩ | ⟨q1, hp2⟩ <;> rcases lookup_put hp' with ⟨rfl, rfl⟩ | ⟨q2, hp2'⟩
    · exact absurd rfl hne
    · simp at hc
    · simp at hc'
    · simp only [hρ k q1] at hc
      simp only [hρ k' q2] at hc'
      simp only [hρ k q1, hρ k' q2]
      exact hs.mem.inj k k' p p' hp2 hp2' hne hc hc'
  · refine hs.mem.treeOf (Nat.le_refl _) (fun k n X hX => ?_) (fun k n X i b hX hi hb' => ?_) (fun k p hp hc => ?_)
    · rcases lookup_put hX with ⟨rfl, e⟩ | ⟨hne, hX⟩
      · cases e
      · exact ⟨X, hX, fun _ _ => rfl, rfl, rfl, rfl⟩
    · obtain ⟨q1, q2, q3, _⟩ := (hs.mem.tree k n X hX i hi).2 b hb'
      exact ⟨rfl, q2, q3⟩
    · rcases lookup_put hp with ⟨rfl, rfl⟩ | ⟨hne, hp⟩
      · simp at hc
      · exact .inl ⟨p, hp, hρ k hne⟩
  · intro t s ht
    refine (hs.env t s ht).keep (ρ := ρ) hsame ⟨rfl, fun q => ?_⟩
    by_cases hq : q = id
    · subst hq
      exact .inr (List.all_eq_true.1 hf.env _ (lookup_mem ht))
    · exact .inl (hρA q hq)
theorem St.phantom {ρ : Rho} {S : Nat → Prop} {a : Act} {w : World} (hs : St N w0 ρ S σ a w) {id : Nat} (hf : Fr id σ) (sz : Nat) (f : Nat → Nat → AV) :
    ∃ ρ' : Rho, ρ' id = (0, 0) ∧ St N w0 ρ' S (σ.set id (.arr sz 0 f)) a w := hs.phantomAt 0 hf sz f
end
end Go.Proofs.Ytonfeiloekofdaa

namespace Go.Proofs.Ytonfeiloekofdaa
open Go.ChangeShapes Go.WideShapes Go.ChangeAt Go.RowKit Go.BigFrame Go.Deep
set_option linter.unusedVariables false
set_option linter.unusedSimpArgs false
theorem Vw.cast {H : Heap} {x y z : AV} (h : Vw H x y) (e : y = z) : Vw H x z := e ▸ h
def SV.leaves : SV → List AV
  | .one x => [x]
  | .agg l => l
  | .tup2 x y => x.leaves ++ y.leaves
  | .tup3 x y z => x.leaves ++ (y.leaves ++ z.leaves)
  | .tup4 _ _ _ _ => []
  | .gd _ s => s.leaves
def Shape : SV → List Value → Value → Prop
  | .one _, us, v => us = [v]
  | .agg l, us, v => v = .agg us.toArray ∧ us.length = l.length
  | .tup2 x y, us, v => ∃ a b us1 us2, v = .tuple #[a, b] ∧ us = us1 ++ us2 ∧ Shape x us1 a ∧ Shape y us2 b
  | .tup3 x y z, us, v => ∃ a b c us1 us2 us3, v = .tuple #[a, b, c] ∧ us = us1 ++ (us2 ++ us3) ∧ Shape x us1 a ∧ Shape y us2 b ∧ Shape z us3 c
  | .tup4 _ _ _ _, _, _ => False
  | .gd _ _, _, _ => False
theorem RL.append {ρ : Rho} {w : World} {S : Nat → Prop} : ∀ {l m : List AV} {us vs : List Value}, RL ρ w S l us → RL ρ w S m vs → RL ρ w S (l ++ m) (us ++ vs)
  | [], _, _, _, h, k => by rw [show _ = [] from h]; exact k
  | _ :: _, _, _, _, ⟨u, us, e, h1, h2⟩, k => ⟨u, _, by rw [e]; rfl, h1, RL.append h2 k⟩
theorem RL.split {ρ : Rho} {w : World} {S : Nat → Prop} : ∀ {l m : List AV} {us vs : List Value}, us.length = l.length → RL ρ w S (l ++ m) (us ++ vs) → RL ρ w S l us ∧ RL ρ w S m vs
  | [], _, [], _, _, h => ⟨rfl, h⟩
  | [], _, _ :: _, _, e, _ => by simp at e
  | _ :: _, _, [], _, e, _ => by simp at e
  | x :: l, m, u :: us, vs, e, ⟨u', us', e1, h1, h2⟩ => by
    simp only [List.cons_append, List.cons.injEq] at e1
    obtain ⟨rfl, rfl⟩ := e1
    obtain ⟨k1, k2⟩ := RL.split (by simpa using e) h2
    exact ⟨⟨_, _, rfl, h1, k1⟩, k2⟩
theorem Shape.len : ∀ {s : SV} {us : List Value} {v : Value}, Shape s us v → us.length = s.leaves.length
  | .one _, _, _, h => by rw [show _ = [_] from h]; rfl
  | .agg _, _, _, h => h.2
  | .tup2 x y, _, _, ⟨a, b, us1, us2, _, e, h1, h2⟩ => by rw [e]; simp [SV.leaves, h1.len, h2.len]
  | .tup3 x y z, _, _, ⟨a, b, c, us1, us2, us3, _, e, h1, h2, h3⟩ => by rw [e]; simp [SV.leaves, h1.len, h2.len, h3.len]
  | .tup4 _ _ _ _, _, _, h => h.elim
  | .gd _ _, _, _, h => h.elim
def SV.ng : SV → Bool
  | .tup2 x y => x.ng && y.ng
  | .tup3 x y z => x.ng && (y.ng && z.ng)
  | .tup4 _ _ _ _ => false
  | .gd _ _ => false
  | _ => true
theorem RS.shape {ρ : Rho} {w : World} {S : Nat → Prop} : ∀ {s : SV} {v : Value}, s.ng = true → RS ρ w S s v → ∃ us, Shape s us v ∧ RL ρ w S s.leaves us
  | .one _, v, _, h => ⟨[v], rfl, v, [], rfl, h, rfl⟩
  | .agg _, _, _, ⟨us, e, h⟩ => ⟨us.toList, ⟨by rw [e], h.len⟩, h⟩
  | .tup2 x y, _, n, ⟨a, b, e, h1, h2⟩ => by
    rw [SV.ng, Bool.and_eq_true] at n
    obtain ⟨us, k1, k2⟩ := RS.shape n.1 h1
    obtain ⟨vs, j1, j2⟩ := RS.shape n.2 h2
    exact ⟨us ++ vs, ⟨a, b, us, vs, e, rfl, k1, j1⟩, k2.append j2⟩
  | .tup4 _ _ _ _, _, n, _ => by cases n
  | .tup3 x y z, _, n, ⟨a, b, c, e, h1, h2, h3⟩ => by
    rw [SV.ng, Bool.and_eq_true, Bool.and_eq_true] at n
    obtain ⟨us, k1, k2⟩ := RS.shape n.1 h1
    obtain ⟨vs, j1, j2⟩ := RS.shape n.2.1 h2
    obtain ⟨ts, i1, i2⟩ := RS.shape n.2.2 h3
    exact ⟨us ++ (vs ++ ts), ⟨a, b, c, us, vs, ts, e, rfl, k1, j1, i1⟩, k2.append (j2.append i2)⟩
  | .gd _ _, _, n, _ => by cases n
theorem Shape.rs {ρ : Rho} {w : World} {S : Nat → Prop} : ∀ {s : SV} {us : List Value} {v : Value}, Shape s us v → RL ρ w S s.leaves us → RS ρ w S s v
  | .one _, _, _, e, h => by
    obtain ⟨u, us, e1, h1, _⟩ := h
    rw [show _ = [_] from e] at e1
    simp only [List.cons.injEq] at e1
    obtain ⟨rfl, _⟩ := e1
    exact h1
  | .agg _, us, _, ⟨e, _⟩, h => ⟨us.toArray, e, by simpa [SV.leaves] using h⟩
  | .tup2 x y, _, _, ⟨a, b, us1, us2, e, e2, h1, h2⟩, h => by
    rw [e2] at h
    obtain ⟨k1, k2⟩ := RL.split h1.len h
    exact ⟨a, b, e, h1.rs k1, h2.rs k2⟩
  | .tup4 _ _ _ _, _, _, h, _ => h.elim
  | .tup3 x y z, _, _, ⟨a, b, c, us1, us2, us3, e, e2, h1, h2, h3⟩, h => by
    rw [e2] at h
    obtain ⟨k1, k2⟩ := RL.split h1.len h
    obtain ⟨k3, k4⟩ := RL.split h2.len k2
    exact ⟨a, b, c, e, h1.rs k1, h2.rs k3, h3.rs k4⟩
  | .gd _ _, _, _, h, _ => h.elim
def nmA (id p : Nat) : AV → AV
  | .lst _ _ _ => .tre id p
  | x => x
def nmL (id : Nat) : Nat → List AV → List AV
  | _, [] => []
  | p, x :: l => nmA id p x :: nmL id (p + 1) l
def SV.nm (id : Nat) : Nat → SV → SV
  | p, .one x => .one (nmA id p x)
  | p, .agg l => .agg (nmL id p l)
  | p, .tup2 x y => .tup2 (x.nm id p) (y.nm id (p + x.leaves.length))
  | _, .tup4 x y z u => .tup4 x y z u
  | p, .tup3 x y z => .tup3 (x.nm id p) (y.nm id (p + x.leaves.length)) (z.nm id (p + x.leaves.length + y.leaves.length))
  | p, .gd b s => .gd b (s.nm id p)
theorem nmL_len {id : Nat} : ∀ {l : List AV} {p : Nat}, (nmL id p l).length = l.length
  | [], _ => rfl
  | _ :: l, p => by simp [nmL, nmL_len (l := l)]
theorem nmL_append {id : Nat} : ∀ {l m : List AV} {p : Nat}, nmL id p (l ++ m) = nmL id p l ++ nmL id (p + l.length) m
  | [], _, _ => by simp [nmL]
  | _ :: l, m, p => by
    simp only [List.cons_append, nmL, nmL_append (l := l), List.length_cons]
    rw [show p + (l.length + 1) = p + 1 + l.length by omega]
theorem leaves_nm {id : Nat} : ∀ {s : SV} {p : Nat}, (s.nm id p).leaves = nmL id p s.leaves
  | .one _, _ => rfl
  | .agg _, _ => rfl
  | .tup2 x y, p => by simp only [SV.nm, SV.leaves, nmL_append, leaves_nm (s := x), leaves_nm (s := y)]
  | .tup4 _ _ _ _, _ => rfl
  | .tup3 x y z, p => by simp only [SV.nm, SV.leaves, nmL_append, leaves_nm (s := x), leaves_nm (s := y), leaves_nm (s := z)]
  | .gd _ s, p => by simp only [SV.nm, SV.leaves, leaves_nm (s := s)]
theorem Shape.nm {id : Nat} : ∀ {s : SV} {p : Nat} {us : List Value} {v : Value}, Shape (s.nm id p) us v ↔ Shape s us v
  | .one _, _, _, _ => Iff.rfl
  | .agg _, _, _, _ => by simp only [SV.nm, Shape, nmL_len]
  | .tup2 x y, p, _, _ => by simp only [SV.nm, Shape, Shape.nm (s := x), Shape.nm (s := y)]
  | .tup4 _ _ _ _, _, _, _ => Iff.rfl
  | .tup3 x y z, p, _, _ => by simp only [SV.nm, Shape, Shape.nm (s := x), Shape.nm (s := y), Shape.nm (s := z)]
  | .gd _ _, _, _, _ => Iff.rfl
def TLs (w : World) (G : Nat → Nat → Prop) : Nat → List AV → List Value → Prop
  | _, [], us => us = []
  | p, x :: l, us => ∃ u us', us = u :: us' ∧ Tr w x u (G p) ∧ TLs w G (p + 1) l us'
def Dj (G : Nat → Nat → Prop) (n : Nat) : Prop := ∀ p q b, p < n → q < n → p ≠ q → G p b → ¬ G q b
def TRf (w : World) (G : Nat → Nat → Prop) (x : SV) (v : Value) : Prop := ∃ us, Shape x us v ∧ TLs w G 0 x.leaves us
theorem TLs.len {w : World} {G : Nat → Nat → Prop} : ∀ {l : List AV} {p : Nat} {us : List Value}, TLs w G p l us → us.length = l.length
  | [], _, _, h => by rw [show _ = [] from h]; rfl
  | _ :: l, _, _, ⟨u, us, e, _, h⟩ => by rw [e]; simp [h.len]
theorem TLs.get {w : World} {G : Nat → Nat → Prop} : ∀ {l : List AV} {p : Nat} {us : List Value}, TLs w G p l us → ∀ {k : Nat}, k < l.length → Tr w (l.getD k (.con undef)) (us.getD k undef) (G (p + k))
  | [], _, _, _, k, hk => absurd hk (by simp)
  | x :: l, p, _, ⟨u, us, e, h1, h2⟩, k, hk => by
    subst e
    cases k with
    | zero => simpa using h1
    | succ k =>
      have := TLs.get h2 (k := k) (by simpa using hk)
      rw [show p + (k + 1) = p + 1 + k by omega]
      simpa using this
theorem TLs.mk {w : World} {G : Nat → Nat → Prop} : ∀ {l : List AV} {p : Nat} {us : List Value}, us.length = l.length → (∀ k, k < l.length → Tr w (l.getD k (.con undef)) (us.getD k undef) (G (p + k))) → TLs w G p l us
  | [], _, us, e, _ => List.eq_nil_of_length_eq_zero e
  | x :: l, p, [], e, _ => by simp at e
  | x :: l, p, u :: us, e, h => by
    refine ⟨u, us, rfl, by simpa using h 0 (by simp), TLs.mk (by simpa using e) fun k hk => ?_⟩
    have := h (k + 1) (by simpa using hk)
    rw [show p + 1 + k = p + (k + 1) by omega]
    simpa using this
theorem Tr.slice {w : World} {sz n : Nat} {f : Nat → Nat → AV} {v : Value} {B : Nat → Prop} (h : Tr w (.lst sz n f) v B) : ∃ A m c, v = .slice A m c := by
  unfold Tr at h
  obtain ⟨A, c, e, _⟩ := h
  exact ⟨A, n, c, e⟩
theorem nmA_r {ρ : Rho} {w : World} {S B : Nat → Prop} {id p : Nat} {x : AV} {u : Value} (h : Tr w x u B) (hv : ρ.tv id p = u) (hn : p < ρ.tn id) : R ρ w S (nmA id p x) u := by
  cases x with
  | lst sz n f => exact ⟨hv.symm, hn, h.slice⟩
  | int _ _ => exact h
  | bool _ => exact h
  | str _ => exact h
  | con _ => exact h
  | ref _ _ => exact h.elim
  | ptr _ _ _ _ => exact h.elim
  | own _ _ _ => exact h.elim
  | fn _ _ _ => exact h.elim
  | frs _ => exact h.elim
  | tre _ _ => exact h.elim
  | tl _ _ _ _ => exact h.elim
  | cv _ _ => exact h.elim
theorem nmL_r {ρ : Rho} {w : World} {S : Nat → Prop} {id : Nat} {G : Nat → Nat → Prop} : ∀ {l : List AV} {p q : Nat} {us : List Value}, TLs w G p l us → (∀ k, k < l.length → ρ.tv id (q + k) = us.getD k undef ∧ q + k < ρ.tn id) → RL ρ w S (nmL id q l) us
  | [], _, _, _, h, _ => h
  | x :: l, p, q, _, ⟨u, us, e, h1, h2⟩, hv => by
    subst e
    obtain ⟨a, b⟩ := hv 0 (by simp)
    refine ⟨u, us, rfl, nmA_r h1 (by simpa using a) (by simpa using b), nmL_r h2 fun k hk => ?_⟩
    obtain ⟨a, b⟩ := hv (k + 1) (by simpa using hk)
    rw [show q + 1 + k = q + (k + 1) by omega]
    exact ⟨by simpa using a, b⟩
def AV.lf : AV → Bool
  | .int _ _ => true
  | .bool _ => true
  | .str _ => true
  | .con _ => true
  | .lst _ _ _ => true
  | _ => false
def AV.isL : AV → Bool
  | .lst _ _ _ => true
  | _ => false
def FnT (P : Program) (f : FuncId) (args : List SV) (y : SV) : Prop :=
  ∀ (w : World) (S : Nat → Prop) (vs : List Value), Rd S w → DSs w S args vs → Calls P f vs.toArray w fun e w' => ∃ v G, e = .returned v ∧ Below w.heap.size w w' ∧ TRf w' G y v ∧ Dj G y.leaves.length ∧ ∀ p b, p < y.leaves.length → G p b → newS w w' b
theorem DL.split {w : World} {S : Nat → Prop} : ∀ {l m : List AV} {us vs : List Value}, us.length = l.length → DL w S (l ++ m) (us ++ vs) → DL w S l us ∧ DL w S m vs
  | [], _, [], _, _, h => ⟨rfl, h⟩
  | [], _, _ :: _, _, e, _ => by simp at e
  | _ :: _, _, [], _, e, _ => by simp at e
  | x :: l, m, u :: us, vs, e, ⟨u', us', e1, h1, h2⟩ => by
    simp only [List.cons_append, List.cons.injEq] at e1
    obtain ⟨rfl, rfl⟩ := e1
    obtain ⟨k1, k2⟩ := DL.split (by simpa using e) h2
    exact ⟨⟨_, _, rfl, h1, k1⟩, k2⟩
section
variable {P : Program} {N : Nat} {w0 : Start} {σ : Sig} {ops : Array Oper} {rest : List Oper} {o : Oper} {Q : Sig → Prop}
theorem St.absorb {ρ : Rho} {S : Nat → Prop} {a : Act} {w w' : World} (hs : St N w0 ρ S σ a w) {K n : Nat} {X : Nat → AV} (hK : σ.heap.lookup K = some (.trees n X)) (hlt : K < 1000000) (hb : Below w.heap.size w w') {y : SV} {v : Value} {G : Nat → Nat → Prop}
    (hy : TRf w' G y v) (hD : Dj G y.leaves.length) (hG : ∀ p b, p < y.leaves.length → G p b → newS w w' b) {X' : Nat → AV} (hX1 : ∀ q, q < n → X' q = X q) (hX2 : ∀ p, p < y.leaves.length → X' (n + p) = y.leaves.getD p (.con undef)) :
    ∃ ρ', St N w0 ρ' S ⟨σ.env, (K, .trees (n + y.leaves.length) X') :: σ.heap⟩ a w' ∧ RS ρ' w' S (y.nm K n) v := by
  obtain ⟨us, hsh, htl⟩ := hy
  have htn : ρ.tn K = n := (hs.mem.tree0 K n X hK).1
  let ρ' : Rho := ⟨ρ.m, ρ.base, fun k q => if k = K ∧ n ≤ q then us.getD (q - n) undef else ρ.tv k q, fun k q => if k = K ∧ n ≤ q then G (q - n) else ρ.tb k q, fun k => if k = K then n + y.leaves.length else ρ.tn k⟩
  have hsame : Same S w S w' := hs.mem.same hb
  have hsz := hb.size
  have hAt : ∀ id, id ≠ K → Rho.At ρ ρ' id := fun id hid => ⟨rfl, by funext q; simp [ρ', hid], by funext q; simp [ρ', hid], by simp [ρ', hid]⟩
  have hkeep : ∀ {x : AV} {u : Value}, R ρ w S x u → R ρ' w' S x u := by
    intro x
    induction x with
    | tre id i =>
      rintro u ⟨e, hi, hsl⟩
      by_cases hid : id = K
      · subst hid
        refine ⟨?_, ?_, hsl⟩
        · rw [e]; show _ = (if id = id ∧ n ≤ i then _ else _); rw [if_neg (by omega)]
        · show i < (if id = id then _ else _); rw [if_pos rfl]; omega
      · have h1 := hAt id hid
        exact ⟨by rw [h1.v]; exact e, by rw [h1.n]; exact hi, hsl⟩
    | fn g m caps ih =>
      rintro u ⟨vs, e, hm, hc⟩
      refine ⟨vs, e, hm, fun j hj => ?_⟩
      obtain ⟨u, hu, hr⟩ := hc j hj
      exact ⟨u, hu, ih j hr⟩
    | frs x => intro u h; exact D.keep (hsame.fresh (ρ := ρ) (ρ' := ρ') rfl) h
    | lst _ _ _ => intro u h; exact D.keep hsame h
    | ref _ _ => intro u h; exact D.keep hsame h
    | int _ _ => exact fun h => h
    | bool _ => exact fun h => h
    | str _ => exact fun h => h
    | con _ => exact fun h => h
    | tl _ _ _ _ => exact fun h => h
    | cv _ _ => intro u h; exact ⟨h.1, D.keep hsame h.2⟩
    | ptr _ _ _ _ => exact fun h => h
    | own _ _ _ => exact fun h => h
  have hkeepL : ∀ {l : List AV} {us : List Value}, RL ρ w S l us → RL ρ' w' S l us := by
    intro l
    induction l with
    | nil => exact fun h => h
    | cons x l ih => rintro us ⟨u, us', e, h1, h2⟩; exact ⟨u, us', e, hkeep h1, ih h2⟩
  have hkeepS : ∀ {s : SV} {u : Value}, RS ρ w S s u → RS ρ' w' S s u := by
    intro s
    induction s with
    | one x => exact hkeep
    | agg l => rintro u ⟨us, e, h⟩; exact ⟨us, e, hkeepL h⟩
    | tup2 x y ih1 ih2 => rintro u ⟨a, b, e, h1, h2⟩; exact ⟨a, b, e, ih1 h1, ih2 h2⟩
    | tup4 x y z t ih1 ih2 ih3 ih4 => rintro u ⟨a, b, c, d, e, h1, h2, h3, h4⟩; exact ⟨a, b, c, d, e, ih1 h1, ih2 h2, ih3 h3, ih4 h4⟩
    | tup3 x y z ih1 ih2 ih3 => rintro u ⟨a, b, c, e, h1, h2, h3⟩; exact ⟨a, b, c, e, ih1 h1, ih2 h2, ih3 h3⟩
    | gd b s ih => rintro u ⟨h1, h2⟩; exact ⟨fun hb => ih (h1 hb), h2⟩
  refine ⟨ρ', ⟨hs.size, hs.defers, ⟨hs.below.old.trans (hb.mono hs.mem.low), hs.below.same.trans hsame, fun k hk => (hs.below.ids k hk).trans (hAt k (by omega))⟩, ⟨hs.mem.base, Nat.le_trans hs.mem.low hsz, fun b h => Nat.lt_of_lt_of_le (hs.mem.lt b h) hsz, ?_, ?_, ?_, ?_⟩, fun t s ht => hkeepS (hs.env t s ht)⟩, ?_⟩
  · intro id p hp
    rcases lookup_put hp with ⟨rfl, rfl⟩ | ⟨_, hp⟩
    · exact Nat.zero_le _
    · exact hs.mem.cap id p hp
  · intro id p hp hc
    rcases lookup_put hp with ⟨rfl, rfl⟩ | ⟨_, hp⟩
    · obtain ⟨cs, e, h1, h2, h3, h4, h5, h6, h7⟩ := hs.mem.obj id _ hK hc
      exact ⟨cs, e, by rw [hb.block _ (hs.mem.blk hK hc)]; exact h1, h2, h3, h4, h5, h6, fun i j hi => absurd hi (Nat.not_lt_zero _)⟩
    · obtain ⟨cs, e, h1, h2, h3, h4, h5, h6, h7⟩ := hs.mem.obj id p hp hc
      refine ⟨cs, e, by rw [hb.block _ (hs.mem.blk hp hc)]; exact h1, h2, h3, h4, h5, h6, fun i j hi hj => ?_⟩
      obtain ⟨u, hu, hr⟩ := h7 i j hi hj
      exact ⟨u, hu, hkeep hr⟩
  · have conv : ∀ {id p}, ((K, AObj.trees (n + y.leaves.length) X') :: σ.heap).lookup id = some p → ∃ p', σ.heap.lookup id = some p' := fun {id p} hp => by
      rcases lookup_put hp with ⟨rfl, rfl⟩ | ⟨_, hp⟩
      · exact ⟨_, hK⟩
      · exact ⟨p, hp⟩
    intro id id' p p' hp hp' hne hc hc'
    obtain ⟨q, hq⟩ := conv hp
    obtain ⟨q', hq'⟩ := conv hp'
    exact hs.mem.inj id id' q q' hq hq' hne hc hc'
  · -- the trees
    have cell : ∀ id m Y, ((K, AObj.trees (n + y.leaves.length) X') :: σ.heap).lookup id = some (.trees m Y) → ∀ i, i < m → (∃ m' Y', σ.heap.lookup id = some (.trees m' Y') ∧ i < m' ∧ Y i = Y' i ∧ ρ'.tv id i = ρ.tv id i ∧ ρ'.tb id i = ρ.tb id i ∧ (id = K → i < n)) ∨ (id = K ∧ ∃ p, p < y.leaves.length ∧ i = n + p ∧ Y i = y.leaves.getD p (.con undef) ∧ ρ'.tv id i = us.getD p undef ∧ ρ'.tb id i = G p) := by
      intro id m Y hY i hi
      rcases lookup_put hY with ⟨rfl, e⟩ | ⟨hne, hY⟩
      · cases e
        by_cases hin : i < n
        · exact .inl ⟨n, X, hK, hin, hX1 i hin, by simp only [ρ']; rw [if_neg (by omega)], by simp only [ρ']; rw [if_neg (by omega)], fun _ => hin⟩
        · refine .inr ⟨rfl, i - n, by omega, by omega, ?_, if_pos ⟨rfl, by omega⟩, if_pos ⟨rfl, by omega⟩⟩
          have := hX2 (i - n) (by omega)
          rwa [show n + (i - n) = i by omega] at this
      · exact .inl ⟨m, Y, hY, hi, rfl, by rw [(hAt id hne).v], by rw [(hAt id hne).b], fun e => absurd e hne⟩
    intro id m Y hY
    refine ⟨?_, fun i hi => ?_⟩
    · rcases lookup_put hY with ⟨rfl, e⟩ | ⟨hne, hY⟩
      · cases e
        show (if id = id then _ else _) = _
        rw [if_pos rfl]
      · rw [(hAt id hne).n]; exact (hs.mem.tree0 id m Y hY).1
    rcases cell id m Y hY i hi with ⟨m', Y', g1, g2, g3, g4, g5, g6⟩ | ⟨rfl, p, g1, g2, g3, g4, g5⟩
    · obtain ⟨k1, k2⟩ := hs.mem.tree id m' Y' g1 i g2
      rw [g3, g4, g5]
      refine ⟨k1.keep fun b hb' => hb.block b (k2 b hb').2.1, fun b hb' => ?_⟩
      obtain ⟨q1, q2, q3, q4, q5⟩ := k2 b hb'
      refine ⟨q1, by omega, q3, fun id' o ho hc => ?_, fun id' m2 Y2 i' hY2 hi2 hne => ?_⟩
      · rcases lookup_put ho with ⟨rfl, rfl⟩ | ⟨_, ho⟩
        · exact q4 id' _ hK hc
        · exact q4 id' o ho hc
      · rcases cell id' m2 Y2 hY2 i' hi2 with ⟨m3, Y3, f1, f2, f3, f4, f5, f6⟩ | ⟨rfl, p2, f1, f2, f3, f4, f5⟩
        · rw [f5]; exact q5 id' m3 Y3 i' f1 f2 hne
        · rw [f5]
          intro hg
          have := (hG p2 b f1 hg).1
          omega
    · have hT := htl.get (k := p) g1
      rw [Nat.zero_add] at hT
      rw [g3, g4, g5]
      refine ⟨hT, fun b hb' => ?_⟩
      obtain ⟨q1, q2⟩ := hG p b g1 hb'
      refine ⟨Nat.le_trans hs.mem.low q1, q2, fun h => absurd (hs.mem.lt b h) (by omega), fun id' o ho hc => ?_, fun id' m2 Y2 i' hY2 hi2 hne => ?_⟩
      · have : ∃ o', σ.heap.lookup id' = some o' := by
          rcases lookup_put ho with ⟨rfl, rfl⟩ | ⟨_, ho⟩
          · exact ⟨_, hK⟩
          · exact ⟨_, ho⟩
        obtain ⟨o', ho'⟩ := this
        have := hs.mem.blk ho' hc
        intro e
        have : (ρ id').1 = b := e
        omega
      · rcases cell id' m2 Y2 hY2 i' hi2 with ⟨m3, Y3, f1, f2, f3, f4, f5, f6⟩ | ⟨rfl, p2, f1, f2, f3, f4, f5⟩
        · rw [f5]
          intro hg
          have := ((hs.mem.tree id' m3 Y3 f1 i' f2).2 b hg).2.1
          omega
        · rw [f5]
          exact hD p p2 b g1 f1 (fun e => hne ⟨rfl, by omega⟩) hb'
  · refine Shape.rs (Shape.nm.2 hsh) ?_
    rw [leaves_nm]
    refine nmL_r htl fun k hk => ⟨?_, ?_⟩
    · show (if K = K ∧ n ≤ n + k then us.getD (n + k - n) undef else _) = _
      rw [if_pos ⟨rfl, by omega⟩, show n + k - n = k by omega]
    · show n + k < (if K = K then _ else _)
      rw [if_pos rfl]; omega
theorem St.fam {ρ : Rho} {S : Nat → Prop} {a : Act} {w : World} (hs : St N w0 ρ S σ a w) {id : Nat} (hf : Fr id σ) (X : Nat → AV) : ∃ ρ' : Rho, St N w0 ρ' S (σ.set id (.trees 0 X)) a w := by
  refine ⟨⟨fun k => if k = id then (0, 0) else ρ k, ρ.base, ρ.tv, ρ.tb, fun k => if k = id then 0 else ρ.tn k⟩, ?_⟩
  have hρ : ∀ k, k ≠ id → (if k = id then (0, 0) else ρ k) = ρ k := fun k hk => if_neg hk
  have hsame : Same S w S w := Same.refl _ _
  have hρA : ∀ k, k ≠ id → Rho.At ρ ⟨fun k => if k = id then (0, 0) else ρ k, ρ.base, ρ.tv, ρ.tb, fun k => if k = id then 0 else ρ.tn k⟩ k := fun k hk => ⟨hρ k hk, rfl, rfl, if_neg hk⟩
  refine ⟨hs.size, hs.defers, ⟨hs.below.old, hs.below.same, fun k hk => (hs.below.ids k hk).trans (hρA k (fun e => by have := hf.small; omega))⟩, ⟨hs.mem.base, hs.mem.low, hs.mem.lt, ?_, ?_, ?_, ?_⟩, ?_⟩
  · intro k p hp
    rcases lookup_put hp with ⟨rfl, rfl⟩ | ⟨hne, hp⟩
    · exact Nat.zero_le _
    · simp only [hρ k hne]; exact hs.mem.cap k p hp
  · intro k p hp hc
    rcases lookup_put hp with ⟨rfl, rfl⟩ | ⟨hne, hp⟩
    · simp at hc
    · obtain ⟨_, hno⟩ := hf.heap.get hp
      simp only [hρ k hne] at hc
      obtain ⟨cs', e', g1, g2, g3, g4, g5, g6, g7⟩ := hs.mem.obj k p hp hc
      simp only [hρ k hne]
      refine ⟨cs', e', g1, g2, g3, g4, g5, g6, fun i j hi hj => ?_⟩
      obtain ⟨u, hu, hr⟩ := g7 i j hi hj
      exact ⟨u, hu, hr.keep (ρ := ρ) hsame ⟨rfl, fun q => by
        by_cases hq : q = id
        · subst hq; exact .inr (hno.at_ i j)
        · exact .inl (hρA q hq)⟩⟩
  · intro k k' p p' hp hp' hne hc hc'
    rcases lookup_put hp with ⟨rfl, rfl⟩ | ⟨q1, hp2⟩ <;> rcases lookup_put hp' with ⟨rfl, rfl⟩ | ⟨q2, hp2'⟩
    · exact absurd rfl hne
    · simp at hc
    · simp at hc'
    · simp only [hρ k q1] at hc
      simp only [hρ k' q2] at hc'
      simp only [hρ k q1, hρ k' q2]
      exact hs.mem.inj k k' p p' hp2 hp2' hne hc hc'
  · intro k n Y hY
    rcases lookup_put hY with ⟨rfl, e⟩ | ⟨hne, hY⟩
    · cases e
      exact ⟨if_pos rfl, fun i hi => absurd hi (Nat.not_lt_zero _)⟩
    · refine ⟨(if_neg hne).trans (hs.mem.tree0 k n Y hY).1, fun i hi => ?_⟩
      obtain ⟨k1, k2⟩ := hs.mem.tree k n Y hY i hi
      refine ⟨k1, fun b hb => ?_⟩
      obtain ⟨q1, q2, q3, q4, q5⟩ := k2 b hb
      refine ⟨q1, q2, q3, fun id' o ho hc => ?_, fun id' m Z i' hZ hi' hne' => ?_⟩
      · rcases lookup_put ho with ⟨rfl, rfl⟩ | ⟨hne2, ho⟩
        · simp at hc
        · simp only [hρ id' hne2] at hc ⊢
          exact q4 id' o ho hc
      · rcases lookup_put hZ with ⟨rfl, e⟩ | ⟨hne2, hZ⟩
        · cases e; exact absurd hi' (Nat.not_lt_zero _)
        · exact q5 id' m Z i' hZ hi' hne'
  · intro t s ht
    refine (hs.env t s ht).keep (ρ := ρ) hsame ⟨rfl, fun q => ?_⟩
    by_cases hq : q = id
    · subst hq
      exact .inr (List.all_eq_true.1 hf.env _ (lookup_mem ht))
    · exact .inl (hρA q hq)
theorem AW.fam {c : Code} {Q2 : Exit → Sig → Prop} {id : Nat} (X : Nat → AV) (hf : Fr id σ) (h : AW P N w0 c Q2 (σ.set id (.trees 0 X))) : AW P N w0 c Q2 σ := by
  intro ρ S a w Q' hQ hs
  obtain ⟨ρ', hs'⟩ := hs.fam hf X
  exact h ρ' S a w Q' hQ hs'
theorem ARun.fam {id : Nat} (X : Nat → AV) (hf : Fr id σ) (h : ARun P N w0 ops Q rest (σ.set id (.trees 0 X))) : ARun P N w0 ops Q rest σ := by
  intro ρ S a w Q' hQ hs
  obtain ⟨ρ', hs'⟩ := hs.fam hf X
  exact h ρ' S a w Q' hQ hs'
theorem ARun.prodTo {f d K n : Nat} {xs : List Operand} {ts : Array TypeId} {args : List SV} {y s' : SV} {X X' : Nat → AV} {m : Nat} (ho : o.op = .call { callee := .value (.func f), args := xs.toArray, argTypes := ts })
    (hF : FnT P f args y) (hk : KnA σ xs args) (hB : callB P f = true) (hK : σ.heap.lookup K = some (.trees n X)) (hlt : Nat.blt K 1000000 = true) (hX1 : ∀ q, q < n → X' q = X q) (hX2 : ∀ p, p < y.leaves.length → X' (n + p) = y.leaves.getD p (.con undef))
    (hs' : y.nm K n = s') (hm : n + y.leaves.length = m) (hg : o.guard = none) (hd : o.dst = some d) (hN : d < N) (h : ARun P N w0 ops Q rest ⟨(d, s') :: σ.env, (K, .trees m X') :: σ.heap⟩) : ARun P N w0 ops Q (o :: rest) σ := by
  subst hs' hm
  intro ρ S a w Q' hQ hs
  refine wpList_plain hg fun K' hK' => ?_
  have h2 := hF w _ _ ⟨withOwn_lt hs, hs.pre⟩ (KnA.sound hs hk)
  have e : (execOp a.eval o).run P w = .ok (.enter f (xs.map a.eval).toArray) w := by
    have := execCall (P := P) (ev := a.eval) (caps := #[]) ho rfl hB w
    simpa using this
  unfold Oper.wp
  rw [e]
  refine Calls.mono h2 fun e w' ⟨v, G, he, hb, hy, hD, hG⟩ => ?_
  subst he
  obtain ⟨ρ', hst, hv⟩ := hs.absorb hK (by simpa [Nat.blt_eq] using hlt) hb hy hD hG hX1 hX2
  rw [hd]
  exact hK' _ _ (h ρ' S _ w' Q' hQ (hst.put hN hv))
theorem ARun.prod {f d K : Nat} {xs : List Operand} {ts : Array TypeId} {args : List SV} {y s' : SV} {m : Nat} {X' : Nat → AV} (ho : o.op = .call { callee := .value (.func f), args := xs.toArray, argTypes := ts })
    (hF : FnT P f args y) (hf : Fr K σ) (hk : KnA (σ.set K (.trees 0 X')) xs args) (hB : callB P f = true) (hX' : (fun p => y.leaves.getD p (.con undef)) = X')
    (hs' : y.nm K 0 = s') (hm : y.leaves.length = m) (hg : o.guard = none) (hd : o.dst = some d) (hN : d < N) (h : ARun P N w0 ops Q rest ⟨(d, s') :: σ.env, (K, .trees m X') :: (K, .trees 0 X') :: σ.heap⟩) : ARun P N w0 ops Q (o :: rest) σ := by
  refine ARun.fam X' hf ?_
  refine ARun.prodTo (K := K) (n := 0) (X := X') (X' := X') ho hF hk hB (by simp [Sig.set]) (by have := hf.small; simpa [Nat.blt_eq] using this) (fun _ _ => rfl) (fun p _ => by rw [← hX', Nat.zero_add]) hs' (by rw [Nat.zero_add]; exact hm) hg hd hN h
end
end Go.Proofs.Ytonfeiloekofdaa

namespace Go.Proofs.Ytonfeiloekofdaa
open Go.ChangeShapes Go.WideShapes Go.ChangeAt Go.RowKit Go.BigFrame Go.Deep
set_option linter.unusedVariables false
set_option linter.unusedSimpArgs false
inductive Tv (H : Heap) : AV → AV → (Nat → Nat → Prop) → Prop
  | int {k : IntKind} {n : Int} {U : Nat → Nat → Prop} : Tv H (.int k n) (.int k n) U
  | bool {b : Bool} {U : Nat → Nat → Prop} : Tv H (.bool b) (.bool b) U
  | str {s : ByteArray} {U : Nat → Nat → Prop} : Tv H (.str s) (.str s) U
  | con {v : Value} {U : Nat → Nat → Prop} : Tv H (.con v) (.con v) U
  | nil {sz : Nat} {g : Nat → Nat → AV} {U : Nat → Nat → Prop} : Tv H (.con (.slice none 0 0)) (.lst sz 0 g) U
  | tre {id i n : Nat} {X : Nat → AV} {U : Nat → Nat → Prop} : H.lookup id = some (.trees n X) → i < n → U id i → Tv H (.tre id i) (X i) U
  | own {id sz n : Nat} {o : AObj} {g : Nat → Nat → AV} {U : Nat → Nat → Prop} (F : Nat → Nat → Nat → Nat → Prop) : H.lookup id = some o → o.isT = false → o.sz = sz → n ≤ o.n → U id 0 → (∀ i j, i < n → j < sz → Tv H (o.f i j) (g i j) (F i j)) →
      (∀ i j a b, i < n → j < sz → F i j a b → U a b ∧ a ≠ id) → (∀ i j i' j', i < n → j < sz → i' < n → j' < sz → ¬ (i = i' ∧ j = j') → ∀ a b, F i j a b → ¬ F i' j' a b) → Tv H (.own id sz n) (.lst sz n g) U
theorem Tv.cast {H : Heap} {x y z : AV} {U : Nat → Nat → Prop} (h : Tv H x y U) (e : y = z) : Tv H x z U := e ▸ h
def fp (ρ : Rho) (H : Heap) (U : Nat → Nat → Prop) (b : Nat) : Prop := ∃ a c, U a c ∧ ((c = 0 ∧ ∃ o, H.lookup a = some o ∧ o.isT = false ∧ (ρ a).2 ≠ 0 ∧ (ρ a).1 = b) ∨ ∃ n X, H.lookup a = some (.trees n X) ∧ c < n ∧ ρ.tb a c b)
theorem fp_mono {ρ : Rho} {H : Heap} {U U' : Nat → Nat → Prop} (h : ∀ a c, U a c → U' a c) {b : Nat} (hb : fp ρ H U b) : fp ρ H U' b := by
  obtain ⟨a, c, h1, h2⟩ := hb
  exact ⟨a, c, h a c h1, h2⟩
section
variable {B : Nat} {ρ : Rho} {S : Nat → Prop} {H : Heap} {w : World}
theorem fp_in (hm : MemOk B ρ S H w) {U : Nat → Nat → Prop} {b : Nat} (hb : fp ρ H U b) : B ≤ b ∧ b < w.heap.size ∧ ¬ S b := by
  obtain ⟨a, c, _, ⟨_, o, ho, _, hc, rfl⟩ | ⟨n, X, hX, hi, hb⟩⟩ := hb
  · have h0 := hm.blk ho hc
    obtain ⟨cs, e, h1, h2, h3, h4, h5, h6, h7⟩ := hm.obj a o ho hc
    exact ⟨h5, h0, h6⟩
  · obtain ⟨q1, q2, q3, _⟩ := (hm.tree a n X hX c hi).2 b hb
    exact ⟨q1, q2, q3⟩
theorem fp_disj (hm : MemOk B ρ S H w) {U U' : Nat → Nat → Prop} (hd : ∀ a c, U a c → ¬ U' a c) {b : Nat} (hb : fp ρ H U b) : ¬ fp ρ H U' b := by
  intro hb'
  obtain ⟨a, c, hu, hb⟩ := hb
  obtain ⟨a', c', hu', hb'⟩ := hb'
  rcases hb with ⟨h0, o, ho, hT, hc, e⟩ | ⟨n, X, hX, hi, hb⟩ <;> rcases hb' with ⟨h0', o', ho', hT', hc', e'⟩ | ⟨n', X', hX', hi', hb'⟩
  · by_cases ha : a = a'
    · subst ha; subst h0; subst h0'; exact hd _ _ hu hu'
    · exact hm.inj a a' o o' ho ho' ha hc hc' (e.trans e'.symm)
  · exact ((hm.tree a' n' X' hX' c' hi').2 b hb').2.2.2.1 a o ho hc e
  · exact ((hm.tree a n X hX c hi).2 b hb).2.2.2.1 a' o' ho' hc' e'
  · by_cases ha : a' = a ∧ c' = c
    · obtain ⟨rfl, rfl⟩ := ha; exact hd _ _ hu hu'
    · exact ((hm.tree a n X hX c hi).2 b hb).2.2.2.2 a' n' X' c' hX' hi' ha hb'
theorem Tv.sound (hm : MemOk B ρ S H w) {x y : AV} {U : Nat → Nat → Prop} (h : Tv H x y U) : ∀ {v : Value}, R ρ w S x v → Tr w y v (fp ρ H U) := by
  induction h with
  | int => exact fun h => h
  | bool => exact fun h => h
  | str => exact fun h => h
  | con => exact fun h => h
  | nil =>
    intro v hv
    have e : v = Value.slice none 0 0 := hv
    unfold Tr
    exact ⟨none, 0, e, Nat.le_refl _, by decide, .inl ⟨rfl, .inl rfl⟩⟩
  | @tre id i n X U hX hi hU =>
    intro v hv
    obtain ⟨e, _⟩ := hv
    rw [e]
    exact ((hm.tree id n X hX i hi).1).mono fun b hb => ⟨id, i, hU, .inr ⟨n, X, hX, hi, hb⟩⟩
  | @own id sz n o g U F ho hT hsz hn hU _ hF hFd ih =>
    intro v hv
    subst hsz
    obtain ⟨A, hv, hn1, hn2, hA⟩ := hv
    unfold Tr
    refine ⟨A, _, hv, hn1, hn2, ?_⟩
    by_cases hc : (ρ id).2 = 0
    · refine .inl ⟨hc, ?_⟩
      rcases hA with h | ⟨h, _⟩
      · exact .inr ⟨_, h⟩
      · exact .inl h
    · right
      obtain ⟨cs, e, h1, h2, h3, h4, h5, h6, h7⟩ := hm.obj id o ho hc
      refine ⟨(ρ id).1, cs, e, by rcases hA with h | ⟨_, h⟩; (· exact h); (· exact absurd h hc), ⟨id, 0, hU, .inl ⟨rfl, o, ho, hT, hc, rfl⟩⟩, h1, h2, fun i j => fp ρ H (F i j), fun i j hi hj => ⟨fun q hq => ⟨fp_mono (fun a c h => (hF i j a c hi hj h).1) hq, fun e => ?_⟩, ?_⟩, fun i j i' j' hi hj hi' hj' hne q hq => fp_disj hm (hFd i j i' j' hi hj hi' hj' hne) hq⟩
      · have hone : fp ρ H (fun a c => a = id ∧ c = 0) q := ⟨id, 0, ⟨rfl, rfl⟩, .inl ⟨rfl, o, ho, hT, hc, e.symm⟩⟩
        exact fp_disj hm (fun a c h h' => (hF i j a c hi hj h).2 h'.1) hq hone
      · obtain ⟨u, hu, hr⟩ := h7 i j (by omega) hj
        exact ⟨u, hu, ih i j hi hj hr⟩
def TvL (H : Heap) (V : Nat → Nat → Nat → Prop) : Nat → List AV → List AV → Prop
  | _, [], [] => True
  | p, x :: l, y :: m => Tv H x y (V p) ∧ TvL H V (p + 1) l m
  | _, _, _ => False
def TvS (H : Heap) (V : Nat → Nat → Nat → Prop) : Nat → SV → SV → Prop
  | p, .one x, .one y => Tv H x y (V p)
  | p, .agg l, .agg m => TvL H V p l m
  | p, .tup2 a b, .tup2 c d => TvS H V p a c ∧ TvS H V (p + c.leaves.length) b d
  | p, .tup3 a b e, .tup3 c d f => TvS H V p a c ∧ TvS H V (p + c.leaves.length) b d ∧ TvS H V (p + c.leaves.length + d.leaves.length) e f
  | _, _, _ => False
theorem TLs.append {G : Nat → Nat → Prop} : ∀ {l m : List AV} {p : Nat} {us vs : List Value}, TLs w G p l us → TLs w G (p + l.length) m vs → TLs w G p (l ++ m) (us ++ vs)
  | [], _, _, _, _, h, k => by rw [show _ = [] from h]; exact k
  | x :: l, m, p, _, vs, ⟨u, us, e, h1, h2⟩, k => by
    subst e
    refine ⟨u, us ++ vs, rfl, h1, TLs.append h2 ?_⟩
    rw [show p + 1 + l.length = p + (x :: l).length by simp; omega]
    exact k
theorem TvL.sound (hm : MemOk B ρ S H w) {V : Nat → Nat → Nat → Prop} : ∀ {l m : List AV} {p : Nat} {us : List Value}, TvL H V p l m → RL ρ w S l us → TLs w (fun p => fp ρ H (V p)) p m us ∧ us.length = m.length
  | [], [], _, _, _, h => ⟨h, by rw [show _ = [] from h]; rfl⟩
  | _ :: _, _ :: _, _, _, ⟨h1, h2⟩, ⟨u, us, e, g1, g2⟩ => by
    obtain ⟨k1, k2⟩ := TvL.sound hm h2 g2
    exact ⟨⟨u, us, e, h1.sound hm g1, k1⟩, by rw [e]; simp [k2]⟩
  | [], _ :: _, _, _, h, _ => h.elim
  | _ :: _, [], _, _, h, _ => h.elim
theorem TvS.sound (hm : MemOk B ρ S H w) {V : Nat → Nat → Nat → Prop} : ∀ {s y : SV} {p : Nat} {v : Value}, TvS H V p s y → RS ρ w S s v → ∃ us, Shape y us v ∧ TLs w (fun p => fp ρ H (V p)) p y.leaves us
  | .one _, .one _, _, v, h, hr => ⟨[v], rfl, v, [], rfl, Tv.sound hm h hr, rfl⟩
  | .agg _, .agg _, _, _, h, ⟨us, e, hl⟩ => by
    obtain ⟨k1, k2⟩ := TvL.sound hm h hl
    exact ⟨us.toList, ⟨by rw [e], k2⟩, k1⟩
  | .tup2 _ _, .tup2 c d, _, _, ⟨h1, h2⟩, ⟨a, b, e, g1, g2⟩ => by
    obtain ⟨us, k1, k2⟩ := TvS.sound hm h1 g1
    obtain ⟨vs, j1, j2⟩ := TvS.sound hm h2 g2
    exact ⟨us ++ vs, ⟨a, b, us, vs, e, rfl, k1, j1⟩, k2.append j2⟩
  | .tup3 _ _ _, .tup3 c d f, p, _, ⟨h1, h2, h3⟩, ⟨a, b, c', e, g1, g2, g3⟩ => by
    obtain ⟨us, k1, k2⟩ := TvS.sound hm h1 g1
    obtain ⟨vs, j1, j2⟩ := TvS.sound hm h2 g2
    obtain ⟨ts, i1, i2⟩ := TvS.sound hm h3 g3
    exact ⟨us ++ (vs ++ ts), ⟨a, b, c', us, vs, ts, e, rfl, k1, j1, i1⟩, k2.append (j2.append i2)⟩
  | .one _, .tup4 _ _ _ _, _, _, h, _ => h.elim
  | .agg _, .tup4 _ _ _ _, _, _, h, _ => h.elim
  | .tup2 _ _, .tup4 _ _ _ _, _, _, h, _ => h.elim
  | .tup3 _ _ _, .tup4 _ _ _ _, _, _, h, _ => h.elim
  | .gd _ _, .tup4 _ _ _ _, _, _, h, _ => h.elim
  | .tup4 _ _ _ _, .one _, _, _, h, _ => h.elim
  | .tup4 _ _ _ _, .agg _, _, _, h, _ => h.elim
  | .tup4 _ _ _ _, .tup2 _ _, _, _, h, _ => h.elim
  | .tup4 _ _ _ _, .tup3 _ _ _, _, _, h, _ => h.elim
  | .tup4 _ _ _ _, .gd _ _, _, _, h, _ => h.elim
  | .tup4 _ _ _ _, .tup4 _ _ _ _, _, _, h, _ => h.elim
  | .one _, .agg _, _, _, h, _ => h.elim
  | .one _, .tup2 _ _, _, _, h, _ => h.elim
  | .one _, .tup3 _ _ _, _, _, h, _ => h.elim
  | .one _, .gd _ _, _, _, h, _ => h.elim
  | .agg _, .one _, _, _, h, _ => h.elim
  | .agg _, .tup2 _ _, _, _, h, _ => h.elim
  | .agg _, .tup3 _ _ _, _, _, h, _ => h.elim
  | .agg _, .gd _ _, _, _, h, _ => h.elim
  | .tup2 _ _, .one _, _, _, h, _ => h.elim
  | .tup2 _ _, .agg _, _, _, h, _ => h.elim
  | .tup2 _ _, .tup3 _ _ _, _, _, h, _ => h.elim
  | .tup2 _ _, .gd _ _, _, _, h, _ => h.elim
  | .tup3 _ _ _, .one _, _, _, h, _ => h.elim
  | .tup3 _ _ _, .agg _, _, _, h, _ => h.elim
  | .tup3 _ _ _, .tup2 _ _, _, _, h, _ => h.elim
  | .tup3 _ _ _, .gd _ _, _, _, h, _ => h.elim
  | .gd _ _, .one _, _, _, h, _ => h.elim
  | .gd _ _, .agg _, _, _, h, _ => h.elim
  | .gd _ _, .tup2 _ _, _, _, h, _ => h.elim
  | .gd _ _, .tup3 _ _ _, _, _, h, _ => h.elim
  | .gd _ _, .gd _ _, _, _, h, _ => h.elim
end
abbrev ofLeaf (t : Nat → Nat → Nat) : Nat → Nat → Nat → Prop := fun p a b => t a b = p
def RetT (P : Program) (fn : Func) (y : SV) : Exit → Sig → Prop
  | .ret, σ => ∃ s t, ResL P σ fn.results.toList s ∧ TvS σ.heap (ofLeaf t) 0 s y
  | .normal, σ => ∃ s t, ResL P σ fn.results.toList s ∧ TvS σ.heap (ofLeaf t) 0 s y
  | _, _ => False
theorem FnT.of_body {P : Program} {f : FuncId} {fn : Func} {c : Code} {args : List SV} {y : SV} (hf : P.funcs[f]? = some fn) (hb : fn.body = some c) (hle : args.length ≤ fn.ntmps)
    (h : ∀ w0, AW P fn.ntmps w0 c (RetT P fn y) ⟨enumE 0 args, []⟩) : FnT P f args y := by
  intro w S vs hS hd
  have hl := hd.len
  refine calls_of_wp hf hb ?_
  refine h ⟨w.heap.size, w, S, w, ⟨fun _ => (0, 0), w.heap.size, fun _ _ => undef, fun _ _ _ => False, fun _ => 0⟩, hS.pre⟩ ⟨fun _ => (0, 0), w.heap.size, fun _ _ => undef, fun _ _ _ => False, fun _ => 0⟩ S _ w _ (fun e ρ S' σ a w' hs hq => ?_) ⟨?_, rfl, ⟨Below.refl _ _, Same.refl _ _, fun _ _ => .refl _ _⟩, ⟨rfl, Nat.le_refl _, hS, fun id o ho => by simp at ho, fun id o ho => by simp at ho, fun id id' o o' ho => by simp at ho, fun id n X ho => by simp at ho⟩, ?_⟩
  · have fin : (∃ s t, ResL P σ fn.results.toList s ∧ TvS σ.heap (ofLeaf t) 0 s y) → a.defers = [] ∧ ∃ v, (results fn a.tmps).run P w' = .ok v w' ∧ (∃ v' G, Ending.returned v = .returned v' ∧ Below w.heap.size w w' ∧ TRf w' G y v' ∧ Dj G y.leaves.length ∧ ∀ p b, p < y.leaves.length → G p b → newS w w' b) := fun ⟨s, t, hr, hfv⟩ => by
      obtain ⟨v, hv, hrun⟩ := hr.run hs
      obtain ⟨us, k1, k2⟩ := hfv.sound hs.mem hv
      refine ⟨hs.defers, v, hrun, v, _, rfl, hs.below.old, ⟨us, k1, k2⟩, fun p q b _ _ hne hp => fp_disj hs.mem (fun a c h h' => hne (h.symm.trans h')) hp, fun p b _ hb => ?_⟩
      obtain ⟨q1, q2, _⟩ := fp_in hs.mem hb
      exact ⟨q1, q2⟩
    cases e
    case ret => exact fin hq
    case normal => exact fin hq
    all_goals exact hq.elim
  · simp [hl]; omega
  · intro t s ht
    obtain ⟨j, u, e1, e2, e3⟩ := hd.get ht
    have hj : j < vs.length := (List.getElem?_eq_some_iff.1 e2).1
    have : ((vs.toArray ++ Array.replicate (fn.ntmps - vs.toArray.size) undef).getD t undef) = u := by
      rw [Array.getD_eq_getD_getElem?, Array.getElem?_append_left (by simp; omega)]
      simp [show t = j by omega, e2]
    show RS _ w S s ((vs.toArray ++ Array.replicate (fn.ntmps - vs.toArray.size) undef).getD t undef)
    rw [this]
    exact e3.toRS
def SameSh : SV → SV → Prop
  | .one _, .one _ => True
  | .agg l, .agg m => l.length = m.length
  | .tup2 a b, .tup2 c d => SameSh a c ∧ SameSh b d
  | .tup3 a b e, .tup3 c d f => SameSh a c ∧ SameSh b d ∧ SameSh e f
  | _, _ => False
def lonly : AV → AV
  | .lst sz n f => .lst sz n f
  | _ => .int .i64 0
def FnM (P : Program) (f : FuncId) (x : SV) (args : List SV) (r x' : SV) : Prop :=
  ∀ (w : World) (G : Nat → Nat → Prop) (base : Nat) (v : Value), base ≤ w.heap.size → Pre base w → (∀ p b, p < x.leaves.length → G p b → base ≤ b ∧ b < w.heap.size) → Dj G x.leaves.length → TRf w G x v →
    Calls P f (v :: args.map SV.val).toArray w fun e w' => e = .returned r.val ∧ Below base w w' ∧ (∀ b, b < w.heap.size → (∀ p, p < x.leaves.length → ¬ G p b) → w'.heap[b]? = w.heap[b]?) ∧ TRf w' G x' v
def KnV (σ : Sig) : List Operand → List SV → Prop
  | [], [] => True
  | x :: xs, y :: ys => Kn σ x y ∧ y.Plain ∧ KnV σ xs ys
  | _, _ => False
theorem KnV.sound {N : Nat} {w0 : Start} {ρ : Rho} {S : Nat → Prop} {σ : Sig} {a : Act} {w : World} (hs : St N w0 ρ S σ a w) : ∀ {xs : List Operand} {ys : List SV}, KnV σ xs ys → xs.map a.eval = ys.map SV.val
  | [], [], _ => rfl
  | _ :: _, _ :: _, ⟨h1, h2, h3⟩ => by
    simp only [List.map_cons, KnV.sound hs h3, List.cons.injEq, and_true]
    exact h2.eq (h1.sound hs)
  | [], _ :: _, h => h.elim
  | _ :: _, [], h => h.elim
section
variable {P : Program} {N : Nat} {w0 : Start} {σ : Sig} {ops : Array Oper} {rest : List Oper} {o : Oper} {Q : Sig → Prop}
end
end Go.Proofs.Ytonfeiloekofdaa

namespace Go.Proofs.Ytonfeiloekofdaa
open Go.ChangeShapes Go.WideShapes Go.ChangeAt Go.RowKit Go.BigFrame Go.Deep
set_option linter.unusedVariables false
set_option linter.unusedSimpArgs false
def famX (sz : Nat) (g : Nat → Nat → AV) : Nat → AV := fun q => g (q / sz) (q % sz)
theorem cell_lt {sz n i j : Nat} (hi : i < n) (hj : j < sz) : i * sz + j < n * sz := by
  have : (i + 1) * sz ≤ n * sz := Nat.mul_le_mul_right _ hi
  rw [Nat.succ_mul] at this
  omega
def AV.scl : AV → Bool
  | .int _ _ => true
  | .bool _ => true
  | .str _ => true
  | .con _ => true
  | _ => false
theorem Tv.scl {H : Heap} {x : AV} {U : Nat → Nat → Prop} (h : x.scl = true) : Tv H x x U := by
  cases x <;> first | (cases h; done) | constructor
theorem Tv.flat {H : Heap} {id sz n : Nat} {o : AObj} {g : Nat → Nat → AV} {U : Nat → Nat → Prop} (ho : H.lookup id = some o) (hT : o.isT = false) (hs : o.sz = sz) (hn : n ≤ o.n) (hU : U id 0) (hf : ∀ i j, i < n → j < sz → o.f i j = g i j) (hg : ∀ i j, i < n → j < sz → (g i j).scl = true) :
    Tv H (.own id sz n) (.lst sz n g) U :=
  .own (fun _ _ _ _ => False) ho hT hs hn hU (fun i j hi hj => by rw [hf i j hi hj]; exact Tv.scl (hg i j hi hj)) (fun _ _ _ _ _ _ h => h.elim) (fun _ _ _ _ _ _ _ _ _ _ _ h => h.elim)
def mI (k : Nat) : Int := (k : Int)
def mB (k : Nat) : Bool := decide (((k % 3 : Nat) : Int) = 0)
def mkL {α : Type} (ct : α → Nat) (mk : α → Nat → α) : List α → Nat → List α
  | [], _ => []
  | x :: l, k => mk x k :: mkL ct mk l (k + ct x)
def ctL {α : Type} (ct : α → Nat) (l : List α) : Nat := (l.map ct).sum
theorem mkL_len {α : Type} {ct : α → Nat} {mk : α → Nat → α} : ∀ {l : List α} {k : Nat}, (mkL ct mk l k).length = l.length
  | [], _ => rfl
  | _ :: l, _ => by simp [mkL, mkL_len (l := l)]
theorem mkL_get {α : Type} {ct : α → Nat} {mk : α → Nat → α} (d : α) : ∀ {l : List α} {k i : Nat}, i < l.length → (mkL ct mk l k).getD i d = mk (l.getD i d) (k + ((l.take i).map ct).sum)
  | [], _, _, h => absurd h (by simp)
  | x :: l, k, 0, _ => by simp [mkL]
  | x :: l, k, i + 1, h => by
    have := mkL_get (ct := ct) (mk := mk) d (l := l) (k := k + ct x) (i := i) (by simpa using h)
    simp only [mkL, List.getD_cons_succ, this, List.take_succ_cons, List.map_cons, List.sum_cons]
    rw [Nat.add_assoc]
def mixL {α : Type} (ct : α → Nat) (mk : α → Nat → α) (l : List α) (k i : Nat) : List α := (mkL ct mk l k).take i ++ l.drop i
theorem mix_get {α : Type} {ct : α → Nat} {mk : α → Nat → α} (d : α) {l : List α} {k i j : Nat} (hi : i ≤ l.length) : (mixL ct mk l k i).getD j d = if j < i then (mkL ct mk l k).getD j d else l.getD j d := by
  unfold mixL
  have hlen : ((mkL ct mk l k).take i).length = i := by rw [List.length_take, mkL_len]; omega
  by_cases h : j < i
  · rw [if_pos h, List.getD_eq_getElem?_getD, List.getElem?_append_left (by omega), List.getElem?_take, if_pos h, ← List.getD_eq_getElem?_getD]
  · rw [if_neg h, List.getD_eq_getElem?_getD, List.getElem?_append_right (by omega), hlen, List.getElem?_drop, show i + (j - i) = j by omega, ← List.getD_eq_getElem?_getD]
theorem mix_new {α : Type} {ct : α → Nat} {mk : α → Nat → α} (d : α) {l : List α} {k i : Nat} (hi : i < l.length) : (mixL ct mk l k (i + 1)).getD i d = mk (l.getD i d) (k + ((l.take i).map ct).sum) := by
  rw [mix_get d (by omega), if_pos (by omega), mkL_get d hi]
theorem mix_old {α : Type} {ct : α → Nat} {mk : α → Nat → α} (d : α) {l : List α} {k i j : Nat} (hi : i < l.length) (hj : ¬ j = i) : (mixL ct mk l k (i + 1)).getD j d = (mixL ct mk l k i).getD j d := by
  rw [mix_get d (by omega), mix_get d (by omega)]
  by_cases h : j < i
  · rw [if_pos h, if_pos (by omega)]
  · rw [if_neg h, if_neg (by omega)]
theorem PureOp.rem {P : Program} {σ : Sig} {o : Oper} {t t' : TypeId} {x y : Operand} {a b : Nat} {c : Int} (ho : o.op = .binOp .rem t x y t') (hx : Kn σ x (.one (.int .i64 (a : Int)))) (hy : Kn σ y (.one (.int .i64 c))) (hc : c = (b : Int)) (hb : 0 < b) (ha : a ≤ 9223372036854775807) : PureOp P o σ (.one (.int .i64 ((a % b : Nat) : Int))) := by
  subst hc
  refine PureOp.val fun N w0 ρ S ac w hs => ?_
  have e1 : ac.eval x = .int .i64 (a : Int) := hx.sound hs
  have e2 : ac.eval y = .int .i64 (b : Int) := hy.sound hs
  refine ⟨_, rfl, fun w' _ => ?_⟩
  generalize ac.eval = ev at e1 e2 ⊢
  have hw : ((a : Int).tmod (b : Int)) = (a : Int) % (b : Int) := Int.tmod_eq_emod_of_nonneg (by omega)
  simp only [execOp, ho, e1, e2, Sem.run_bind, eqGuard_int, Result.andThen_ok]
  have hb0 : b ≠ 0 := by omega
  simp [binOp, Op.intArith, go_sem, hb0, hw]
theorem PureOp.loadPtrE {P : Program} {σ : Sig} {o : Oper} {t : Nat} {x : Operand} {id sz i j : Nat} {ob : AObj} {y : AV} (ho : o.op = .load t x) (h : Kn σ x (.one (.ptr id sz i j))) (hT : plainB P t = true) (hob : σ.heap.lookup id = some ob) (hsz : ob.sz = sz) (hi : i < ob.n) (hj : j < ob.sz) (he : ob.f i j = y) :
    PureOp P o σ (.one y) := by
  subst he
  exact PureOp.loadPtr ho h hT hob hsz hi hj
theorem Tv.flatN {H : Heap} {id sz n n' : Nat} {o : AObj} {g : Nat → Nat → AV} {U : Nat → Nat → Prop} (hn' : n' = n) (ho : H.lookup id = some o) (hT : o.isT = false) (hs : o.sz = sz) (hn : n ≤ o.n) (hU : U id 0) (hf : ∀ i j, i < n → j < sz → o.f i j = g i j) (hg : ∀ i j, i < n → j < sz → (g i j).scl = true) :
    Tv H (.own id sz n) (.lst sz n' g) U := by
  subst hn'; exact Tv.flat ho hT hs hn hU hf hg
end Go.Proofs.Ytonfeiloekofdaa

namespace Go.Proofs.Ytonfeiloekofdaa
open Go.ChangeShapes Go.WideShapes Go.ChangeAt Go.RowKit Go.BigFrame Go.Deep
set_option linter.unusedVariables false
set_option linter.unusedSimpArgs false
def oH : Option (Nat × AObj) → Heap
  | none => []
  | some p => [p]
structure OpStepC (P : Program) (ops : Array Oper) (o : Oper) (σ : Sig) (s : SV) (C : Option (Nat × AObj)) : Prop where
  run : ∀ (N : Nat) (w0 : Start) (ρ : Rho) (S : Nat → Prop) (a : Act) (w : World) (K : Act → World → Prop) (Q' : Exit → Act → World → Prop), St N w0 ρ S σ a w →
    (∀ v ρ' S' w', Same S w S' w' → Below w.heap.size w w' → (∀ b, S' b → S b ∨ w.heap.size ≤ b) → ρ'.base = ρ.base → (∀ id, (∀ p, C = some p → p.1 ≠ id) → Rho.At ρ ρ' id) → (∀ p, C = some p → (ρ' p.1).2 ≠ 0 → w.heap.size ≤ (ρ' p.1).1) →
      (∀ p n X i b, C = some p → p.2 = .trees n X → i < n → ρ'.tb p.1 i b → w.heap.size ≤ b) → St N w0 ρ' S' ⟨σ.env, oH C ++ σ.heap⟩ a w' → RS ρ' w' S' s v → K (a.put o.dst v) w') →
    if Region.wanted o (yielded ops a.tmps) then o.wp P a w K Q' else K (a.put o.dst undef) w
theorem OpStep.toC {P : Program} {ops : Array Oper} {o : Oper} {σ : Sig} {s : SV} (h : OpStep P ops o σ s) : OpStepC P ops o σ s none := by
  constructor
  intro N w0 ρ S a w K Q' hs hK
  exact h.run N w0 ρ S a w K Q' hs fun v S' w' h1 h2 h3 h4 h5 => hK v ρ S' w' h1 h2 h3 rfl (fun _ _ => .refl _ _) (fun p h => by cases h) (fun p _ _ _ _ h => by cases h) h4 h5
def mentB (ids : List Nat) (e : Env) (s : SV) : Bool := ids.all fun id => s.no id || e.any fun p => !p.2.no id
def AObj.Scl : AObj → Prop
  | .trees _ _ => True
  | o => ∀ i j, (o.f i j).scl = true
theorem scl_no {x : AV} (h : x.scl = true) (id : Nat) : x.no id = true := by cases x <;> first | rfl | cases h
inductive ADsC (P : Program) (N : Nat) (ops : Array Oper) (H0 : Heap) : List Oper → Sig → Sig → Prop
  | nil {σ : Sig} : ADsC P N ops H0 [] σ σ
  | cons {o : Oper} {rest : List Oper} {σ τ : Sig} {d : Nat} {s : SV} {C : Option (Nat × AObj)} : o.dst = some d → d < N → OpStepC P ops o (Sig.only ⟨σ.env, H0⟩ (o.looksAt ops)) s C → (∀ p, C = some p → Fr p.1 σ ∧ p.2.Scl) →
      mentB (σ.heap.map (·.1)) (σ.env.filter fun p => (o.looksAt ops).contains p.1) s = true → ADsC P N ops H0 rest ⟨(d, s) :: σ.env, oH C ++ σ.heap⟩ τ → ADsC P N ops H0 (o :: rest) σ τ
def ordC (md : Region.Mode) (ops : Array Oper) (m : Nat) : Bool :=
  (List.range ops.size).all (fun i => match ops[i]? with
    | none => true
    | some oi => oi.after.all fun e => !Region.binds md e || decide (e.on < i)) &&
  ((List.range m).all (fun i => match ops[i]? with
    | none => true
    | some oi => (List.range m).all fun j => match ops[j]? with
        | none => true
        | some oj => (i == j || oi.dst != oj.dst) && (match oj.dst with
          | none => true
          | some d => !(oi.looksAt ops).contains d || i == j || (if j < i then oi.after.any (fun e => Region.binds md e && e.on == j) else oj.after.any (fun e => Region.binds md e && e.on == i)))) &&
  (List.range ops.size).all (fun k => Nat.blt k m || match ops[k]? with
    | none => true
    | some o => (List.range k).all fun j => o.after.any fun e => Region.binds md e && e.on == j))
section
variable {P : Program} {N : Nat} {w0 : Start} {ops : Array Oper} {md : Region.Mode} {H0 : Heap}
theorem oH_lookup {C : Option (Nat × AObj)} {H : Heap} {id : Nat} {o : AObj} (h : (oH C ++ H).lookup id = some o) : C = some (id, o) ∨ ((∀ p, C = some p → p.1 ≠ id) ∧ H.lookup id = some o) := by
  cases C with
  | none => exact .inr ⟨(fun p h => by cases h), h⟩
  | some p =>
    obtain ⟨k, x⟩ := p
    rcases lookup_put (show ((k, x) :: H).lookup id = some o from h) with ⟨rfl, rfl⟩ | ⟨hne, h⟩
    · exact .inl rfl
    · refine .inr ⟨fun p hp => ?_, h⟩
      obtain rfl := Option.some.inj hp
      exact fun e => hne e.symm
theorem ADsC.lay {l : List Oper} {σ τ : Sig} (h : ADsC P N ops H0 l σ τ) : ∃ (d : Nat → Nat) (s : Nat → SV) (e : Nat → Env) (C : Nat → Option (Nat × AObj)) (Hs : Nat → Heap), e 0 = σ.env ∧ Hs 0 = σ.heap ∧ τ = ⟨e l.length, Hs l.length⟩ ∧
    ∀ k o, l[k]? = some o → o.dst = some (d k) ∧ d k < N ∧ e (k + 1) = (d k, s k) :: e k ∧ Hs (k + 1) = oH (C k) ++ Hs k ∧ OpStepC P ops o (Sig.only ⟨e k, H0⟩ (o.looksAt ops)) (s k) (C k) ∧ (∀ p, C k = some p → Fr p.1 ⟨e k, Hs k⟩ ∧ p.2.Scl) ∧
      mentB ((Hs k).map (·.1)) ((e k).filter fun p => (o.looksAt ops).contains p.1) (s k) = true := by
  induction h with
  | @nil σ => exact ⟨fun _ => 0, fun _ => .one (.con undef), fun _ => σ.env, fun _ => none, fun _ => σ.heap, rfl, rfl, rfl, fun k o hk => by simp at hk⟩
  | @cons o rest σ τ d0 s0 C0 hd hN hs hC hm _ ih =>
    obtain ⟨d, s, e, C, Hs, h1, h2, h3, h4⟩ := ih
    refine ⟨fun k => if k = 0 then d0 else d (k - 1), fun k => if k = 0 then s0 else s (k - 1), fun k => if k = 0 then σ.env else e (k - 1), fun k => if k = 0 then C0 else C (k - 1), fun k => if k = 0 then σ.heap else Hs (k - 1), rfl, rfl, ?_, fun k o' hk => ?_⟩
    · rw [h3]; simp
    · cases k with
      | zero =>
        simp at hk
        subst hk
        exact ⟨by simpa using hd, by simpa using hN, by simp [h1], by simp [h2], by simpa using hs, by simpa using hC, by simpa using hm⟩
      | succ k =>
        obtain ⟨g1, g2, g3, g4, g5, g6, g7⟩ := h4 k o' (by simpa using hk)
        exact ⟨by simpa using g1, by simpa using g2, by simpa using g3, by simpa using g4, by simpa using g5, by simpa using g6, by simpa using g7⟩
theorem St.join {ρ ρ' : Rho} {S S' : Nat → Prop} {a : Act} {w w' : World} {C : Option (Nat × AObj)} {H H1 : Heap} (hs : St N w0 ρ S ⟨[], H⟩ a w) (hb : Below w.heap.size w w') (hS : ∀ b, S' b → S b ∨ w.heap.size ≤ b) (hsame : Same S w S' w') (hbase : ρ'.base = ρ.base)
    (hat : ∀ id, (∀ p, C = some p → p.1 ≠ id) → Rho.At ρ ρ' id) (hnew : ∀ p, C = some p → (ρ' p.1).2 ≠ 0 → w.heap.size ≤ (ρ' p.1).1) (hnewT : ∀ p n X i b, C = some p → p.2 = .trees n X → i < n → ρ'.tb p.1 i b → w.heap.size ≤ b)
    (h1 : St N w0 ρ' S' ⟨[], oH C ++ H1⟩ a w') (hno : ∀ p, C = some p → ∀ id o, H.lookup id = some o → id ≠ p.1 ∧ o.No p.1) : St N w0 ρ' S' ⟨[], oH C ++ H⟩ a w' := by
  have hC1 : ∀ {id o}, C = some (id, o) → (oH C ++ H1).lookup id = some o := fun {id o} h => by rw [h]; simp [oH]
  have key : ∀ {id o}, H.lookup id = some o → Rho.At ρ ρ' id ∧ ∀ i j u, R ρ w S (o.f i j) u → R ρ' w' S' (o.f i j) u := fun {id o} ho => by
    refine ⟨hat id fun p hp e => (hno p hp id o ho).1 e.symm, fun i j u hr => hr.keep hsame ⟨hbase, fun q => ?_⟩⟩
    by_cases hq : ∀ p, C = some p → p.1 ≠ q
    · exact .inl (hat q hq)
    · right
      simp only [Classical.not_forall, Classical.not_not] at hq
      obtain ⟨p, hp, rfl⟩ := hq
      exact (hno p hp id o ho).2.at_ i j
  refine ⟨hs.size, hs.defers, h1.below, ⟨h1.mem.base, h1.mem.low, h1.mem.lt, ?_, ?_, ?_, ?_⟩, fun t s ht => by simp at ht⟩
  · intro id o ho
    rcases oH_lookup ho with h | ⟨_, h⟩
    · exact h1.mem.cap id o (hC1 h)
    · rw [(key h).1.m]; exact hs.mem.cap id o h
  · intro id o ho hc
    rcases oH_lookup ho with h | ⟨_, h⟩
    · exact h1.mem.obj id o (hC1 h) hc
    · obtain ⟨k1, k2⟩ := key h
      rw [k1.m] at hc ⊢
      have hlt := hs.mem.blk h hc
      obtain ⟨cs, e, g1, g2, g3, g4, g5, g6, g7⟩ := hs.mem.obj id o h hc
      refine ⟨cs, e, by rw [hb.block _ hlt]; exact g1, g2, g3, g4, g5, fun hS' => ?_, fun i j hi hj => ?_⟩
      · rcases hS _ hS' with h | h
        · exact g6 h
        · omega
      · obtain ⟨u, hu, hr⟩ := g7 i j hi hj
        exact ⟨u, hu, k2 i j u hr⟩
  · intro id id' o o' ho ho' hne hc hc'
    rcases oH_lookup ho with h | ⟨_, h⟩ <;> rcases oH_lookup ho' with h' | ⟨_, h'⟩
    · rw [h] at h'; cases h'; exact absurd rfl hne
    · have e1 := hnew _ h hc
      have k1 := (key h').1
      rw [k1.m] at hc' ⊢
      have := hs.mem.blk h' hc'
      intro e
      have e1 : w.heap.size ≤ (ρ' id).1 := e1
      omega
    · have e1 := hnew _ h' hc'
      have k1 := (key h).1
      rw [k1.m] at hc ⊢
      have := hs.mem.blk h hc
      intro e
      have e1 : w.heap.size ≤ (ρ' id').1 := e1
      omega
    · rw [(key h).1.m] at hc ⊢
      rw [(key h').1.m] at hc' ⊢
      exact hs.mem.inj id id' o o' h h' hne hc hc'
  · intro id n X hX
    rcases oH_lookup hX with h | ⟨_, h⟩
    · obtain ⟨t1, t2⟩ := h1.mem.tree0 id n X (hC1 h)
      refine ⟨t1, fun i hi => ⟨(t2 i hi).1, fun b hb' => ?_⟩⟩
      obtain ⟨q1, q2, q3, q4, q5⟩ := (t2 i hi).2 b hb'
      have hge : w.heap.size ≤ b := hnewT _ n X i b h rfl hi hb'
      refine ⟨q1, q2, q3, fun id' o ho hc => ?_, fun id' m Y i' hY hi' hne => ?_⟩
      · rcases oH_lookup ho with g | ⟨_, g⟩
        · exact q4 id' o (hC1 g) hc
        · have k1 := (key g).1
          rw [k1.m] at hc ⊢
          have := hs.mem.blk g hc
          omega
      · rcases oH_lookup hY with g | ⟨_, g⟩
        · exact q5 id' m Y i' (hC1 g) hi' hne
        · have k1 := (key g).1
          rw [k1.b]
          intro hg
          have := ((hs.mem.tree id' m Y g i' hi').2 b hg).2.1
          omega
    · obtain ⟨k1, _⟩ := key h
      refine ⟨k1.n.trans (hs.mem.tree0 id n X h).1, fun i hi => ?_⟩
      obtain ⟨t1, t2⟩ := hs.mem.tree id n X h i hi
      rw [k1.v, k1.b]
      refine ⟨t1.keep fun b hb' => hb.block b (t2 b hb').2.1, fun b hb' => ?_⟩
      obtain ⟨q1, q2, q3, q4, q5⟩ := t2 b hb'
      refine ⟨q1, Nat.lt_of_lt_of_le q2 hb.size, fun hS' => ?_, fun id' o ho hc => ?_, fun id' m Y i' hY hi' hne => ?_⟩
      · rcases hS _ hS' with h | h
        · exact q3 h
        · omega
      · rcases oH_lookup ho with g | ⟨_, g⟩
        · have := hnew _ g hc
          have this : w.heap.size ≤ (ρ' id').1 := this
          omega
        · have k2 := (key g).1
          rw [k2.m] at hc ⊢
          exact q4 id' o g hc
      · rcases oH_lookup hY with g | ⟨_, g⟩
        · intro hg
          have := hnewT _ m Y i' b g rfl hi' hg
          omega
        · have k2 := (key g).1
          rw [k2.b]
          exact q5 id' m Y i' g hi' hne
structure MidC (P : Program) (N : Nat) (w0 : Start) (ops : Array Oper) (m : Nat) (md : Region.Mode) (d : Nat → Nat) (s : Nat → SV) (C : Nat → Option (Nat × AObj)) (σ : Sig) (listed : Array Bool) (ρ : Rho) (S : Nat → Prop) (a : Act) (w : World) : Prop where
  len : listed.size = ops.size
  closed : ∀ j o, ops[j]? = some o → listed.getD j false = true → ∀ e ∈ o.after, Region.binds md e = true → listed.getD e.on false = true
  tail : ∀ j, m ≤ j → j < ops.size → listed.getD j false = false
  mem : ∃ H, St N w0 ρ S ⟨[], H⟩ a w ∧ (∀ id o, σ.heap.lookup id = some o → H.lookup id = some o) ∧ (∀ j p, j < m → listed.getD j false = true → C j = some p → H.lookup p.1 = some p.2) ∧ (∀ id o, H.lookup id = some o → σ.heap.lookup id = some o ∨ ∃ j, j < m ∧ listed.getD j false = true ∧ C j = some (id, o))
  done : ∀ j, j < m → listed.getD j false = true → RS ρ w S (s j) (a.tmps.getD (d j) undef)
  old : ∀ t x, σ.env.lookup t = some x → (∀ j, j < m → d j = t → listed.getD j false = false) → RS ρ w S x (a.tmps.getD t undef)
def ADC (P : Program) (N : Nat) (w0 : Start) (ops : Array Oper) (H0 : Heap) (Q : Sig → Prop) (l : List Oper) (m : Nat) (σ : Sig) : Prop := ∃ τ, ADsC P N ops H0 (l.take m) σ τ ∧ ARun P N w0 ops Q (l.drop m) τ
variable {Q : Sig → Prop} {σ : Sig} {o : Oper} {rest : List Oper} {m : Nat}
theorem ADC.tail {l : List Oper} (h : ARun P N w0 ops Q l σ) : ADC P N w0 ops H0 Q l 0 σ := ⟨σ, .nil, h⟩
theorem ADC.cons {s : SV} {d : Nat} {C : Option (Nat × AObj)} (hp : OpStepC P ops o (Sig.only ⟨σ.env, H0⟩ (o.looksAt ops)) s C) (hC : ∀ p, C = some p → Fr p.1 σ ∧ p.2.Scl) (hm : mentB (σ.heap.map (·.1)) (σ.env.filter fun p => (o.looksAt ops).contains p.1) s = true) (hd : o.dst = some d) (hN : d < N)
    (h : ADC P N w0 ops H0 Q rest m ⟨(d, s) :: σ.env, oH C ++ σ.heap⟩) : ADC P N w0 ops H0 Q (o :: rest) (m + 1) σ :=
  let ⟨τ, h1, h2⟩ := h
  ⟨τ, .cons hd hN hp hC hm h1, h2⟩
theorem ADC.pure {s : SV} {d : Nat} (hp : PureOp P o (Sig.only ⟨σ.env, H0⟩ (o.looksAt ops)) s) (hg : o.guard = none) (hd : o.dst = some d) (hN : d < N) (hm : mentB (σ.heap.map (·.1)) (σ.env.filter fun p => (o.looksAt ops).contains p.1) s = true) (h : ADC P N w0 ops H0 Q rest m (σ.put d s)) : ADC P N w0 ops H0 Q (o :: rest) (m + 1) σ :=
  ADC.cons (hp.fresh.step hg).toC (fun p h => by cases h) hm hd hN h
theorem ADC.fresh {s : SV} {d : Nat} (hp : FreshOp P o (Sig.only ⟨σ.env, H0⟩ (o.looksAt ops)) s) (hg : o.guard = none) (hd : o.dst = some d) (hN : d < N) (hm : mentB (σ.heap.map (·.1)) (σ.env.filter fun p => (o.looksAt ops).contains p.1) s = true) (h : ADC P N w0 ops H0 Q rest m (σ.put d s)) : ADC P N w0 ops H0 Q (o :: rest) (m + 1) σ :=
  ADC.cons (hp.step hg).toC (fun p h => by cases h) hm hd hN h
theorem ADC.gpure {s : SV} {d g t : Nat} {want c : Bool} (hgate : Gate (Sig.only ⟨σ.env, H0⟩ (o.looksAt ops)) t want c) (hp : c = true → PureOp P o (Sig.only ⟨σ.env, H0⟩ (o.looksAt ops)) s) (hg : o.guard = some (g, want)) (hgd : (ops[g]?).bind (·.dst) = some t) (hd : o.dst = some d) (hN : d < N)
    (hm : mentB (σ.heap.map (·.1)) (σ.env.filter fun p => (o.looksAt ops).contains p.1) (.gd c s) = true) (h : ADC P N w0 ops H0 Q rest m (σ.put d (.gd c s))) : ADC P N w0 ops H0 Q (o :: rest) (m + 1) σ :=
  ADC.cons (FreshOp.gstep hgate (fun hc => (hp hc).fresh) hg hgd fun N _ _ _ _ _ _ => by omega).toC (fun p h => by cases h) hm hd hN h
end
end Go.Proofs.Ytonfeiloekofdaa
