/-
  Our own small kit over the guide's library, the same for every seat: how a Go value reads as a Lean value ('Rep': integers, bools, strings, lists, flat structs), and worlds that part from a first one only in new blocks ('Aft').
-/
import Derived.Test.YtmfkmifkkplidaaRows
import Derived.WalkKit
import Derived.ProofKit
import Derived.OpenShut
import Derived.Deep.Quiet
import Derived.Deep.QuietTactic
import Derived.BigQuiet
import Derived.Lib.Hide
import Derived.Deep.Slices
namespace Go.Proofs.Ytmfkmifkkplidaa
open Go.ChangeShapes Go.WideShapes Go.ChangeAt Go.RowKit
set_option linter.unusedVariables false

/-- An integer that fits int. -/
def I64 (n : Int) : Prop := -9223372036854775808 ≤ n ∧ n ≤ 9223372036854775807

/-- How a Lean value stands in memory: 'rep w S a cs': the cells cs read as a in w; every block that is met lies in S; 'size' cells each. -/
class Rep (α : Type) where
  size : Nat
  rep : World → (Nat → Prop) → α → List Value → Prop
  len : ∀ {w S a cs}, rep w S a cs → cs.length = size
  keep : ∀ {w w' S a cs}, rep w S a cs → (∀ p : Addr, S p.block → w'.cell? p = w.cell? p) → rep w' S a cs
  more : ∀ {w S S' a cs}, rep w S a cs → (∀ b, S b → S' b) → rep w S' a cs

/-- A value of a fixed number of cells that holds no slice. -/
class Flat (α : Type) where
  size : Nat
  enc : α → List Value
  len : ∀ a, (enc a).length = size
  ok : α → Prop
  zero : α
  one : ∀ a, ∀ u ∈ enc a, u.oneCell' = true

instance {α : Type} [Flat α] : Rep α where
  size := Flat.size α
  rep _ _ a cs := cs = Flat.enc a ∧ Flat.ok a
  len h := by rw [h.1]; exact Flat.len _
  keep h _ := h
  more h _ := h

instance : Flat Int := ⟨1, fun n => [.int .i64 n], fun _ => rfl, I64, 0, fun _ _ h => by obtain rfl := List.mem_singleton.1 h; rfl⟩
instance : Flat Bool := ⟨1, fun b => [.bool b], fun _ => rfl, fun _ => True, false, fun _ _ h => by obtain rfl := List.mem_singleton.1 h; rfl⟩
instance : Flat ByteArray := ⟨1, fun s => [.string s], fun _ => rfl, fun s => s.size ≤ maxLen, ByteArray.empty, fun _ _ h => by obtain rfl := List.mem_singleton.1 h; rfl⟩

/-- A slice of α's: nil or not. -/
instance {α : Type} [Rep α] : Rep (List α) where
  size := 1
  rep w S l cs := ∃ A c, cs = [.slice A l.length c] ∧ l.length ≤ c ∧ c ≤ maxLen ∧ (A = none → c = 0) ∧
    ∀ (i : Nat) (h : i < l.length), ∃ b off xs, A = some ⟨b, off, none⟩ ∧ S b ∧ (∀ j u, xs[j]? = some u → w.cell? ⟨b, off + (i * Rep.size α + j), none⟩ = some u) ∧ Rep.rep w S l[i] xs
  len h := by obtain ⟨A, c, rfl, _⟩ := h; rfl
  keep h hk := by
    obtain ⟨A, c, e, h1, h2, h4, h3⟩ := h
    refine ⟨A, c, e, h1, h2, h4, fun i hi => ?_⟩
    obtain ⟨b, off, xs, hA, hS, hc, hr⟩ := h3 i hi
    exact ⟨b, off, xs, hA, hS, fun j u hu => (hk _ hS).trans (hc j u hu), Rep.keep hr hk⟩
  more h hk := by
    obtain ⟨A, c, e, h1, h2, h4, h3⟩ := h
    refine ⟨A, c, e, h1, h2, h4, fun i hi => ?_⟩
    obtain ⟨b, off, xs, hA, hS, hc, hr⟩ := h3 i hi
    exact ⟨b, off, xs, hA, hk _ hS, hc, Rep.more hr hk⟩

/-- The slice value of a list. -/
def RepL {α : Type} [Rep α] (w : World) (S : Nat → Prop) (l : List α) (A : Option Addr) (n c : Nat) : Prop := n = l.length ∧ Rep.rep w S l [.slice A n c]

section
variable {α : Type} [Rep α] {w w' : World} {S S' : Nat → Prop} {l : List α} {A : Option Addr} {n c : Nat}
theorem RepL.keep (h : RepL w S l A n c) (hk : ∀ p : Addr, S p.block → w'.cell? p = w.cell? p) : RepL w' S l A n c := ⟨h.1, Rep.keep h.2 hk⟩
theorem RepL.more (h : RepL w S l A n c) (hk : ∀ b, S b → S' b) : RepL w S' l A n c := ⟨h.1, Rep.more h.2 hk⟩
theorem RepL.bd (h : RepL w S l A n c) : n ≤ c ∧ c ≤ 9223372036854775807 := by
  obtain ⟨rfl, A', c', e, h1, h2, _⟩ := h
  simp only [List.cons.injEq, Value.slice.injEq, and_true] at e
  unfold maxLen at h2
  omega
theorem RepL.cap0 (h : RepL w S l none n c) : c = 0 := by
  obtain ⟨rfl, A', c', e, h1, h2, h4, h3⟩ := h
  simp only [List.cons.injEq, Value.slice.injEq, and_true] at e
  obtain ⟨rfl, -, rfl⟩ := e
  exact h4 rfl
theorem RepL.at_ (h : RepL w S l A n c) {i : Nat} (hi : i < l.length) :
    ∃ b off xs, A = some ⟨b, off, none⟩ ∧ S b ∧ (∀ j u, xs[j]? = some u → w.cell? ⟨b, off + (i * Rep.size α + j), none⟩ = some u) ∧ Rep.rep w S l[i] xs := by
  obtain ⟨rfl, A', c', e, h1, h2, h4, h3⟩ := h
  simp only [List.cons.injEq, Value.slice.injEq, and_true] at e
  obtain ⟨rfl, -, rfl⟩ := e
  exact h3 i hi
end

/-- A world that may have new blocks: below the old heap's end it is as w was. -/
structure Aft (w : World) where
  world : World
  below : Below w.heap.size w world
instance (w : World) : Nonempty (Aft w) := ⟨⟨w, Below.refl _ _⟩⟩

theorem wp_region_aft {P : Program} {id : Nat} {Q : Exit → Act → World → Prop} {a : Act} {w : World} {l : List Oper} (hm : P.follows .mixedOrders = true) (hB : Region.lexB .any l.toArray = true)
    (h : wpQuiet P l.toArray (fun w' => ∃ p : Aft w, w' = p.world) (fun a' => ∀ w', (∃ p : Aft w, w' = p.world) → Q .normal a' w') l a) : (Code.region id l.toArray true).wp P Q a w :=
  wp_region_quiet (C := fun w' => ∃ p : Aft w, w' = p.world) hm hB ⟨⟨w.drew, (Below.refl _ _).drew⟩, rfl⟩ (by simpa using h)

theorem Aft.cell {w : World} {a : Addr} {v : Value} (h : w.cell? a = some v) (p : Aft w) : p.world.cell? a = some v :=
  (p.below.cell (World.block_lt_of_cell? w a h)).trans h

theorem Calls.aft {P : Program} {f : FuncId} {args : Array Value} {w : World} {p : Aft w} {v : Value}
    (h : Calls P f args p.world fun e w' => e = .returned v ∧ Below p.world.heap.size p.world w') : Calls P f args p.world fun e w'' => e = .returned v ∧ ∃ q : Aft w, w'' = q.world :=
  h.mono fun _ _ ⟨he, hb⟩ => ⟨he, ⟨_, p.below.trans (hb.mono p.below.size)⟩, rfl⟩

/-- A struct of two integers. -/
structure P2 where
  a : Int
  b : Int
  deriving DecidableEq, Inhabited
instance : Flat P2 := ⟨2, fun e => [.int .i64 e.a, .int .i64 e.b], fun _ => rfl, fun e => I64 e.a ∧ I64 e.b, ⟨0, 0⟩, fun _ _ h => by simp only [List.mem_cons, List.not_mem_nil, or_false] at h; rcases h with rfl | rfl <;> rfl⟩

/-- A struct of an integer and a string. -/
structure IS where
  n : Int
  s : ByteArray
  deriving DecidableEq
instance : Flat IS := ⟨2, fun e => [.int .i64 e.n, .string e.s], fun _ => rfl, fun e => I64 e.n ∧ e.s.size ≤ maxLen, ⟨0, ByteArray.empty⟩, fun _ _ h => by simp only [List.mem_cons, List.not_mem_nil, or_false] at h; rcases h with rfl | rfl <;> rfl⟩
theorem ba_inj {a b : ByteArray} : a.toList = b.toList ↔ a = b := by
  rw [ByteArray.toList_eq, ByteArray.toList_eq]
  obtain ⟨⟨x⟩⟩ := a
  obtain ⟨⟨y⟩⟩ := b
  simp

/-- A row of a list of lists. -/
theorem RepL.row {α : Type} [Rep α] {w : World} {S : Nat → Prop} {l : List (List α)} {A : Option Addr} {n c i : Nat} (h : RepL w S l A n c) (hi : i < l.length) :
    ∃ b off A' c', A = some ⟨b, off, none⟩ ∧ S b ∧ w.cell? ⟨b, off + i, none⟩ = some (.slice A' l[i].length c') ∧ RepL w S l[i] A' l[i].length c' := by
  obtain ⟨b, off, xs, hA, hS, hc, hr⟩ := h.at_ hi
  have hr' := hr
  obtain ⟨A', c', rfl, _⟩ := hr
  have h1 := hc 0 _ rfl
  have h2 : Rep.size (List α) = 1 := rfl
  rw [h2] at h1
  exact ⟨b, off, A', c', hA, hS, by simpa using h1, rfl, hr'⟩
theorem RepL.up {α : Type} [Rep α] {w w' : World} {l : List α} {A : Option Addr} {n c : Nat} (h : RepL w (· < w.heap.size) l A n c) (hb : Below w.heap.size w w') : RepL w' (· < w'.heap.size) l A n c :=
  (h.keep (fun p hp => hb.cell hp)).more (fun _ hx => Nat.lt_of_lt_of_le hx hb.size)
theorem RepL.upR {α : Type} [Rep α] {w w' : World} {l : List α} {A : Option Addr} {n c lo hi : Nat} (h : RepL w (fun b => lo ≤ b ∧ b < hi) l A n c) (hs : hi ≤ w.heap.size) (hb : Below w.heap.size w w') : RepL w' (fun b => lo ≤ b ∧ b < hi) l A n c :=
  h.keep fun p hp => hb.cell (Nat.lt_of_lt_of_le hp.2 hs)
theorem RepL.ltR {α : Type} [Rep α] {w : World} {l : List α} {A : Option Addr} {n c lo hi : Nat} (h : RepL w (fun b => lo ≤ b ∧ b < hi) l A n c) (hs : hi ≤ w.heap.size) : RepL w (· < w.heap.size) l A n c :=
  h.more fun _ hx => Nat.lt_of_lt_of_le hx.2 hs
theorem own_other {w w' : World} {base : Nat} {e : TypeId} {s n : Nat} {v v2 : Value} {xs : List Value} (h : w.ownsRow base e s v n xs) (hg : w.grownBy w' v2.ownBlock) (hne : ∀ k, v.ownBlock = some k → v2.ownBlock ≠ some k) : w'.ownsRow base e s v n xs :=
  h.kept hg (by
    cases hv : v.ownBlock with
    | none => exact .inl rfl
    | some k => exact .inr (fun e => hne k hv e.symm))
theorem RepL.new {α : Type} [Rep α] {w w' : World} {l : List α} {A : Option Addr} {n c : Nat} (h : RepL w' (fun b => w.heap.size ≤ b ∧ b < w'.heap.size) l A n c) : RepL w' (· < w'.heap.size) l A n c :=
  h.more (fun _ hx => hx.2)

theorem run_make_rowN {P : Program} (t e : TypeId) (i : TypeInfo) (z : Value) (ht : P.underlying t = some (.slice e)) (hi : P.info? e = some i) (hz : i.zero = some z)
    (kl kc : IntKind) (n c : Nat) (hnc : n ≤ c) (hbytes : i.bytes * c ≤ 281474976710656) (h63 : c ≤ 9223372036854775807) (w : World) :
    (Instr.makeSlice t (.int kl (n : Int)) (.int kc (c : Int))).run P w = .ok (.slice (some ⟨w.heap.size, 0, none⟩) n c) (w.alloc (.cells (madeCells z.cells (c * i.size)) e)) := by
  have hb : (i.bytes : Int) * (c : Int) ≤ 281474976710656 := by
    have h : ((i.bytes * c : Nat) : Int) ≤ 281474976710656 := by omega
    rwa [Int.natCast_mul] at h
  have hr := run_make (P := P) w t e i z ht hi hz kl kc n c (by omega) (by omega) hb (by omega)
  simp only [Int.toNat_natCast] at hr
  exact hr
theorem bnext {a b c : World} (h : Below a.heap.size a b) (k : Below b.heap.size b c) : Below a.heap.size a c := h.trans (k.mono h.size)
theorem below_grownBy {w w' : World} (h : Below w.heap.size w w') (row : Option Nat) : w.grownBy w' row := ⟨h.os, h.tape, h.output, h.size, fun k hk _ => h.block k hk⟩
theorem own_below {w w' : World} {base : Nat} {e : TypeId} {s n : Nat} {v : Value} {xs : List Value} (h : w.ownsRow base e s v n xs) (hb : Below w.heap.size w w') : w'.ownsRow base e s v n xs :=
  h.kept (below_grownBy hb none) (by cases v.ownBlock <;> simp)
theorem own_cell {w : World} {base : Nat} {e : TypeId} {s g n c : Nat} {xs : List Value} (h : w.ownsRow base e s (.slice (some ⟨g, 0, none⟩) n c) n xs) {j : Nat} (hj : j < n * s) : ∃ u, w.cell? ⟨g, j, none⟩ = some u := by
  rw [h.cellAt j hj, List.getElem?_eq_getElem (by rw [h.1]; exact hj)]
  exact ⟨_, rfl⟩

/-! ### Rows of flat values -/
section
variable {α : Type} [Flat α]
/-- The cells of a list of flat values. -/
def encs (l : List α) : List Value := l.flatMap Flat.enc
/-- The cells cs are stored one behind the other from place i on. -/
def setAll (xs : List Value) (i : Nat) : List Value → List Value
  | [] => xs
  | c :: cs => setAll (xs.set i c) (i + 1) cs
/-- The row of a list that is being filled: the first k elements, then zero values. -/
def fill (l : List α) (k : Nat) : List Value := encs (l.take k ++ List.replicate (l.length - k) Flat.zero)

theorem encs_len (l : List α) : (encs l).length = l.length * Flat.size α := by
  induction l with
  | nil => simp [encs]
  | cons a l ih => simp only [encs, List.flatMap_cons, List.length_append, Flat.len, List.length_cons, Nat.succ_mul] at ih ⊢; omega
theorem encs_append (l m : List α) : encs (l ++ m) = encs l ++ encs m := by simp [encs]
theorem encs_get (l : List α) {i j : Nat} (hi : i < l.length) (hj : j < Flat.size α) : (encs l)[i * Flat.size α + j]? = (Flat.enc l[i])[j]? := by
  induction l generalizing i with
  | nil => simp at hi
  | cons a l ih =>
    cases i with
    | zero => simp only [encs, List.flatMap_cons, Nat.zero_mul, Nat.zero_add, List.getElem_cons_zero]; rw [List.getElem?_append_left (by rw [Flat.len]; exact hj)]
    | succ i =>
      simp only [List.length_cons, Nat.add_lt_add_iff_right] at hi
      have := ih hi
      simp only [encs, List.flatMap_cons, List.getElem_cons_succ] at this ⊢
      rw [List.getElem?_append_right (by rw [Flat.len, Nat.succ_mul]; omega), Flat.len, ← this]
      congr 1
      rw [Nat.succ_mul]; omega
theorem setAll_append (xs ys cs : List Value) : setAll (xs ++ ys) (xs.length) cs = xs ++ setAll ys 0 cs := by
  have gen : ∀ (cs ys : List Value) (i : Nat), setAll (xs ++ ys) (xs.length + i) cs = xs ++ setAll ys i cs := by
    intro cs
    induction cs with
    | nil => intro ys i; rfl
    | cons c cs ih => intro ys i; simp only [setAll]; rw [List.set_append_right _ _ (by omega), show xs.length + i - xs.length = i by omega, Nat.add_assoc, ih]
  exact gen cs ys 0
theorem setAll_over (old cs ys : List Value) (h : old.length = cs.length) : setAll (old ++ ys) 0 cs = cs ++ ys := by
  have gen : ∀ (cs old ys zs : List Value), old.length = cs.length → setAll (zs ++ (old ++ ys)) zs.length cs = zs ++ (cs ++ ys) := by
    intro cs
    induction cs with
    | nil => intro old ys zs h; obtain rfl := List.eq_nil_of_length_eq_zero h; rfl
    | cons c cs ih =>
      intro old ys zs h
      cases old with
      | nil => simp at h
      | cons o old =>
        simp only [setAll]
        rw [List.set_append_right _ _ (by omega)]
        have := ih old ys (zs ++ [c]) (by simpa using h)
        simp only [List.length_append, List.length_cons, List.length_nil, List.append_assoc, List.cons_append, List.nil_append] at this
        simpa using this
  exact gen cs old ys [] h
theorem encs_set (l : List α) (k : Nat) (a : α) (hk : k < l.length) : setAll (encs l) (k * Flat.size α) (Flat.enc a) = encs (l.set k a) := by
  have e : l = l.take k ++ l[k] :: l.drop (k + 1) := by rw [← List.drop_eq_getElem_cons hk, List.take_append_drop]
  have e2 : l.set k a = l.take k ++ a :: l.drop (k + 1) := by rw [List.set_eq_take_append_cons_drop, if_pos hk]
  rw [e2]
  conv => lhs; rw [e]
  rw [encs_append, encs_append]
  have hl : (encs (l.take k)).length = k * Flat.size α := by rw [encs_len, List.length_take, Nat.min_eq_left (by omega)]
  rw [← hl, setAll_append]
  congr 1
  simp only [encs, List.flatMap_cons]
  exact setAll_over _ _ _ (by rw [Flat.len, Flat.len])
theorem fill_zero (l : List α) : fill l 0 = encs (List.replicate l.length (Flat.zero : α)) := by simp [fill]
theorem fill_all (l : List α) : fill l l.length = encs l := by simp [fill]
theorem fill_step (l : List α) (k : Nat) (hk : k < l.length) : setAll (fill l k) (k * Flat.size α) (Flat.enc l[k]) = fill l (k + 1) := by
  unfold fill
  rw [encs_set _ _ _ (by simp; omega)]
  congr 1
  rw [List.set_append_right _ _ (by simp; omega)]
  rw [show l.length - k = (l.length - (k + 1)) + 1 by omega, List.replicate_succ, List.length_take, Nat.min_eq_left (by omega), Nat.sub_self, List.set_cons_zero, List.take_succ_eq_append_getElem hk, List.append_assoc]
  rfl
theorem madeCells_flat (z : Array Value) (n s : Nat) (hz : z.toList = Flat.enc (Flat.zero : α)) (hs : s = Flat.size α) : (madeCells z (n * s)).toList = encs (List.replicate n (Flat.zero : α)) := by
  subst hs
  have hzs : z.size = Flat.size α := by rw [← Array.length_toList, hz, Flat.len]
  apply List.ext_getElem?
  intro j
  by_cases hj : j < n * Flat.size α
  · have hsp : 0 < Flat.size α := by rcases Nat.eq_zero_or_pos (Flat.size α) with h | h; (· rw [h] at hj; simp at hj); exact h
    have hq : j / Flat.size α < n := (Nat.div_lt_iff_lt_mul hsp).2 hj
    have hr : j % Flat.size α < Flat.size α := Nat.mod_lt _ hsp
    have e : j = j / Flat.size α * Flat.size α + j % Flat.size α := (Nat.div_add_mod' j _).symm
    have h1 : (encs (List.replicate n (Flat.zero : α)))[j]? = (Flat.enc (Flat.zero : α))[j % Flat.size α]? := by
      conv => lhs; rw [e]
      rw [encs_get _ (by simpa using hq) hr]
      simp
    rw [h1, ← hz]
    simp [madeCells, hj, hzs, hr]
  · rw [List.getElem?_eq_none (by simp [madeCells]; omega), List.getElem?_eq_none (by rw [encs_len]; simp; omega)]

theorem RepL.ok {w : World} {S : Nat → Prop} {l : List α} {A : Option Addr} {n c : Nat} (h : RepL w S l A n c) : ∀ a ∈ l, Flat.ok a := by
  intro a ha
  obtain ⟨i, hi, rfl⟩ := List.mem_iff_getElem.1 ha
  obtain ⟨_, _, _, _, _, _, hr⟩ := h.at_ hi
  exact hr.2
theorem encs_one (l : List α) : ∀ u ∈ encs l, u.oneCell' = true := by
  intro u hu
  obtain ⟨a, _, ha⟩ := List.mem_flatMap.1 hu
  exact Flat.one a u ha
/-- An element of one cell. -/
theorem RepL.at1 {w : World} {S : Nat → Prop} {l : List α} {A : Option Addr} {n c i : Nat} (hs : Flat.size α = 1) (h : RepL w S l A n c) (hi : i < l.length) :
    ∃ b off, A = some ⟨b, off, none⟩ ∧ S b ∧ (∀ u, Flat.enc l[i] = [u] → w.cell? ⟨b, off + i, none⟩ = some u) ∧ Flat.ok l[i] := by
  obtain ⟨b, off, xs, hA, hS, hc, rfl, hok⟩ := h.at_ hi
  refine ⟨b, off, hA, hS, fun u hu => ?_, hok⟩
  have h1 := hc 0 u (by rw [hu]; rfl)
  have h2 : Rep.size α = 1 := hs
  rw [h2] at h1
  simpa using h1
/-- All cells of a slice that is not empty. -/
theorem RepL.cells {w : World} {S : Nat → Prop} {l : List α} {ad : Addr} {n c : Nat} (h : RepL w S l (some ad) n c) : ∀ j u, (encs l)[j]? = some u → w.cell? (ad.add j) = some u := by
  intro j u hu
  have hj : j < l.length * Flat.size α := by rw [← encs_len]; exact (List.getElem?_eq_some_iff.1 hu).1
  have hsp : 0 < Flat.size α := by rcases Nat.eq_zero_or_pos (Flat.size α) with h | h; (· rw [h] at hj; simp at hj); exact h
  have hq : j / Flat.size α < l.length := (Nat.div_lt_iff_lt_mul hsp).2 hj
  have hr : j % Flat.size α < Flat.size α := Nat.mod_lt _ hsp
  have e : j = j / Flat.size α * Flat.size α + j % Flat.size α := (Nat.div_add_mod' j _).symm
  obtain ⟨b, off, xs, hA, _, hc, rfl, _⟩ := h.at_ hq
  obtain rfl := Option.some.inj hA
  rw [e, encs_get l hq hr] at hu
  rw [Addr.add_lit, e]
  exact hc _ _ hu
theorem RepL.none_ {w : World} {S : Nat → Prop} {l : List α} {n c : Nat} (h : RepL w S l none n c) : n = 0 ∧ l = [] := by
  rcases Nat.eq_zero_or_pos n with h0 | h0
  · exact ⟨h0, List.eq_nil_of_length_eq_zero (by rw [← h.1]; exact h0)⟩
  · obtain ⟨b, off, xs, hA, _⟩ := h.at_ (i := 0) (by rw [← h.1]; exact h0)
    cases hA
/-- Other lists are as they were behind a write into one row. -/
theorem RepL.other {w w' : World} {S : Nat → Prop} {l : List α} {A : Option Addr} {n c : Nat} {v : Value} (h : RepL w S l A n c) (hg : w.grownBy w' v.ownBlock) (hS : ∀ b, S b → b < w.heap.size ∧ v.ownBlock ≠ some b) : RepL w' S l A n c :=
  h.keep fun p hp => World.cell?_of_block (hg.block p.block (hS _ hp).1 (fun e => (hS _ hp).2 e.symm))
theorem own_slice {w : World} {base : Nat} {e : TypeId} {s n : Nat} {v : Value} {xs : List Value} (h : w.ownsRow base e s v n xs) : ∃ A c, v = .slice A n c := by
  rcases h.2 with ⟨rfl, rfl⟩ | ⟨g, cap, cur, rfl, _⟩
  · exact ⟨_, _, rfl⟩
  · exact ⟨_, _, rfl⟩
/-- make([]T, n): a row to be filled. -/
theorem own_made (w : World) (z : Array Value) (e : TypeId) (l : List α) {n s : Nat} (hz : z.toList = Flat.enc (Flat.zero : α)) (hs : s = Flat.size α) (hl : n = l.length) (hn : n ≤ 9223372036854775807) :
    (w.alloc (.cells (madeCells z (n * s)) e)).ownsRow w.heap.size e s (.slice (some ⟨w.heap.size, 0, none⟩) n n) n (fill l 0) := by
  subst hl
  refine ⟨by rw [fill_zero, encs_len, hs]; simp, .inr ⟨_, l.length, _, rfl, Nat.le_refl _, heap_alloc_new w _, Nat.le_refl _, hn, by rw [size_madeCells], ?_⟩⟩
  rw [fill_zero, madeCells_flat (α := α) _ _ _ hz hs]
  exact List.take_of_length_le (by rw [encs_len, hs]; simp)

/-! A row of flat values that the call owns reads as its list. -/
theorem RepL.of_own' {w : World} {base : Nat} {e : TypeId} {A : Option Addr} {n c : Nat} {l : List α} {s : Nat} (hs : s = Flat.size α) (hn : n = l.length) (h : w.ownsRow base e s (.slice A n c) n (encs l)) (hok : ∀ a ∈ l, Flat.ok a) :
    RepL w (fun b => base ≤ b ∧ b < w.heap.size) l A n c := by
  subst hs hn
  rcases h.2 with ⟨e0, h0⟩ | ⟨g, cap, cur, e0, hb, hg, hnc, hcm, hsz, ht⟩
  · simp only [Value.slice.injEq] at e0
    obtain ⟨rfl, -, rfl⟩ := e0
    obtain rfl := List.eq_nil_of_length_eq_zero h0
    exact ⟨rfl, none, 0, rfl, by simp, by simp [maxLen], fun _ => rfl, fun i hi => absurd hi (by simp)⟩
  · simp only [Value.slice.injEq] at e0
    obtain ⟨rfl, -, rfl⟩ := e0
    refine ⟨rfl, _, c, rfl, hnc, hcm, (fun e => by cases e), fun i hi => ⟨g, 0, Flat.enc l[i], rfl, ⟨hb, (Array.getElem?_eq_some_iff.1 hg).1⟩, fun j u hu => ?_, rfl, hok _ (List.getElem_mem hi)⟩⟩
    have hj : j < Flat.size α := by rw [← Flat.len l[i]]; exact (List.getElem?_eq_some_iff.1 hu).1
    rw [cell_of_row w g _ cur e (0, 0) hg]
    have h1 := encs_get l hi hj
    rw [← ht, List.getElem?_take, if_pos (by
      have : (i + 1) * Flat.size α ≤ l.length * Flat.size α := Nat.mul_le_mul_right _ hi
      rw [Nat.succ_mul] at this; omega)] at h1
    rw [← hu, ← h1]
    have : Rep.size α = Flat.size α := rfl
    simp [this]
theorem RepL.of_own {w : World} {base : Nat} {e : TypeId} {v : Value} {l : List α} {s : Nat} (hs : s = Flat.size α) (h : w.ownsRow base e s v l.length (encs l)) (hok : ∀ a ∈ l, Flat.ok a) :
    ∃ A c, v = .slice A l.length c ∧ RepL w (fun b => base ≤ b ∧ b < w.heap.size) l A l.length c := by
  subst hs
  rcases h.2 with ⟨rfl, h0⟩ | ⟨g, cap, cur, rfl, hb, hg, hnc, hcm, hsz, ht⟩
  · obtain rfl := List.eq_nil_of_length_eq_zero h0
    exact ⟨none, 0, rfl, rfl, none, 0, rfl, by simp, by simp [maxLen], fun _ => rfl, fun i hi => absurd hi (by simp)⟩
  · refine ⟨_, cap, rfl, rfl, _, cap, rfl, hnc, hcm, (fun e => by cases e), fun i hi => ⟨g, 0, Flat.enc l[i], rfl, ⟨hb, (Array.getElem?_eq_some_iff.1 hg).1⟩, fun j u hu => ?_, rfl, hok _ (List.getElem_mem hi)⟩⟩
    have hj : j < Flat.size α := by rw [← Flat.len l[i]]; exact (List.getElem?_eq_some_iff.1 hu).1
    rw [cell_of_row w g _ cur e (0, 0) hg]
    have h1 := encs_get l hi hj
    rw [← ht, List.getElem?_take, if_pos (by
      have : (i + 1) * Flat.size α ≤ l.length * Flat.size α := Nat.mul_le_mul_right _ hi
      rw [Nat.succ_mul] at this; omega)] at h1
    rw [← hu, ← h1]
    have : Rep.size α = Flat.size α := rfl
    simp [this]
end
end Go.Proofs.Ytmfkmifkkplidaa
