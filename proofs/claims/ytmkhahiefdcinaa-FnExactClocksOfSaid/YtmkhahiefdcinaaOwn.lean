/-
  Values that own their memory: every block they reach is listed, once; what a mark writes into them ('mkL'), and how much of the budget they weigh.
-/
import Derived.Test.YtmkhahiefdcinaaKit
import Derived.Maps.AppendAt
namespace Go.Proofs.Ytmkhahiefdcinaa
open Go.ChangeShapes Go.WideShapes Go.ChangeAt Go.RowKit Go.BigFrame Go.Deep
set_option linter.unusedVariables false

/-- a value of a's cells that reaches the blocks B, in order. -/
class Own (α : Type) [Rep α] where
  own : World → List Nat → α → List Value → Prop
  rep : ∀ {w : World} {B : List Nat} {a : α} {cs : List Value}, own w B a cs → Rep.rep w (· ∈ B) a cs
  keep : ∀ {w w' : World} {B : List Nat} {a : α} {cs : List Value}, own w B a cs → (∀ b ∈ B, w'.heap[b]? = w.heap[b]?) → own w' B a cs
  lt : ∀ {w : World} {B : List Nat} {a : α} {cs : List Value}, own w B a cs → ∀ b ∈ B, b < w.heap.size
instance {α : Type} [Flat α] : Own α where
  own _ B a cs := B = [] ∧ cs = Flat.enc a ∧ Flat.ok a
  rep h := ⟨h.2.1, h.2.2⟩
  keep h _ := h
  lt h b hb := by rw [h.1] at hb; cases hb

section
variable {α : Type} [Rep α] [Own α]
/-- The elements of a row: their cells one behind the other. -/
def OwnEls (w : World) : List α → List Value → List Nat → Prop
  | [], xs, B => xs = [] ∧ B = []
  | a :: l, xs, B => ∃ cs ys B1 B2, xs = cs ++ ys ∧ B = B1 ++ B2 ∧ Own.own w B1 a cs ∧ OwnEls w l ys B2
theorem OwnEls.keep {w w' : World} : ∀ {l : List α} {xs : List Value} {B : List Nat}, OwnEls w l xs B → (∀ b ∈ B, w'.heap[b]? = w.heap[b]?) → OwnEls w' l xs B
  | [], _, _, h, _ => h
  | _ :: _, _, _, ⟨cs, ys, B1, B2, e1, e2, h1, h2⟩, hk => ⟨cs, ys, B1, B2, e1, e2, Own.keep h1 (fun b hb => hk b (by rw [e2]; exact List.mem_append_left _ hb)), OwnEls.keep h2 (fun b hb => hk b (by rw [e2]; exact List.mem_append_right _ hb))⟩
theorem OwnEls.lt {w : World} : ∀ {l : List α} {xs : List Value} {B : List Nat}, OwnEls w l xs B → ∀ b ∈ B, b < w.heap.size
  | [], _, _, h, b, hb => by rw [h.2] at hb; cases hb
  | _ :: _, _, _, ⟨_, _, _, _, _, e2, h1, h2⟩, b, hb => by
    rw [e2] at hb
    rcases List.mem_append.1 hb with hb | hb
    · exact Own.lt h1 b hb
    · exact OwnEls.lt h2 b hb
theorem OwnEls.len {w : World} : ∀ {l : List α} {xs : List Value} {B : List Nat}, OwnEls w l xs B → xs.length = l.length * Rep.size α
  | [], _, _, h => by rw [h.1]; simp
  | _ :: l, _, _, ⟨_, _, _, _, e1, _, h1, h2⟩ => by
    have h3 := OwnEls.len h2
    have h4 := Rep.len (Own.rep h1)
    rw [e1, List.length_append, h3, h4, List.length_cons, Nat.succ_mul]
    omega
theorem OwnEls.append {w : World} : ∀ {l m : List α} {xs ys : List Value} {B C : List Nat}, OwnEls w l xs B → OwnEls w m ys C → OwnEls w (l ++ m) (xs ++ ys) (B ++ C)
  | [], _, _, _, _, _, h, k => by rw [h.1, h.2]; exact k
  | _ :: _, _, _, _, _, _, ⟨cs, ys, B1, B2, e1, e2, h1, h2⟩, k => ⟨cs, _, B1, _, by rw [e1, List.append_assoc], by rw [e2, List.append_assoc], h1, OwnEls.append h2 k⟩
theorem OwnEls.one {w : World} {a : α} {cs : List Value} {B : List Nat} (h : Own.own w B a cs) : OwnEls w [a] cs B := ⟨cs, [], B, [], by simp, by simp, h, rfl, rfl⟩
theorem OwnEls.snoc {w : World} {l : List α} {a : α} {xs cs : List Value} {B C : List Nat} (h : OwnEls w l xs B) (k : Own.own w C a cs) : OwnEls w (l ++ [a]) (xs ++ cs) (B ++ C) := h.append (OwnEls.one k)
theorem OwnEls.get {w : World} : ∀ {l : List α} {xs : List Value} {B : List Nat}, OwnEls w l xs B → ∀ (i : Nat) (h : i < l.length), ∃ cs Bi, Own.own w Bi l[i] cs ∧ (∀ b ∈ Bi, b ∈ B) ∧ ∀ j u, cs[j]? = some u → xs[i * Rep.size α + j]? = some u
  | [], _, _, _, i, h => absurd h (by simp)
  | a :: l, xs, B, ⟨cs, ys, B1, B2, e1, e2, h1, h2⟩, i, h => by
    have h4 := Rep.len (Own.rep h1)
    cases i with
    | zero =>
      refine ⟨cs, B1, h1, fun b hb => by rw [e2]; exact List.mem_append_left _ hb, fun j u hu => ?_⟩
      have hj : j < cs.length := (List.getElem?_eq_some_iff.1 hu).1
      rw [e1, Nat.zero_mul, Nat.zero_add, List.getElem?_append_left hj]
      exact hu
    | succ i =>
      obtain ⟨cs', Bi, g1, g2, g3⟩ := OwnEls.get h2 i (by simpa using h)
      refine ⟨cs', Bi, g1, fun b hb => by rw [e2]; exact List.mem_append_right _ (g2 b hb), fun j u hu => ?_⟩
      rw [e1, List.getElem?_append_right (by rw [h4, Nat.succ_mul]; omega), h4, ← g3 j u hu]
      congr 1
      rw [Nat.succ_mul]; omega
/-- At a place of the list. -/
theorem OwnEls.at_ {w : World} {l : List α} {xs : List Value} {B : List Nat} {j : Nat} (h : OwnEls w (l.drop j) xs B) (hj : j < l.length) : ∃ cs ys B1 B2, xs = cs ++ ys ∧ B = B1 ++ B2 ∧ Own.own w B1 l[j] cs ∧ OwnEls w (l.drop (j + 1)) ys B2 := by
  rw [List.drop_eq_getElem_cons hj] at h
  exact h
end
theorem ownEls_flat {α : Type} [Flat α] {w : World} : ∀ {l : List α} {xs : List Value} {B : List Nat}, OwnEls w l xs B ↔ xs = encs l ∧ B = [] ∧ ∀ a ∈ l, Flat.ok a
  | [], xs, B => by simp [OwnEls, encs]
  | a :: l, xs, B => by
    constructor
    · rintro ⟨cs, ys, B1, B2, rfl, rfl, ⟨h1, h2, h3⟩, h4⟩
      obtain ⟨k1, k2, k3⟩ := ownEls_flat.1 h4
      subst h1 h2 k1 k2
      refine ⟨by simp [encs], rfl, fun x hx => ?_⟩
      rcases List.mem_cons.1 hx with rfl | hx
      · exact h3
      · exact k3 x hx
    · rintro ⟨rfl, rfl, h⟩
      exact ⟨Flat.enc a, encs l, [], [], by simp [encs], rfl, ⟨rfl, rfl, h a (List.mem_cons_self ..)⟩, ownEls_flat.2 ⟨rfl, rfl, fun x hx => h x (List.mem_cons_of_mem _ hx)⟩⟩

theorem ownsRow_block {w w' : World} {base : Nat} {e : TypeId} {s n : Nat} {v : Value} {xs : List Value} (h : w.ownsRow base e s v n xs) (hg : ∀ k, v.ownBlock = some k → w'.heap[k]? = w.heap[k]?) : w'.ownsRow base e s v n xs := by
  refine ⟨h.1, h.2.imp id ?_⟩
  rintro ⟨g, cap, cur, rfl, hb, hgg, rest⟩
  exact ⟨g, cap, cur, rfl, hb, (hg g rfl).trans hgg, rest⟩
theorem ownsRow_base {w : World} {base base' : Nat} {e : TypeId} {s n : Nat} {v : Value} {xs : List Value} (h : w.ownsRow base e s v n xs) (hg : ∀ k, v.ownBlock = some k → base' ≤ k) : w.ownsRow base' e s v n xs := by
  refine ⟨h.1, h.2.imp id ?_⟩
  rintro ⟨g, cap, cur, rfl, hb, rest⟩
  exact ⟨g, cap, cur, rfl, hg g rfl, rest⟩

instance {α : Type} [Rep α] [Own α] : Own (List α) where
  own w B l cs := ∃ A c xs Bs e, cs = [.slice A l.length c] ∧ w.ownsRow 0 e (Rep.size α) (.slice A l.length c) l.length xs ∧ OwnEls w l xs Bs ∧ B = (Value.slice A l.length c).ownBlock.toList ++ Bs
  rep := by
    rintro w B l cs ⟨A, c, xs, Bs, e, rfl, ho, he, rfl⟩
    rcases ho.2 with ⟨e0, h0⟩ | ⟨g, cap, cur, e0, hb, hg, hnc, hcm, hsz, ht⟩
    · simp only [Value.slice.injEq] at e0
      obtain ⟨rfl, -, rfl⟩ := e0
      exact ⟨none, 0, rfl, by omega, by unfold maxLen; omega, fun _ => rfl, fun i hi => absurd hi (by omega)⟩
    · simp only [Value.slice.injEq] at e0
      obtain ⟨rfl, -, rfl⟩ := e0
      refine ⟨_, c, rfl, hnc, hcm, (fun e => by cases e), fun i hi => ?_⟩
      obtain ⟨cs, Bi, h1, h2, h3⟩ := he.get i hi
      refine ⟨g, 0, cs, rfl, by simp [Value.ownBlock], fun j u hu => ?_, Rep.more (Own.rep h1) (fun b hb => List.mem_append_right _ (h2 b hb))⟩
      have hx := h3 j u hu
      rw [cell_of_row w g _ cur e (0, 0) hg]
      rw [← ht, List.getElem?_take] at hx
      split at hx
      · simpa using hx
      · cases hx
  keep := by
    rintro w w' B l cs ⟨A, c, xs, Bs, e, rfl, ho, he, rfl⟩ hk
    refine ⟨A, c, xs, Bs, e, rfl, ownsRow_block ho (fun k hk' => hk k (List.mem_append_left _ (by rw [hk']; simp))), he.keep (fun b hb => hk b (List.mem_append_right _ hb)), rfl⟩
  lt := by
    rintro w B l cs ⟨A, c, xs, Bs, e, rfl, ho, he, rfl⟩ b hb
    rcases List.mem_append.1 hb with hb | hb
    · exact (ho.lt b (by simpa using hb)).2
    · exact he.lt b hb

/-- The slice value of a list that is owned. -/
def OwnL {α : Type} [Rep α] [Own α] (w : World) (B : List Nat) (l : List α) (A : Option Addr) (n c : Nat) : Prop := n = l.length ∧ Own.own w B l [.slice A n c]
/-- Only B's blocks, and new ones, may have turned. -/
structure Touch (B : List Nat) (w w' : World) : Prop where
  os : w'.os = w.os
  tape : w'.tape = w.tape
  output : w'.output = w.output
  size : w.heap.size ≤ w'.heap.size
  block : ∀ k, k < w.heap.size → k ∉ B → w'.heap[k]? = w.heap[k]?
theorem Touch.refl (B : List Nat) (w : World) : Touch B w w := ⟨rfl, rfl, rfl, Nat.le_refl _, fun _ _ _ => rfl⟩
theorem Touch.trans {B : List Nat} {a b c : World} (h : Touch B a b) (k : Touch B b c) : Touch B a c :=
  ⟨k.os.trans h.os, k.tape.trans h.tape, k.output.trans h.output, Nat.le_trans h.size k.size, fun i hi hn => (k.block i (Nat.lt_of_lt_of_le hi h.size) hn).trans (h.block i hi hn)⟩
theorem Touch.more {B C : List Nat} {a b : World} (h : Touch B a b) (hs : ∀ x ∈ B, x ∈ C) : Touch C a b := ⟨h.os, h.tape, h.output, h.size, fun i hi hn => h.block i hi (fun hb => hn (hs i hb))⟩
theorem Touch.below {B : List Nat} {w w' : World} (h : Below w.heap.size w w') : Touch B w w' := ⟨h.os, h.tape, h.output, h.size, fun k hk _ => h.block k hk⟩
theorem Touch.grown {B : List Nat} {w w' : World} {row : Option Nat} (h : w.grownBy w' row) (hr : ∀ k, row = some k → k ∈ B) : Touch B w w' := ⟨h.os, h.tape, h.output, h.size, fun k hk hn => h.block k hk (fun e => hn (hr k e.symm))⟩
theorem Touch.setCell {B : List Nat} {a w : World} (h : Touch B a w) {p : Addr} (hp : p.block ∈ B) (v : Value) : Touch B a (w.setCell p v) :=
  ⟨h.os, h.tape, h.output, by simpa [World.setCell] using h.size, fun i hi hn => (Below.heap_setCell _ _ _ i (fun e => hn (by rw [e]; exact hp))).trans (h.block i hi hn)⟩
theorem Touch.drew {B : List Nat} {a w : World} (h : Touch B a w) : Touch B a w.drew := ⟨h.os, h.tape, h.output, h.size, h.block⟩
theorem Touch.alloc {B : List Nat} {a w : World} (h : Touch B a w) (o : Obj) : Touch B a (w.alloc o) := h.trans (Touch.below ((Below.refl _ _).alloc (Nat.le_refl _) o))
theorem RepL.touch {α : Type} [Rep α] {w w' : World} {S : Nat → Prop} {l : List α} {A : Option Addr} {n c : Nat} {B : List Nat} (h : RepL w S l A n c) (ht : Touch B w w') (hS : ∀ b, S b → b < w.heap.size ∧ b ∉ B) : RepL w' S l A n c :=
  h.keep fun p hp => World.cell?_of_block (ht.block p.block (hS _ hp).1 (hS _ hp).2)
theorem rep_touch {α : Type} [Rep α] {w w' : World} {S : Nat → Prop} {a : α} {cs : List Value} {B : List Nat} (h : Rep.rep w S a cs) (ht : Touch B w w') (hS : ∀ b, S b → b < w.heap.size ∧ b ∉ B) : Rep.rep w' S a cs :=
  Rep.keep h fun p hp => World.cell?_of_block (ht.block p.block (hS _ hp).1 (hS _ hp).2)
theorem own_touch {α : Type} [Rep α] [Own α] {w w' : World} {a : α} {cs : List Value} {B C : List Nat} (h : Own.own w C a cs) (ht : Touch B w w') (hd : ∀ b ∈ C, b ∉ B) : Own.own w' C a cs :=
  Own.keep h fun b hb => ht.block b (Own.lt h b hb) (hd b hb)
theorem OwnEls.touch {α : Type} [Rep α] [Own α] {w w' : World} {l : List α} {xs : List Value} {B C : List Nat} (h : OwnEls w l xs C) (ht : Touch B w w') (hd : ∀ b ∈ C, b ∉ B) : OwnEls w' l xs C :=
  h.keep fun b hb => ht.block b (h.lt b hb) (hd b hb)
theorem ownsRow_touch {w w' : World} {base : Nat} {e : TypeId} {s n : Nat} {v : Value} {xs : List Value} {B : List Nat} (h : w.ownsRow base e s v n xs) (ht : Touch B w w') (hd : ∀ k, v.ownBlock = some k → k ∉ B) : w'.ownsRow base e s v n xs :=
  ownsRow_block h fun k hk => ht.block k (h.lt k hk).2 (hd k hk)
theorem below_touch {base : Nat} {a w w' : World} {B : List Nat} (h : Below base a w) (ht : Touch B w w') (hB : ∀ b ∈ B, base ≤ b) (hs : base ≤ w.heap.size) : Below base a w' :=
  ⟨ht.os.trans h.os, ht.tape.trans h.tape, ht.output.trans h.output, Nat.le_trans h.size ht.size, fun k hk => (ht.block k (by omega) (fun hb => by have := hB k hb; omega)).trans (h.block k hk)⟩
theorem OwnL.touch {α : Type} [Rep α] [Own α] {w w' : World} {l : List α} {A : Option Addr} {n c : Nat} {B C : List Nat} (h : OwnL w C l A n c) (ht : Touch B w w') (hd : ∀ b ∈ C, b ∉ B) : OwnL w' C l A n c := ⟨h.1, own_touch h.2 ht hd⟩
theorem OwnL.below {α : Type} [Rep α] [Own α] {w w' : World} {l : List α} {A : Option Addr} {n c : Nat} {C : List Nat} (h : OwnL w C l A n c) (hb : Below w.heap.size w w') : OwnL w' C l A n c := ⟨h.1, Own.keep h.2 fun b hb' => hb.block b (Own.lt h.2 b hb')⟩
theorem OwnL.rep {α : Type} [Rep α] [Own α] {w : World} {l : List α} {A : Option Addr} {n c : Nat} {C : List Nat} (h : OwnL w C l A n c) : RepL w (· ∈ C) l A n c := ⟨h.1, Own.rep h.2⟩
theorem OwnL.lt {α : Type} [Rep α] [Own α] {w : World} {l : List α} {A : Option Addr} {n c : Nat} {C : List Nat} (h : OwnL w C l A n c) : ∀ b ∈ C, b < w.heap.size := Own.lt h.2
/-- A row and its elements. -/
theorem OwnL.open_ {α : Type} [Rep α] [Own α] {w : World} {l : List α} {A : Option Addr} {n c : Nat} {C : List Nat} (h : OwnL w C l A n c) : ∃ xs Bs e, w.ownsRow 0 e (Rep.size α) (.slice A n c) n xs ∧ OwnEls w l xs Bs ∧ C = (Value.slice A n c).ownBlock.toList ++ Bs := by
  obtain ⟨rfl, A', c', xs, Bs, e, e1, h1, h2, rfl⟩ := h
  simp only [List.cons.injEq, Value.slice.injEq, and_true] at e1
  obtain ⟨rfl, -, rfl⟩ := e1
  exact ⟨xs, Bs, e, h1, h2, rfl⟩
theorem OwnL.mk_ {α : Type} [Rep α] [Own α] {w : World} {l : List α} {A : Option Addr} {n c : Nat} {Bs : List Nat} {xs : List Value} {e : TypeId} {base : Nat} (hn : n = l.length) (h1 : w.ownsRow base e (Rep.size α) (.slice A n c) n xs) (h2 : OwnEls w l xs Bs) : OwnL w ((Value.slice A n c).ownBlock.toList ++ Bs) l A n c := by
  subst hn
  exact ⟨rfl, A, c, xs, Bs, e, rfl, ownsRow_base h1 (fun _ _ => Nat.zero_le _), h2, rfl⟩
theorem OwnL.flat {α : Type} [Flat α] {w : World} {l : List α} {A : Option Addr} {n c : Nat} {e : TypeId} {base s : Nat} (hs : s = Flat.size α) (hn : n = l.length) (h1 : w.ownsRow base e s (.slice A n c) n (encs l)) (hok : ∀ a ∈ l, Flat.ok a) : OwnL w (Value.slice A n c).ownBlock.toList l A n c := by
  subst hs
  have := OwnL.mk_ (Bs := []) hn h1 (ownEls_flat.2 ⟨rfl, rfl, hok⟩)
  simpa using this
theorem blk_mem {v : Value} {k : Nat} : k ∈ v.ownBlock.toList ↔ v.ownBlock = some k := by simp
theorem OwnL.bd {α : Type} [Rep α] [Own α] {w : World} {l : List α} {A : Option Addr} {n c : Nat} {C : List Nat} (h : OwnL w C l A n c) : n ≤ c ∧ c ≤ 9223372036854775807 := h.rep.bd

/-- An element that is owned is appended to a row of owned elements. -/
theorem snoc_own {α : Type} [Rep α] [Own α] {W w9 : World} {l : List α} {a : α} {xs cs : List Value} {B C : List Nat} {v v1 : Value} {H : Nat}
    (hE : OwnEls W l xs B) (ha : Own.own W C a cs) (hnd : (v.ownBlock.toList ++ B).Nodup) (hC : C.Nodup) (hdis : ∀ b ∈ C, b ∉ v.ownBlock.toList ++ B)
    (hT : Touch v.ownBlock.toList W w9) (hat : v1.ownBlock = v.ownBlock ∨ v1.ownBlock = some H) (hH : W.heap.size ≤ H) :
    OwnEls w9 (l ++ [a]) (xs ++ cs) (B ++ C) ∧ (v1.ownBlock.toList ++ (B ++ C)).Nodup := by
  have hnd' := List.nodup_append.1 hnd
  refine ⟨OwnEls.snoc (hE.touch hT fun b hb hm => hnd'.2.2 b hm b hb rfl) (own_touch ha hT fun b hb hm => hdis b hb (List.mem_append_left _ hm)), ?_⟩
  have hBC : (B ++ C).Nodup := List.nodup_append.2 ⟨hnd'.2.1, hC, fun x hx y hy e => hdis y hy (List.mem_append_right _ (e ▸ hx))⟩
  rcases hat with e | e
  · rw [e]
    refine List.nodup_append.2 ⟨hnd'.1, hBC, fun x hx y hy e => ?_⟩
    rcases List.mem_append.1 hy with hy | hy
    · exact hnd'.2.2 x hx y hy e
    · exact hdis y hy (List.mem_append_left _ (e ▸ hx))
  · rw [e]
    simp only [Option.toList_some, List.singleton_append, List.nodup_cons]
    refine ⟨fun hm => ?_, hBC⟩
    rcases List.mem_append.1 hm with hm | hm
    · have := hE.lt H hm; omega
    · have := Own.lt ha H hm; omega

/-! ### Marks -/
class Mark (α : Type) where
  cnt : α → Nat
  mrk : Nat → α → α
section
variable {α : Type} [Mark α]
def mkL : Nat → List α → List α
  | _, [] => []
  | k, a :: l => Mark.mrk k a :: mkL (k + Mark.cnt a) l
def mcnt (l : List α) : Nat := (l.map Mark.cnt).sum
instance : Mark (List α) := ⟨mcnt, mkL⟩
theorem mkL_len : ∀ (k : Nat) (l : List α), (mkL k l).length = l.length
  | _, [] => rfl
  | k, a :: l => by simp [mkL, mkL_len _ l]
theorem mcnt_take {l : List α} {j : Nat} (h : j < l.length) : mcnt (l.take (j + 1)) = mcnt (l.take j) + Mark.cnt l[j] := by
  unfold mcnt
  rw [List.take_succ_eq_append_getElem h, List.map_append, List.sum_append]
  simp
theorem mcnt_le (l : List α) (j : Nat) : mcnt (l.take j) ≤ mcnt l := by
  unfold mcnt
  conv => rhs; rw [← List.take_append_drop j l]
  rw [List.map_append, List.sum_append]
  omega
theorem mcnt_append (l m : List α) : mcnt (l ++ m) = mcnt l + mcnt m := by unfold mcnt; rw [List.map_append, List.sum_append]
theorem mkL_append : ∀ (k : Nat) (l m : List α), mkL k (l ++ m) = mkL k l ++ mkL (k + mcnt l) m
  | k, [], m => by simp [mkL, mcnt]
  | k, a :: l, m => by
    simp only [List.cons_append, mkL, mkL_append, mcnt, List.map_cons, List.sum_cons, Nat.add_assoc]
theorem mkL_snoc {k : Nat} {l : List α} {j : Nat} (h : j < l.length) : mkL k (l.take (j + 1)) = mkL k (l.take j) ++ [Mark.mrk (k + mcnt (l.take j)) l[j]] := by
  rw [List.take_succ_eq_append_getElem h, mkL_append]
  rfl
theorem mkL_get {k : Nat} {l : List α} {j : Nat} (h : j < l.length) : (mkL k l)[j]? = some (Mark.mrk (k + mcnt (l.take j)) l[j]) := by
  have e : mkL k l = mkL k (l.take (j + 1)) ++ mkL (k + mcnt (l.take (j + 1))) (l.drop (j + 1)) := by rw [← mkL_append, List.take_append_drop]
  rw [e, mkL_snoc h, List.getElem?_append_left (by simp [mkL_len]; omega), List.getElem?_append_right (by simp [mkL_len]; omega)]
  simp [mkL_len, Nat.min_eq_left (Nat.le_of_lt h)]
end

/-! ### Weights -/
class Wt (α : Type) where
  wt : α → Nat
theorem le_sum_of_mem_nat {l : List Nat} {a : Nat} (h : a ∈ l) : a ≤ l.sum := by
  induction l with
  | nil => cases h
  | cons b l ih =>
    rw [List.sum_cons]
    rcases List.mem_cons.1 h with rfl | h
    · omega
    · have := ih h; omega
section
variable {α : Type} [Wt α]
def wtL (l : List α) : Nat := l.length + (l.map Wt.wt).sum
instance : Wt (List α) := ⟨wtL⟩
theorem wtL_get {l : List α} {j : Nat} (h : j < l.length) : Wt.wt l[j] ≤ wtL l := by
  unfold wtL
  have h1 : Wt.wt l[j] ∈ l.map Wt.wt := List.mem_map_of_mem (List.getElem_mem h)
  have h2 := le_sum_of_mem_nat h1
  omega
theorem wtL_len (l : List α) : l.length ≤ wtL l := Nat.le_add_right _ _
theorem wtS_take {l : List α} {j : Nat} (h : j < l.length) : ((l.take (j + 1)).map Wt.wt).sum = ((l.take j).map Wt.wt).sum + Wt.wt l[j] := by
  rw [List.take_succ_eq_append_getElem h, List.map_append, List.sum_append]
  simp
end
end Go.Proofs.Ytmkhahiefdcinaa
