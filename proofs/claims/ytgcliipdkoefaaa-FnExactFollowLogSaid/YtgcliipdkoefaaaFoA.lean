/-
  Sub-slices; append in a region that draws its order.
-/
import Derived.Test.YtgcliipdkoefaaaApp
namespace Go.Proofs.Ytgcliipdkoefaaa
open Go.ChangeShapes Go.WideShapes Go.ChangeAt Go.RowKit Go.BigFrame Go.Deep
set_option linter.unusedVariables false

set_option maxHeartbeats 4000000
theorem RepL.take_ {α : Type} [Rep α] {w : World} {S : Nat → Prop} {l : List α} {A : Option Addr} {n c : Nat} (h : RepL w S l A n c) {k : Nat} (hk : k ≤ n) : RepL w S (l.take k) A k c := by
  obtain ⟨rfl, A', c', e, h1, h2, h4, h3⟩ := h
  simp only [List.cons.injEq, Value.slice.injEq, and_true] at e
  obtain ⟨rfl, -, rfl⟩ := e
  have hl : k = (l.take k).length := by rw [List.length_take]; omega
  refine ⟨hl, A, c, by rw [← hl], by rw [← hl]; omega, h2, h4, fun i hi => ?_⟩
  obtain ⟨b, off, xs, hA, hS, hc, hr⟩ := h3 i (by omega)
  exact ⟨b, off, xs, hA, hS, hc, by rw [List.getElem_take]; exact hr⟩
theorem RepL.drop_ {α : Type} [Rep α] {w : World} {S : Nat → Prop} {l : List α} {b off n c : Nat} (h : RepL w S l (some ⟨b, off, none⟩) n c) {k : Nat} (hk : k ≤ n) : RepL w S (l.drop k) (some ⟨b, off + k * Rep.size α, none⟩) (n - k) (c - k) := by
  obtain ⟨rfl, A', c', e, h1, h2, h4, h3⟩ := h
  simp only [List.cons.injEq, Value.slice.injEq, and_true] at e
  obtain ⟨rfl, -, rfl⟩ := e
  have hl : l.length - k = (l.drop k).length := by rw [List.length_drop]
  refine ⟨hl, _, c - k, by rw [← hl], by rw [← hl]; omega, by omega, (fun e => by cases e), fun i hi => ?_⟩
  rw [List.length_drop] at hi
  obtain ⟨b', off', xs, hA, hS, hc, hr⟩ := h3 (k + i) (by omega)
  simp only [Option.some.injEq, Addr.mk.injEq, and_true] at hA
  obtain ⟨rfl, rfl⟩ := hA
  refine ⟨b, off + k * Rep.size α, xs, rfl, hS, fun j u hu => ?_, by rw [List.getElem_drop]; exact hr⟩
  have := hc j u hu
  rw [Nat.add_mul] at this
  rw [show off + k * Rep.size α + (i * Rep.size α + j) = off + (k * Rep.size α + i * Rep.size α + j) by omega]
  exact this
theorem RepL.drop_if {α : Type} [Rep α] {w : World} {S : Nat → Prop} {l : List α} {A : Option Addr} {n c s : Nat} (h : RepL w S l A n c) {k : Nat} (hk : k ≤ n) (hs : s = Rep.size α) : RepL w S (l.drop k) (if c = k then A else A.map (fun x => x.add (k * s))) (n - k) (c - k) := by
  subst hs
  have hbd := h.bd
  by_cases e : n - k = 0
  · have hl : l.drop k = [] := List.drop_of_length_le (by rw [← h.1]; omega)
    rw [hl, e]
    refine ⟨rfl, _, c - k, rfl, Nat.zero_le _, by unfold maxLen; omega, fun hA => ?_, fun i hi => absurd hi (by simp)⟩
    split at hA
    · omega
    · cases A with
      | none => have := h.cap0; omega
      | some a => cases hA
  · have h0 : 0 < l.length := by have := h.1; omega
    obtain ⟨b, off, xs, rfl, -⟩ := h.at_ h0
    rw [if_neg (by omega)]
    have := h.drop_ hk
    simpa [Addr.add_lit] using this
theorem sliceL {α : Type} [Rep α] {w w' : World} {B : Nat} {S : Nat → Prop} {l : List α} {A : Option Addr} {n c : Nat} (h : RepL w S l A n c) (hS : ∀ b, S b → b < B) (hb : Below B w w') : RepL w' S l A n c := h.keep (fun p hp => hb.cell (hS _ hp))
/-- A row of two rows. -/
theorem RepL.two_ {α : Type} [Rep α] {W : World} {S : Nat → Prop} {a b : List α} {A A' : Option Addr} {n c n' c' g : Nat} {T : TypeId} (h : RepL W S a A n c) (h' : RepL W S b A' n' c') (hg : W.heap[g]? = some (.cells #[.slice A n c, .slice A' n' c'] T (0, 0))) :
    RepL W (fun x => S x ∨ x = g) [a, b] (some ⟨g, 0, none⟩) 2 2 := by
  refine ⟨rfl, some ⟨g, 0, none⟩, 2, rfl, Nat.le_refl _, by simp [maxLen], (fun e => by cases e), fun i hi => ?_⟩
  have hz : Rep.size (List α) = 1 := rfl
  match i, hi with
  | 0, _ =>
    obtain ⟨rfl, hr⟩ := h
    refine ⟨g, 0, [.slice A a.length c], rfl, .inr rfl, fun j u hu => ?_, Rep.more hr (fun _ hx => .inl hx)⟩
    cases j with
    | zero =>
      rw [cell_of_row W g _ _ T (0, 0) hg]
      simpa using hu
    | succ j => simp at hu
  | 1, _ =>
    obtain ⟨rfl, hr⟩ := h'
    refine ⟨g, 0, [.slice A' b.length c'], rfl, .inr rfl, fun j u hu => ?_, Rep.more hr (fun _ hx => .inl hx)⟩
    cases j with
    | zero =>
      rw [cell_of_row W g _ _ T (0, 0) hg]
      simpa [hz] using hu
    | succ j => simp at hu
section
variable {P : Program} (w : World)
theorem step_append_list {α : Type} [Flat α] {ops : Array Oper} {o : Oper} {a : Act} {K : Act → World → Prop} {Q : Exit → Act → World → Prop} {E : Prop} (hgd : o.guard = none) (s x : Operand) (t : TypeId)
    (ho : o.op = .call { callee := .builtin .append, args := #[s, x], argTypes := #[t, t] })
    (base : Nat) (e : TypeId) (i : TypeInfo) (z : Value) (size bytes : Nat) (ht : P.underlying t = some (.slice e)) (hi : P.info? e = some i) (hz : i.zero = some z)
    (hsize : i.size = size) (hby : i.bytes = bytes) (hzs : z.cells.size = size) (hsz : 0 < size) (hfs : size = Flat.size α)
    (v : Value) (l : List α) (k : Nat) (hs : a.eval s = v) (hown : w.ownsRow base e size v k (encs l))
    (S : Nat → Prop) (A : Option Addr) (m c : Nat) (l' : List α) (hx : a.eval x = .slice A m c) (hr : RepL w S l' A m c)
    (hsm : k + m ≤ 1000000000) (hbm : bytes ≤ 100000) (hbase : base ≤ w.heap.size)
    (h : ∀ v' w', w'.ownsRow base e size v' (k + m) (encs (l ++ l')) → w.grownBy w' v.ownBlock → (v'.ownBlock = v.ownBlock ∨ v'.ownBlock = some w.heap.size) → K (a.put o.dst v') w') :
    if Region.wanted o (yielded ops a.tmps) = true then Oper.wp P o a w K Q else E := by
  have hw : Region.wanted o (yielded ops a.tmps) = true := by simp [Region.wanted, hgd]
  rw [if_pos hw]
  obtain ⟨v', w', hrun, h2, h3, h4⟩ := run_append_rep (P := P) w base t o.type e i z size bytes ht hi hz hsize hby hzs hsz v k (encs l) hown A m c (encs l') (by rw [encs_len, hfs, hr.1])
    (fun e => by subst e; exact hr.none_.1) (fun ad e => by subst e; exact hr.cells) (encs_one l') (by unfold maxLen; omega)
    (Nat.le_trans (Nat.mul_le_mul hsm hbm) (by omega)) hbase
  unfold Oper.wp execOp
  simp only [ho, resolve, invoke, builtin, Sem.run_bind, Sem.run_pure, Result.andThen_ok, List.map_toArray, List.map_cons, List.map_nil, hs, hx, hrun]
  exact h v' w' (by rw [encs_append]; exact h2) h3 h4
end
end Go.Proofs.Ytgcliipdkoefaaa
