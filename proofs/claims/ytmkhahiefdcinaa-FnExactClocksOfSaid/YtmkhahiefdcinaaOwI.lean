/-
  Reading and writing a list of integers that is owned.
-/
import Derived.Test.YtmkhahiefdcinaaInU
namespace Go.Proofs.Ytmkhahiefdcinaa
open Go.ChangeShapes Go.WideShapes Go.ChangeAt Go.RowKit Go.BigFrame Go.Deep
set_option linter.unusedVariables false

theorem OwnL.intAt {w : World} {C : List Nat} {l : List Int} {A : Option Addr} {n c : Nat} (h : OwnL w C l A n c) {j : Nat} (hj : j < l.length) :
    ∃ g, A = some ⟨g, 0, none⟩ ∧ C = [g] ∧ g < w.heap.size ∧ w.cell? ⟨g, j, none⟩ = some (.int .i64 l[j]) ∧ w.frozen? ⟨g, j, none⟩ = false ∧ I64 l[j] ∧
      ∀ v, I64 v → OwnL (w.setCell ⟨g, j, none⟩ (.int .i64 v)) C (l.set j v) A n c ∧ Touch C w (w.setCell ⟨g, j, none⟩ (.int .i64 v)) := by
  obtain ⟨e, ho, hC, hok⟩ := h.flat_open
  have hn := h.1
  obtain ⟨g, rfl⟩ : ∃ g, A = some ⟨g, 0, none⟩ := by
    rcases ho.2 with ⟨_, e⟩ | ⟨g, cap, cur, e, _⟩
    · omega
    · simp only [Value.slice.injEq] at e
      exact ⟨g, e.1⟩
  have hs1 : Flat.size Int = 1 := rfl
  rw [hs1] at ho
  have hC' : C = [g] := by rw [hC]; rfl
  have hget : (encs l)[j]? = some (.int .i64 l[j]) := by
    have := encs_get l hj (j := 0) (by rw [hs1]; omega)
    rw [hs1, Nat.mul_one, Nat.add_zero] at this
    rw [this]
    rfl
  refine ⟨g, rfl, hC', (ho.lt g rfl).2, by rw [ho.cellAt j (by omega), hget], ho.frozenAt j, hok _ (List.getElem_mem hj), fun v hv => ⟨?_, ?_⟩⟩
  · have h2 := (ho.stored j (.int .i64 v)).1
    have e1 := encs_set l j v hj
    rw [hs1, Nat.mul_one] at e1
    have e2 : setAll (encs l) j (Flat.enc v) = (encs l).set j (.int .i64 v) := rfl
    rw [← e2, e1] at h2
    have hok' : ∀ a ∈ l.set j v, (Flat.ok a : Prop) := fun a ha => by
      rcases List.mem_or_eq_of_mem_set ha with ha | rfl
      · exact hok a ha
      · exact hv
    have := OwnL.flat (s := 1) rfl (by rw [List.length_set]; exact hn) h2 hok'
    rw [hC]
    exact this
  · exact (Touch.refl C w).setCell (p := ⟨g, j, none⟩) (by rw [hC']; simp) _
theorem OwnL.ok {α : Type} [Flat α] {w : World} {C : List Nat} {l : List α} {A : Option Addr} {n c : Nat} (h : OwnL w C l A n c) : ∀ a ∈ l, Flat.ok a := h.flat_open.choose_spec.2.2
/-- What a call has made out of zeros. -/
theorem OwnL.made {α : Type} [Flat α] {w' : World} {T : TypeId} {s : Nat} {l : List α} {A : Option Addr} {n c base : Nat} (hs : s = Flat.size α) (h : w'.ownsRow base T s (.slice A n c) n (encs l)) (hn : n = l.length) (hok : ∀ a ∈ l, Flat.ok a) : OwnL w' (Value.slice A n c).ownBlock.toList l A n c ∧ ((Value.slice A n c).ownBlock.toList).Nodup ∧ ∀ b ∈ (Value.slice A n c).ownBlock.toList, base ≤ b := by
  refine ⟨OwnL.flat hs hn h hok, ?_, fun b hb => (h.lt b (by simpa using hb)).1⟩
  cases (Value.slice A n c).ownBlock <;> simp
/-- A row of rows that are owned. -/
theorem OwnEls.rowOf {α : Type} [Rep α] [Own α] {w : World} {ls : List (List α)} {xs : List Value} {B : List Nat} (h : OwnEls w ls xs B) {q : Nat} {r : List α} (hr : ls[q]? = some r) : ∃ Aq cq, xs[q]? = some (.slice Aq r.length cq) ∧ RepL w (· < w.heap.size) r Aq r.length cq := by
  obtain ⟨hq, rfl⟩ := List.getElem?_eq_some_iff.1 hr
  obtain ⟨cs, Bi, h1, h2, h3⟩ := h.get q hq
  obtain ⟨Aq, cq, xr, Br, er, rfl, -⟩ := id h1
  have e3 := h3 0 _ rfl
  have hR : Rep.size (List α) = 1 := rfl
  rw [hR, Nat.mul_one, Nat.add_zero] at e3
  have h5 : OwnL w Bi ls[q] Aq ls[q].length cq := ⟨rfl, h1⟩
  exact ⟨Aq, cq, e3, h5.rep.more fun b hb => h5.lt b hb⟩
theorem OwnEls.rowOfB {α : Type} [Rep α] [Own α] {w : World} {ls : List (List α)} {xs : List Value} {B : List Nat} (h : OwnEls w ls xs B) {q : Nat} {r : List α} (hr : ls[q]? = some r) : ∃ Aq cq, xs[q]? = some (.slice Aq r.length cq) ∧ RepL w (· ∈ B) r Aq r.length cq := by
  obtain ⟨hq, rfl⟩ := List.getElem?_eq_some_iff.1 hr
  obtain ⟨cs, Bi, h1, h2, h3⟩ := h.get q hq
  obtain ⟨Aq, cq, xr, Br, er, rfl, -⟩ := id h1
  have e3 := h3 0 _ rfl
  have hR : Rep.size (List α) = 1 := rfl
  rw [hR, Nat.mul_one, Nat.add_zero] at e3
  have h5 : OwnL w Bi ls[q] Aq ls[q].length cq := ⟨rfl, h1⟩
  exact ⟨Aq, cq, e3, h5.rep.more fun b hb => h2 b hb⟩
theorem ownsRow_addr {w : World} {base : Nat} {e : TypeId} {s n c : Nat} {A : Option Addr} {xs : List Value} (h : w.ownsRow base e s (.slice A n c) n xs) (hn : 0 < n) : ∃ g, A = some ⟨g, 0, none⟩ ∧ base ≤ g ∧ g < w.heap.size := by
  rcases h.2 with ⟨_, e⟩ | ⟨g, cap, cur, e, hb, hg, _⟩
  · omega
  · simp only [Value.slice.injEq] at e
    exact ⟨g, e.1, hb, (Array.getElem?_eq_some_iff.1 hg).1⟩
end Go.Proofs.Ytmkhahiefdcinaa
