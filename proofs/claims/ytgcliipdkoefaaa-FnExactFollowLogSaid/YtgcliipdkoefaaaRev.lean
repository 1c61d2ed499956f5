/-
  Contract: slices.Reverse at []Start, a row of the call's own.
-/
import Derived.Test.YtgcliipdkoefaaaSsM
import Derived.Test.YtgcliipdkoefaaaApp
namespace Go.Proofs.Ytgcliipdkoefaaa
open Go.ChangeShapes Go.WideShapes Go.ChangeAt Go.RowKit Go.BigFrame Go.Deep
set_option linter.unusedVariables false

set_option maxHeartbeats 4000000
/-- The first i and the last i elements have changed places. -/
def revTo {α : Type} (l : List α) (i : Nat) (L : List α) : Prop := L.length = l.length ∧ ∀ t, t < l.length → L[t]? = if t < i ∨ l.length ≤ t + i then l[l.length - 1 - t]? else l[t]?
theorem revTo_zero {α : Type} (l : List α) : revTo l 0 l := ⟨rfl, fun t ht => by rw [if_neg (by omega)]⟩
theorem revTo_end {α : Type} {l L : List α} {i : Nat} (h : revTo l i L) (hi : l.length ≤ i + i + 1) : L = l.reverse := by
  apply List.ext_getElem?
  intro t
  by_cases ht : t < l.length
  · rw [h.2 t ht, List.getElem?_reverse ht]
    split
    · rfl
    · congr 1; omega
  · rw [List.getElem?_eq_none (by rw [h.1]; omega), List.getElem?_eq_none (by rw [List.length_reverse]; omega)]
theorem revTo_step {α : Type} {l L : List α} {i j : Nat} {x y : α} (h : revTo l i L) (hj : j = l.length - 1 - i) (hij : i < j) (hx : L[i]? = some x) (hy : L[j]? = some y) : revTo l (i + 1) ((L.set i y).set j x) := by
  refine ⟨by simp [h.1], fun t ht => ?_⟩
  have e1 := h.2 i (by omega)
  have e2 := h.2 j (by omega)
  rw [if_neg (by omega)] at e1 e2
  rw [List.getElem?_set]
  by_cases h1 : j = t
  · subst h1
    rw [if_pos rfl, if_pos (by simp [h.1]; omega), if_pos (by omega), ← hx, e1]
    congr 1; omega
  · rw [if_neg h1, List.getElem?_set]
    by_cases h2 : i = t
    · subst h2
      rw [if_pos rfl, if_pos (by rw [h.1]; omega), if_pos (by omega), ← hy, e2]
      congr 1
    · rw [if_neg h2, h.2 t ht]
      by_cases h3 : t < i ∨ l.length ≤ t + i
      · rw [if_pos h3, if_pos (by omega)]
      · rw [if_neg h3, if_neg (by omega)]
theorem reverseSta_any (l : List P2) (w : World) (base : Nat) (A : Option Addr) (n c : Nat) (hn : n = l.length) (hsm : n ≤ 1048576) (h : w.ownsRow base 55 2 (.slice A n c) n (encs l)) :
    Calls Try.prog 74 #[.slice A n c] w fun e w' => (∃ v0, e = .returned v0) ∧ w'.ownsRow base 55 2 (.slice A n c) n (encs l.reverse) ∧ w.grownBy w' (Value.slice A n c).ownBlock ∧ w.heap.size = w'.heap.size := by
  have Hn := Lib.hid hn
  clear hn
  go_enter Try.func74, Try.ntmps74
  go_wp2_with fail
  go_loopw [2, 3] (fun p q wr => ∃ (i : Nat) (L : List P2), i ≤ n ∧ p = .int .i64 i ∧ q = .int .i64 ((n : Int) - 1 - i) ∧ revTo l i L ∧ wr.ownsRow base 55 2 (.slice A n c) n (encs L) ∧ w.grownBy wr (Value.slice A n c).ownBlock ∧ w.heap.size = wr.heap.size) (fun p _ _ => n - (intOf p).toNat)
  case atStart => exact ⟨0, l, Nat.zero_le _, rfl, by simp, revTo_zero l, h, World.grownBy.refl _ _, rfl⟩
  case round =>
    obtain ⟨i, L, hi, rfl, rfl, hrev, hown, hgr, hsz⟩ := hrel
    have Hsz := Lib.hid hsz
    have Hgr := Lib.hid hgr
    have Hrev := Lib.hid hrev
    clear hsz hgr hrev
    by_cases hlt : i + 1 + i < n
    · obtain ⟨j, hj⟩ : ∃ j : Nat, (n : Int) - 1 - (i : Int) = (j : Int) := ⟨n - 1 - i, by omega⟩
      rw [hj]
      have hjn : j = n - 1 - i := by omega
      have hij : (i : Int) < (j : Int) := by omega
      have hjI : (j : Int) < (n : Int) := by omega
      have hiI : (i : Int) < (n : Int) := by omega
      have hi0 : (0 : Int) ≤ (i : Int) := by omega
      have hj0 : (0 : Int) ≤ (j : Int) := by omega
      have dlt : decide (i < j) = true := decide_eq_true (by omega)
      obtain ⟨g, rfl⟩ : ∃ g, A = some ⟨g, 0, none⟩ := by
        rcases h.2 with ⟨_, e⟩ | ⟨g, cap, cur, e, _⟩
        · omega
        · simp only [Value.slice.injEq] at e
          exact ⟨g, e.1⟩
      have hLl : L.length = n := by rw [Hrev.out.1]; exact Hn.out.symm
      obtain ⟨x, hx⟩ : ∃ x, L[i]? = some x := ⟨_, List.getElem?_eq_getElem (by omega)⟩
      obtain ⟨y, hy⟩ : ∃ y, L[j]? = some y := ⟨_, List.getElem?_eq_getElem (by omega)⟩
      obtain ⟨xa, xb⟩ := x
      obtain ⟨ya, yb⟩ := y
      have ci : ∀ t, t < 2 → (encs L)[i * 2 + t]? = (Flat.enc (⟨xa, xb⟩ : P2))[t]? := fun t ht => by
        obtain ⟨hl, e⟩ := List.getElem?_eq_some_iff.1 hx
        rw [← e]; exact encs_get L hl ht
      have cj : ∀ t, t < 2 → (encs L)[j * 2 + t]? = (Flat.enc (⟨ya, yb⟩ : P2))[t]? := fun t ht => by
        obtain ⟨hl, e⟩ := List.getElem?_eq_some_iff.1 hy
        rw [← e]; exact encs_get L hl ht
      have f0 : wr.cell? ⟨g, i * 2, none⟩ = some (.int .i64 xa) := (hown.cellAt (i * 2) (by omega)).trans (ci 0 (by omega))
      have f1 : wr.cell? ⟨g, i * 2 + 1, none⟩ = some (.int .i64 xb) := (hown.cellAt (i * 2 + 1) (by omega)).trans (ci 1 (by omega))
      have f2 : wr.cell? ⟨g, j * 2, none⟩ = some (.int .i64 ya) := (hown.cellAt (j * 2) (by omega)).trans (cj 0 (by omega))
      have f3 : wr.cell? ⟨g, j * 2 + 1, none⟩ = some (.int .i64 yb) := (hown.cellAt (j * 2 + 1) (by omega)).trans (cj 1 (by omega))
      have z0 := hown.frozenAt (i * 2)
      have z1 := hown.frozenAt (i * 2 + 1)
      have z2 := hown.frozenAt (j * 2)
      have z3 := hown.frozenAt (j * 2 + 1)
      have hne0 : i * 2 ≠ j * 2 := by omega
      have hne1 : i * 2 ≠ j * 2 + 1 := by omega
      have hne2 : i * 2 + 1 ≠ j * 2 := by omega
      have hne3 : i * 2 + 1 ≠ j * 2 + 1 := by omega
      have Hx := Lib.hid hx
      have Hy := Lib.hid hy
      have Hown := Lib.hid hown
      have Hjn := Lib.hid hjn
      clear hx hy hown hjn
      go_wp2_with fail
      go_region
      have hown := Hown.out
      have o1 := hown.stored (i * 2) (.int .i64 ya)
      have o2 := o1.1.stored (i * 2 + 1) (.int .i64 yb)
      have o3 := o2.1.stored (j * 2) (.int .i64 xa)
      have o4 := o3.1.stored (j * 2 + 1) (.int .i64 xb)
      have hg4 := ((o1.2.trans o2.2).trans o3.2).trans o4.2
      have e1 := encs_set L i ⟨ya, yb⟩ (by omega)
      have e2 := encs_set (L.set i ⟨ya, yb⟩) j ⟨xa, xb⟩ (by simp; omega)
      have hs : Flat.size P2 = 2 := rfl
      rw [hs] at e1 e2
      have h2 := Lib.hid (show (wr.setCell ⟨g, i * 2, none⟩ (.int .i64 ya) |>.setCell ⟨g, i * 2 + 1, none⟩ (.int .i64 yb) |>.setCell ⟨g, j * 2, none⟩ (.int .i64 xa) |>.setCell ⟨g, j * 2 + 1, none⟩ (.int .i64 xb)).ownsRow base 55 2 (.slice (some ⟨g, 0, none⟩) n c) n (encs ((L.set i ⟨ya, yb⟩).set j ⟨xa, xb⟩)) by
        rw [← e2, ← e1]
        exact o4.1)
      have Hg4 := Lib.hid hg4
      have hi1 : IntKind.i64.wrap ((i : Int) + 1) = (i : Int) + 1 := by rw [IntKind.wrap_i64]; omega
      have hj1 : IntKind.i64.wrap ((j : Int) - 1) = (j : Int) - 1 := by rw [IntKind.wrap_i64]; omega
      have Hhj := Lib.hid hj
      clear o1 o2 o3 o4 hg4 e1 e2 hown hs hj
      go_wp2_with fail
      go_roundw
      case rel =>
        refine ⟨i + 1, (L.set i ⟨ya, yb⟩).set j ⟨xa, xb⟩, by omega, by go_num, ?_, revTo_step Hrev.out (by have := Hn.out; have := Hjn.out; omega) (by omega) Hx.out Hy.out, h2.out.drew, ?_, ?_⟩
        · have := Hhj.out
          simp only [Value.int.injEq, true_and]
          omega
        · have h := Hgr.out.trans Hg4.out; exact ⟨h.os, h.tape, h.output, h.size, h.block⟩
        · simpa [World.setCell] using Hsz.out
      case measure => simp [intOf]; omega
    · have dlt : decide ((i : Int) < (n : Int) - 1 - (i : Int)) = false := decide_eq_false (by omega)
      go_wp2_with fail
      go_end0
      refine ⟨⟨_, rfl⟩, ?_, Hgr.out, Hsz.out⟩
      rw [← revTo_end Hrev.out (by have := Hn.out; omega)]
      exact hown
end Go.Proofs.Ytgcliipdkoefaaa
