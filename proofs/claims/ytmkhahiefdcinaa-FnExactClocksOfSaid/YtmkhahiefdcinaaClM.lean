/-
  The plain law of vector clocks.
-/
import Derived.Test.YtmkhahiefdcinaaStM
import Derived.Test.YtmkhahiefdcinaaJcM
import Derived.Test.YtmkhahiefdcinaaOwI
namespace Go.Proofs.Ytmkhahiefdcinaa
open Go.ChangeShapes Go.WideShapes Go.ChangeAt Go.RowKit Go.BigFrame Go.Deep
set_option linter.unusedVariables false

/-- N zeros. -/
def zs (N : Nat) : List Int := List.replicate N 0
/-- The clock at a place, zeros where there is none. -/
def rowAt (N : Nat) (out : List (List Int)) (p : Int) : List Int := if 0 ≤ p then out.getD p.toNat (zs N) else zs N
/-- One more at place j. -/
def incAt (c : List Int) (j : Int) : List Int := c.set j.toNat (c.getD j.toNat 0 + 1)
/-- The clock of event k, given those ahead, still without its own count. -/
def ckB (N : Nat) (l : List P2) (k : Nat) (out : List (List Int)) (e : P2) : List Int := if 0 ≤ e.b then mostL (rowAt N out (lastAt l k e.a)) (rowAt N out e.b) else rowAt N out (lastAt l k e.a)
def ckV (N : Nat) (l : List P2) (k : Nat) (out : List (List Int)) (e : P2) : List Int := incAt (ckB N l k out e) e.a
def ckTo (N : Nat) (l : List P2) : Nat → List (List Int)
  | 0 => []
  | k + 1 => ckTo N l k ++ [match l[k]? with | some e => ckV N l k (ckTo N l k) e | none => zs N]
theorem ckTo_len (N : Nat) (l : List P2) (k : Nat) : (ckTo N l k).length = k := by
  induction k with
  | zero => rfl
  | succ k ih => simp [ckTo, ih]
theorem ckTo_succ {N : Nat} {l : List P2} {k : Nat} {e : P2} (h : l[k]? = some e) : ckTo N l (k + 1) = ckTo N l k ++ [ckV N l k (ckTo N l k) e] := by
  show ckTo N l k ++ [match l[k]? with | some e => ckV N l k (ckTo N l k) e | none => zs N] = _
  rw [h]
/-- A clock of N nodes; no number above B. -/
def ckIs (N : Nat) (B : Int) (c : List Int) : Prop := c.length = N ∧ ∀ x ∈ c, 0 ≤ x ∧ x ≤ B
theorem zs_is (N : Nat) {B : Int} (hB : 0 ≤ B) : ckIs N B (zs N) := ⟨by simp [zs], fun x hx => by rw [List.eq_of_mem_replicate hx]; exact ⟨Int.le_refl _, hB⟩⟩
theorem rowAt_is {N : Nat} {out : List (List Int)} {B : Int} (hB : 0 ≤ B) (h : ∀ c ∈ out, ckIs N B c) (p : Int) : ckIs N B (rowAt N out p) := by
  unfold rowAt
  split
  · rw [List.getD_eq_getElem?_getD]
    cases hx : out[p.toNat]? with
    | none => exact zs_is N hB
    | some c => exact h c (List.mem_of_getElem? hx)
  · exact zs_is N hB
theorem mostL_is {N : Nat} {B : Int} {a b : List Int} (ha : ckIs N B a) (hb : ckIs N B b) : ckIs N B (mostL a b) := by
  refine ⟨by unfold mostL; rw [List.length_zipWith, ha.1, hb.1]; omega, fun x hx => ?_⟩
  unfold mostL at hx
  obtain ⟨i, hi, rfl⟩ := List.mem_iff_getElem.1 hx
  rw [List.length_zipWith] at hi
  rw [List.getElem_zipWith]
  have h1 := ha.2 _ (List.getElem_mem (by omega : i < a.length))
  have h2 := hb.2 _ (List.getElem_mem (by omega : i < b.length))
  omega
theorem mostL_zs {N : Nat} {B : Int} {b : List Int} (hb : ckIs N B b) : mostL (zs N) b = b := by
  apply List.ext_getElem
  · unfold mostL; rw [List.length_zipWith, hb.1]; simp [zs]
  · intro i h1 h2
    have := hb.2 _ (List.getElem_mem h2)
    simp only [mostL, List.getElem_zipWith, zs, List.getElem_replicate]
    omega
theorem ckB_is {N : Nat} {l : List P2} {k : Nat} {out : List (List Int)} {e : P2} {B : Int} (hB : 0 ≤ B) (h : ∀ c ∈ out, ckIs N B c) : ckIs N B (ckB N l k out e) := by
  unfold ckB
  split
  · exact mostL_is (rowAt_is hB h _) (rowAt_is hB h _)
  · exact rowAt_is hB h _
theorem incAt_is {N : Nat} {B : Int} {c : List Int} (h : ckIs N B c) (hB : 0 ≤ B) (j : Int) : ckIs N (B + 1) (incAt c j) := by
  refine ⟨by unfold incAt; rw [List.length_set]; exact h.1, fun x hx => ?_⟩
  unfold incAt at hx
  have hg : 0 ≤ c.getD j.toNat 0 ∧ c.getD j.toNat 0 ≤ B := by
    rw [List.getD_eq_getElem?_getD]
    cases hx : c[j.toNat]? with
    | none => exact ⟨Int.le_refl _, hB⟩
    | some y => exact h.2 y (List.mem_of_getElem? hx)
  rcases List.mem_or_eq_of_mem_set hx with hx | rfl
  · have := h.2 x hx; omega
  · omega
theorem ckIs.up {N : Nat} {B B' : Int} {c : List Int} (h : ckIs N B c) (hB : B ≤ B') : ckIs N B' c := ⟨h.1, fun x hx => by have := h.2 x hx; omega⟩
theorem ckTo_is (N : Nat) (l : List P2) (k : Nat) : ∀ c ∈ ckTo N l k, ckIs N (k : Int) c := by
  induction k with
  | zero => intro c hc; cases hc
  | succ k ih =>
    intro c hc
    simp only [ckTo, List.mem_append, List.mem_singleton] at hc
    rcases hc with hc | rfl
    · exact (ih c hc).up (by omega)
    · cases he : l[k]? with
      | none => exact zs_is N (by omega)
      | some e =>
        have := incAt_is (ckB_is (l := l) (k := k) (e := e) (by omega) ih) (by omega : (0 : Int) ≤ (k : Int)) e.a
        exact this.up (by omega)
theorem ckTo_take (N : Nat) (l : List P2) : ∀ {j k : Nat}, j ≤ k → (ckTo N l k).take j = ckTo N l j := by
  intro j k
  induction k with
  | zero => intro h; have e : j = 0 := by omega
            rw [e]; rfl
  | succ k ih =>
    intro h
    by_cases e : j = k + 1
    · subst e; rw [List.take_of_length_le (by rw [ckTo_len]; omega)]
    · simp only [ckTo]
      rw [List.take_append_of_le_length (by rw [ckTo_len]; omega)]
      exact ih (by omega)
theorem incAt_nat (c : List Int) (j : Nat) (h : j < c.length) : incAt c (j : Int) = c.set j (c[j] + 1) := by
  unfold incAt
  rw [Int.toNat_natCast, List.getD_eq_getElem?_getD, List.getElem?_eq_getElem h]
  rfl
theorem rowAt_nat {N : Nat} (out : List (List Int)) (j : Nat) (h : j < out.length) : rowAt N out (j : Int) = out[j] := by
  unfold rowAt
  rw [if_pos (by omega), Int.toNat_natCast, List.getD_eq_getElem?_getD, List.getElem?_eq_getElem h]
  rfl
theorem rowAt_neg {N : Nat} (out : List (List Int)) {p : Int} (h : ¬ 0 ≤ p) : rowAt N out p = zs N := by unfold rowAt; rw [if_neg h]
theorem ckIs.ok {N : Nat} {B : Int} {c : List Int} (h : ckIs N B c) (hB : B ≤ 1000000) : ∀ x ∈ c, (Flat.ok x : Prop) := fun x hx => by
  have := h.2 x hx
  show I64 x
  unfold I64
  omega
end Go.Proofs.Ytmkhahiefdcinaa
