/-
  The plain law of stamps, as the program keeps them.
-/
import Derived.Test.YtmkhahiefdcinaaStM
namespace Go.Proofs.Ytmkhahiefdcinaa
open Go.ChangeShapes Go.WideShapes Go.ChangeAt Go.RowKit Go.BigFrame
set_option linter.unusedVariables false

/-- The stamps of the first k events, zeros behind. -/
def stP (l : List P2) (n k : Nat) : List Int := stTo l k ++ List.replicate (n - k) 0
theorem stP_len (l : List P2) {n k : Nat} (h : k ≤ n) : (stP l n k).length = n := by simp [stP, stTo_len]; omega
theorem stP_zero (l : List P2) (n : Nat) : stP l n 0 = List.replicate n 0 := by simp [stP, stTo]
theorem stP_all (l : List P2) (n : Nat) : stP l n n = stTo l n := by simp [stP]
theorem stP_get {l : List P2} {n k f : Nat} (h : f < k) : (stP l n k)[f]? = some ((stTo l k)[f]'(by rw [stTo_len]; exact h)) := by
  unfold stP
  rw [List.getElem?_append_left (by rw [stTo_len]; exact h), List.getElem?_eq_getElem]
theorem stP_succ {l : List P2} {n k : Nat} {e : P2} (h : l[k]? = some e) (hk : k < n) : (stP l n k).set k (stV l k (stTo l k) e) = stP l n (k + 1) := by
  unfold stP
  rw [List.set_append_right _ _ (by rw [stTo_len]; exact Nat.le_refl _), stTo_len, Nat.sub_self, stTo_succ h]
  obtain ⟨m, hm⟩ : ∃ m, n - k = m + 1 := ⟨n - k - 1, by omega⟩
  rw [hm, List.replicate_succ, List.set_cons_zero, show n - (k + 1) = m by omega]
  simp
/-- The last stamp at each node, 0 for none. -/
def lsL (N : Nat) (l : List P2) (k : Nat) : List Int := (List.range N).map fun (j : Nat) => pick (stTo l k) (lastAt l k j)
theorem lsL_len (N : Nat) (l : List P2) (k : Nat) : (lsL N l k).length = N := by simp [lsL]
theorem lsL_get {N : Nat} (l : List P2) (k : Nat) {j : Nat} (h : j < N) : (lsL N l k)[j]? = some (pick (stTo l k) (lastAt l k j)) := by simp [lsL, h]
theorem lsL_zero (N : Nat) (l : List P2) : lsL N l 0 = List.replicate N 0 := by
  apply List.ext_getElem (by simp [lsL])
  intro i h1 h2
  simp [lsL, lastAt, pick]
theorem lsL_succ {N : Nat} {l : List P2} {k j : Nat} {y : Int} (h : l[k]? = some ⟨j, y⟩) : lsL N l (k + 1) = (lsL N l k).set j (stV l k (stTo l k) ⟨j, y⟩) := by
  apply List.ext_getElem (by simp [lsL])
  intro i h1 h2
  simp only [List.getElem_set, lsL, List.getElem_map, List.getElem_range]
  by_cases hij : j = i
  · subst hij
    rw [if_pos rfl, lastAt_hit h rfl, pick_nat _ _ (by rw [stTo_len]; omega)]
    simp only [stTo_succ h]
    rw [List.getElem_append_right (by rw [stTo_len]; exact Nat.le_refl _)]
    simp [stTo_len]
  · rw [if_neg hij, lastAt_miss h (by show ¬ ((j : Int) = (i : Int)); omega), stTo_succ h]
    have hb := lastAt_bd l k (i : Int)
    by_cases hp : 0 ≤ lastAt l k (i : Int)
    · obtain ⟨p, hp'⟩ := Int.eq_ofNat_of_zero_le hp
      rw [hp']
      have hpk : p < k := by omega
      show pick (stTo l k ++ _) (p : Int) = pick (stTo l k) (p : Int)
      rw [pick_nat _ _ (by simp [stTo_len]; omega), pick_nat _ _ (by rw [stTo_len]; exact hpk), List.getElem_append_left (by rw [stTo_len]; exact hpk)]
    · rw [pick_neg _ hp, pick_neg _ hp]

end Go.Proofs.Ytmkhahiefdcinaa
