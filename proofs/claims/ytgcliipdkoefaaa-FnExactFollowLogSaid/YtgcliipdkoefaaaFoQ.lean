/-
  The plain law of FollowLog: where the kept part ends.
-/
import Derived.Test.YtgcliipdkoefaaaFpQ
namespace Go.Proofs.Ytgcliipdkoefaaa
open Go.ChangeShapes Go.WideShapes Go.ChangeAt Go.RowKit Go.BigFrame Go.Deep
set_option linter.unusedVariables false

set_option maxHeartbeats 4000000
theorem startsTo_at {l : List IS} : ∀ k, ∀ x ∈ startsTo l k, 0 ≤ x.b ∧ x.b < k := by
  intro k
  induction k with
  | zero => intro x hx; cases hx
  | succ k ih =>
    intro x hx
    unfold startsTo at hx
    split at hx
    · simp only [List.mem_append, List.mem_singleton] at hx
      rcases hx with hx | rfl
      · have := ih x hx; omega
      · constructor
        · show (0 : Int) ≤ (k : Int); omega
        · show (k : Int) < ((k + 1 : Nat) : Int); omega
    · have := ih x hx; omega
theorem findR_bd {l : List IS} {st : List P2} {e : Int} {N : Nat} (hst : ∀ x ∈ st, 0 ≤ x.b ∧ x.b ≤ e) (he : 0 ≤ e) : ∀ (R : List P2) (n : Int), 0 ≤ (findR l st e R n).1 ∧ (findR l st e R n).1 ≤ l.length ∧ (findR l st e R n).1 ≤ e := by
  intro R
  induction R with
  | nil => intro n; exact ⟨Int.le_refl _, by show (0 : Int) ≤ (l.length : Int); omega, he⟩
  | cons s R ih =>
    intro n
    unfold findR
    split
    · have h1 := cntLe_le s.a l
      have h2 : 0 ≤ nextAt st e (idxP (hitP s.a) st).toNat ∧ nextAt st e (idxP (hitP s.a) st).toNat ≤ e := by
        unfold nextAt
        cases ht : st[(idxP (hitP s.a) st).toNat + 1]? with
        | none => exact ⟨he, Int.le_refl _⟩
        | some t => exact hst t (List.mem_of_getElem? ht)
      refine ⟨?_, ?_, ?_⟩ <;> simp only [fpAt] <;> omega
    · exact ih (n + 1)
/-- Up to where the follower keeps its entries. -/
def foAt (l l' : List IS) : Nat := (findL l (startsTo l' l'.length) l'.length).1.toNat
theorem foAt_bd (l l' : List IS) : (findL l (startsTo l' l'.length) l'.length).1 = (foAt l l' : Int) ∧ foAt l l' ≤ l.length ∧ foAt l l' ≤ l'.length := by
  have h := findR_bd (l := l) (st := startsTo l' l'.length) (e := l'.length) (N := 0) (fun x hx => by have := startsTo_at _ x hx; omega) (by omega) (startsTo l l.length).reverse 0
  have h' : 0 ≤ (findL l (startsTo l' l'.length) l'.length).1 ∧ (findL l (startsTo l' l'.length) l'.length).1 ≤ l.length ∧ (findL l (startsTo l' l'.length) l'.length).1 ≤ l'.length := h
  unfold foAt
  omega
/-- What FollowLog makes. -/
def foL (l l' : List IS) : List IS := l.take (foAt l l') ++ l'.drop (foAt l l')
theorem foL_len (l l' : List IS) : (foL l l').length = l'.length := by
  have := foAt_bd l l'
  unfold foL
  rw [List.length_append, List.length_take, List.length_drop]
  omega
end Go.Proofs.Ytgcliipdkoefaaa
