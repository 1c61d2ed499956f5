/-
  Contracts: StartsOf of the reference and of the program.
-/
import Derived.Test.YtgcliipdkoefaaaSsA
namespace Go.Proofs.Ytgcliipdkoefaaa
open Go.ChangeShapes Go.WideShapes Go.ChangeAt Go.RowKit Go.BigFrame
set_option linter.unusedVariables false

/-- What StartsOf answers. -/
noncomputable def ssOf (l : List IS) : List P2 := if goodEn l then startsTo l l.length else []

theorem spec_StartsOf_any (l : List IS) (w : World) (S : Nat → Prop) (hS : ∀ b, S b → b < w.heap.size) (A : Option Addr) (n c : Nat) (hl0 : RepL w S l A n c) :
    Calls Try.prog 14 #[.slice A n c] w fun x w' => ∃ A2 m c2, x = .returned (.tuple #[.slice A2 m c2, .bool (goodEn l)]) ∧ m ≤ 40 ∧ MadeS w w' 55 (ssOf l) A2 m c2 ∧ Below w.heap.size w w' := by
  obtain ⟨r0, hr0⟩ : ∃ r, goodEn l = r := ⟨_, rfl⟩
  have R0 := Lib.hid hr0
  clear hr0
  cases r0 with
  | false =>
    have Hf := Lib.hid (show ssOf l = [] by unfold ssOf; rw [R0.out]; rfl)
    go_enter Try.func14, Try.ntmps14
    go_wp2_with fail
    refine (spec_GoodEntries_any l w S hS A n c hl0).mono ?_
    rintro e w1 ⟨rfl, b1⟩
    rw [R0.out]
    go_wp2_with fail
    go_ret2
    exact ⟨none, 0, 0, by rw [R0.out]; rfl, by omega, by rw [Hf.out]; exact MadeS.nil_ _ _ _, b1⟩
  | true =>
    have Hf := Lib.hid (show ssOf l = startsTo l l.length by unfold ssOf; rw [R0.out]; rfl)
    have hlen : l.length ≤ 40 := by
      rcases Nat.lt_or_ge 40 l.length with h | h
      · have := R0.out; rw [goodEn_long (by omega)] at this; cases this
      · exact h
    go_enter Try.func14, Try.ntmps14
    go_wp2_with fail
    refine (spec_GoodEntries_any l w S hS A n c hl0).mono ?_
    rintro e w1 ⟨rfl, b1⟩
    rw [R0.out]
    go_wp2_with fail
    refine (l7Starts_any l hlen w1 S (fun x hx => Nat.lt_of_lt_of_le (hS x hx) b1.size) A n c (hl0.keep (fun p hp => b1.cell (hS _ hp)))).mono ?_
    rintro e w2 ⟨A2, m, c2, rfl, hm, hmade, b2⟩
    go_wp2_with fail
    go_ret2
    exact ⟨A2, m, c2, by rw [R0.out]; rfl, hm, by rw [Hf.out]; exact hmade.from_ b1.size, bnext b1 b2⟩

theorem impl_StartsOf_any (l : List IS) (w : World) (S : Nat → Prop) (hS : ∀ b, S b → b < w.heap.size) (A : Option Addr) (n c : Nat) (hl0 : RepL w S l A n c) :
    Calls Try.prog 15 #[.slice A n c] w fun x w' => ∃ A2 m c2, x = .returned (.tuple #[.slice A2 m c2, .bool (goodEn l)]) ∧ m ≤ 40 ∧ MadeS w w' 55 (ssOf l) A2 m c2 ∧ Below w.heap.size w w' := by
  obtain ⟨r0, hr0⟩ : ∃ r, goodEn l = r := ⟨_, rfl⟩
  have R0 := Lib.hid hr0
  clear hr0
  cases r0 with
  | false =>
    have Hf := Lib.hid (show ssOf l = [] by unfold ssOf; rw [R0.out]; rfl)
    go_enter Try.func15, Try.ntmps15
    go_wp2_with fail
    refine (areEntries_any l w S hS A n c hl0).mono ?_
    rintro e w1 ⟨rfl, b1⟩
    rw [R0.out]
    go_wp2_with fail
    go_ret2
    exact ⟨none, 0, 0, by rw [R0.out]; rfl, by omega, by rw [Hf.out]; exact MadeS.nil_ _ _ _, b1⟩
  | true =>
    have Hf := Lib.hid (show ssOf l = startsTo l l.length by unfold ssOf; rw [R0.out]; rfl)
    have hlen : l.length ≤ 40 := by
      rcases Nat.lt_or_ge 40 l.length with h | h
      · have := R0.out; rw [goodEn_long (by omega)] at this; cases this
      · exact h
    go_enter Try.func15, Try.ntmps15
    go_wp2_with fail
    refine (areEntries_any l w S hS A n c hl0).mono ?_
    rintro e w1 ⟨rfl, b1⟩
    rw [R0.out]
    go_wp2_with fail
    refine (startsOf_any l hlen w1 S (fun x hx => Nat.lt_of_lt_of_le (hS x hx) b1.size) A n c (hl0.keep (fun p hp => b1.cell (hS _ hp)))).mono ?_
    rintro e w2 ⟨A2, m, c2, rfl, hm, hmade, b2⟩
    go_wp2_with fail
    go_ret2
    exact ⟨A2, m, c2, by rw [R0.out]; rfl, hm, by rw [Hf.out]; exact hmade.from_ b1.size, bnext b1 b2⟩

end Go.Proofs.Ytgcliipdkoefaaa
