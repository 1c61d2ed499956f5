/-
  Contract: l7Both of the reference.
-/
import Derived.Test.YtgcliipdkoefaaaEnC
namespace Go.Proofs.Ytgcliipdkoefaaa
open Go.ChangeShapes Go.WideShapes Go.ChangeAt Go.RowKit Go.BigFrame
set_option linter.unusedVariables false

theorem l7Both_any (l l' : List IS) (w : World) (S : Nat → Prop) (hS : ∀ b, S b → b < w.heap.size) (A A' : Option Addr) (n c n' c' : Nat) (hl0 : RepL w S l A n c) (hl1 : RepL w S l' A' n' c') :
    Calls Try.prog 42 #[.slice A n c, .slice A' n' c'] w fun x w' => x = .returned (.bool (goodEn l && goodEn l')) ∧ Below w.heap.size w w' := by
  have C1 := Lib.hid (spec_GoodEntries_any l w S hS A n c hl0)
  cases hg : goodEn l with
  | true =>
    have Hg := Lib.hid hg
    clear hg
    go_enter Try.func42, Try.ntmps42
    go_wp2_with fail
    refine C1.out.mono ?_
    rintro e w1 ⟨rfl, b1⟩
    rw [Hg.out]
    have h1 := hl1.keep (w' := w1) (fun p hp => b1.cell (hS _ hp))
    go_wp2_with fail
    refine (spec_GoodEntries_any l' w1 S (fun b hb => Nat.lt_of_lt_of_le (hS b hb) b1.size) A' n' c' h1).mono ?_
    rintro e w2 ⟨rfl, b2⟩
    go_wp2_with fail
    go_ret
    exact ⟨rfl, bnext b1 b2⟩
  | false =>
    have Hg := Lib.hid hg
    clear hg
    go_enter Try.func42, Try.ntmps42
    go_wp2_with fail
    refine C1.out.mono ?_
    rintro e w1 ⟨rfl, b1⟩
    rw [Hg.out]
    go_wp2_with fail
    go_ret
    exact ⟨rfl, b1⟩

end Go.Proofs.Ytgcliipdkoefaaa
