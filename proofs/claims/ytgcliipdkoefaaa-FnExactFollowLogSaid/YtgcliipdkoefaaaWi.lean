/-
  Contracts: within of the program, l1In of the reference.
-/
import Derived.Test.YtgcliipdkoefaaaKit
namespace Go.Proofs.Ytgcliipdkoefaaa
open Go.ChangeShapes Go.WideShapes Go.ChangeAt Go.RowKit Go.BigFrame
set_option linter.unusedVariables false

theorem l1In_any (n lo hi : Int) (r : Bool) (hr : decide (lo ≤ n ∧ n ≤ hi) = r) (w : World) :
    Calls Try.prog 64 #[.int .i64 n, .int .i64 lo, .int .i64 hi] w fun x w' => x = .returned (.bool r) ∧ Below w.heap.size w w' := by
  have Hr := Lib.hid hr
  clear hr
  by_cases h1 : lo ≤ n
  · by_cases h2 : n ≤ hi
    · go_enter Try.func64, Try.ntmps64
      go_wp2
      go_ret
      exact ⟨by rw [← Hr.out, decide_eq_true ⟨h1, h2⟩]; rfl, Below.refl _ _⟩
    · go_enter Try.func64, Try.ntmps64
      go_wp2
      go_ret
      exact ⟨by rw [← Hr.out, decide_eq_false (by omega)]; rfl, Below.refl _ _⟩
  · go_enter Try.func64, Try.ntmps64
    go_wp2
    go_ret
    exact ⟨by rw [← Hr.out, decide_eq_false (by omega)]; rfl, Below.refl _ _⟩

theorem within_any (n lo hi : Int) (r : Bool) (hr : decide (lo ≤ n ∧ n ≤ hi) = r) (w : World) :
    Calls Try.prog 66 #[.int .i64 n, .int .i64 lo, .int .i64 hi] w fun x w' => x = .returned (.bool r) ∧ Below w.heap.size w w' := by
  have Hr := Lib.hid hr
  clear hr
  by_cases h1 : lo ≤ n
  · by_cases h2 : n ≤ hi
    · go_enter Try.func66, Try.ntmps66
      go_wp2
      go_ret
      exact ⟨by rw [← Hr.out, decide_eq_true ⟨h1, h2⟩]; rfl, Below.refl _ _⟩
    · go_enter Try.func66, Try.ntmps66
      go_wp2
      go_ret
      exact ⟨by rw [← Hr.out, decide_eq_false (by omega)]; rfl, Below.refl _ _⟩
  · go_enter Try.func66, Try.ntmps66
    go_wp2
    go_ret
    exact ⟨by rw [← Hr.out, decide_eq_false (by omega)]; rfl, Below.refl _ _⟩

end Go.Proofs.Ytgcliipdkoefaaa
