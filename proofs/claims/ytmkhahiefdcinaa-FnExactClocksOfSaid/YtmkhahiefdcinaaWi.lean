/-
  Contracts: within of the program, l1In of the reference.
-/
import Derived.Test.YtmkhahiefdcinaaKit
namespace Go.Proofs.Ytmkhahiefdcinaa
open Go.ChangeShapes Go.WideShapes Go.ChangeAt Go.RowKit Go.BigFrame
set_option linter.unusedVariables false

theorem l1In_any (n lo hi : Int) (r : Bool) (hr : decide (lo ≤ n ∧ n ≤ hi) = r) (w : World) :
    Calls Try.prog 67 #[.int .i64 n, .int .i64 lo, .int .i64 hi] w fun x w' => x = .returned (.bool r) ∧ Below w.heap.size w w' := by
  have Hr := Lib.hid hr
  clear hr
  by_cases h1 : lo ≤ n
  · by_cases h2 : n ≤ hi
    · go_enter Try.func67, Try.ntmps67
      go_wp2
      go_ret
      exact ⟨by rw [← Hr.out, decide_eq_true ⟨h1, h2⟩]; rfl, Below.refl _ _⟩
    · go_enter Try.func67, Try.ntmps67
      go_wp2
      go_ret
      exact ⟨by rw [← Hr.out, decide_eq_false (by omega)]; rfl, Below.refl _ _⟩
  · go_enter Try.func67, Try.ntmps67
    go_wp2
    go_ret
    exact ⟨by rw [← Hr.out, decide_eq_false (by omega)]; rfl, Below.refl _ _⟩

theorem within_any (n lo hi : Int) (r : Bool) (hr : decide (lo ≤ n ∧ n ≤ hi) = r) (w : World) :
    Calls Try.prog 49 #[.int .i64 n, .int .i64 lo, .int .i64 hi] w fun x w' => x = .returned (.bool r) ∧ Below w.heap.size w w' := by
  have Hr := Lib.hid hr
  clear hr
  by_cases h1 : lo ≤ n
  · by_cases h2 : n ≤ hi
    · go_enter Try.func49, Try.ntmps49
      go_wp2
      go_ret
      exact ⟨by rw [← Hr.out, decide_eq_true ⟨h1, h2⟩]; rfl, Below.refl _ _⟩
    · go_enter Try.func49, Try.ntmps49
      go_wp2
      go_ret
      exact ⟨by rw [← Hr.out, decide_eq_false (by omega)]; rfl, Below.refl _ _⟩
  · go_enter Try.func49, Try.ntmps49
    go_wp2
    go_ret
    exact ⟨by rw [← Hr.out, decide_eq_false (by omega)]; rfl, Below.refl _ _⟩

end Go.Proofs.Ytmkhahiefdcinaa
