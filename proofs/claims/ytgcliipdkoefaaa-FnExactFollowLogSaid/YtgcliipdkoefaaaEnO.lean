/-
  How entries that come in are opened.
-/
import Derived.Test.YtgcliipdkoefaaaLaw
namespace Go.Proofs.Ytgcliipdkoefaaa
open Go.ChangeShapes Go.WideShapes Go.ChangeAt Go.RowKit Go.BigFrame Go.Deep
set_option linter.unusedVariables false

theorem opensLEntry : Opens Try.prog 22 (List IS) :=
  Opens.slice (e := 63) Try.underlying22 (by kernel_rfl) (by decide) (Opens.intstr Try.underlying63 (by kernel_rfl) (by kernel_rfl) rfl rfl Try.underlying3 Try.underlying9)

end Go.Proofs.Ytgcliipdkoefaaa
