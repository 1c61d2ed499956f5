/-
  How starts that come in are opened.
-/
import Derived.Test.YtgcliipdkoefaaaLaw
namespace Go.Proofs.Ytgcliipdkoefaaa
open Go.ChangeShapes Go.WideShapes Go.ChangeAt Go.RowKit Go.BigFrame Go.Deep
set_option linter.unusedVariables false

theorem opensLStart : Opens Try.prog 37 (List P2) :=
  Opens.slice (e := 74) Try.underlying37 (by kernel_rfl) (by decide) (Opens.int2 Try.underlying74 (by kernel_rfl) (by kernel_rfl) rfl rfl Try.underlying3 Try.underlying3)

end Go.Proofs.Ytgcliipdkoefaaa
