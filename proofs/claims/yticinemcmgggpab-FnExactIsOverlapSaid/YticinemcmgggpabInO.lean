/-
  How lists of integers that come in are opened.
-/
import Derived.Test.YticinemcmgggpabLaw
namespace Go.Proofs.Yticinemcmgggpab
open Go.ChangeShapes Go.WideShapes Go.ChangeAt Go.RowKit Go.BigFrame Go.Deep
set_option linter.unusedVariables false

theorem opensInts : Opens Try.prog 33 (List Int) :=
  Opens.slice (e := 3) Try.underlying33 (by kernel_rfl) (by decide) (Opens.int Try.underlying3)

end Go.Proofs.Yticinemcmgggpab
