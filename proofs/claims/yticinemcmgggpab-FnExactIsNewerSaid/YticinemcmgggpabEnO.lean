/-
  How entries that come in are opened.
-/
import Derived.Test.YticinemcmgggpabLaw
namespace Go.Proofs.Yticinemcmgggpab
open Go.ChangeShapes Go.WideShapes Go.ChangeAt Go.RowKit Go.BigFrame Go.Deep
set_option linter.unusedVariables false

theorem opensLEntry : Opens Try.prog 22 (List IS) :=
  Opens.slice (e := 44) Try.underlying22 (by kernel_rfl) (by decide) (Opens.intstr Try.underlying44 (by kernel_rfl) (by kernel_rfl) rfl rfl Try.underlying3 Try.underlying9)

end Go.Proofs.Yticinemcmgggpab
