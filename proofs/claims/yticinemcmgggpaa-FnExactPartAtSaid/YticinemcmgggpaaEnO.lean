/-
  How entries that come in are opened.
-/
import Derived.Test.YticinemcmgggpaaLaw
namespace Go.Proofs.Yticinemcmgggpaa
open Go.ChangeShapes Go.WideShapes Go.ChangeAt Go.RowKit Go.BigFrame Go.Deep
set_option linter.unusedVariables false

theorem opensLEntry : Opens Try.prog 36 (List IS) :=
  Opens.slice (e := 54) Try.underlying36 (by kernel_rfl) (by decide) (Opens.intstr Try.underlying54 (by kernel_rfl) (by kernel_rfl) rfl rfl Try.underlying3 Try.underlying9)

end Go.Proofs.Yticinemcmgggpaa
