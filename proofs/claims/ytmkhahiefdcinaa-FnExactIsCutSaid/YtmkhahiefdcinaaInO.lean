/-
  How lists of integers that come in are opened.
-/
import Derived.Test.YtmkhahiefdcinaaLaw
namespace Go.Proofs.Ytmkhahiefdcinaa
open Go.ChangeShapes Go.WideShapes Go.ChangeAt Go.RowKit Go.BigFrame Go.Deep
set_option linter.unusedVariables false

theorem opensInts : Opens Try.prog 30 (List Int) :=
  Opens.slice (e := 3) Try.underlying30 (by kernel_rfl) (by decide) (Opens.int Try.underlying3)

end Go.Proofs.Ytmkhahiefdcinaa
