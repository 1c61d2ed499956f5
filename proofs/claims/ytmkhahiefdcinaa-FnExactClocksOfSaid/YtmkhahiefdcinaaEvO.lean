/-
  How events that come in are opened.
-/
import Derived.Test.YtmkhahiefdcinaaLaw
namespace Go.Proofs.Ytmkhahiefdcinaa
open Go.ChangeShapes Go.WideShapes Go.ChangeAt Go.RowKit Go.BigFrame Go.Deep
set_option linter.unusedVariables false

theorem opensLEvent : Opens Try.prog 22 (List P2) :=
  Opens.slice (e := 66) Try.underlying22 (by kernel_rfl) (by decide) (Opens.int2 Try.underlying66 (by kernel_rfl) (by kernel_rfl) rfl rfl Try.underlying3 Try.underlying3)

end Go.Proofs.Ytmkhahiefdcinaa
