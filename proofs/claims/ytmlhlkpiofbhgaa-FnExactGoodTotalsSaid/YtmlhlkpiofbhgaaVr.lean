/-
  A calculus for walks, part 16: strings put together.
-/
import Derived.Test.YtmlhlkpiofbhgaaVm
namespace Go.Proofs.Ytmlhlkpiofbhgaa
open Go.ChangeShapes Go.WideShapes Go.ChangeAt Go.RowKit Go.BigFrame Go.Deep
set_option linter.unusedVariables false

set_option linter.unusedSimpArgs false
theorem PureOp.strAdd {P : Program} {σ : Sig} {o : Oper} {t t' : TypeId} {x y : Operand} {a b : ByteArray} (ho : o.op = .binOp .add t x y t') (hx : Kn σ x (.one (.str a))) (hy : Kn σ y (.one (.str b))) (hs : a.size + b.size ≤ 1000000000) : PureOp P o σ (.one (.str (a ++ b))) := by
  refine PureOp.val fun N w0 ρ S ac w hst => ?_
  have e1 : ac.eval x = .string a := (hx.sound hst).1
  have e2 : ac.eval y = .string b := (hy.sound hst).1
  refine ⟨.string (a ++ b), ⟨rfl, by rw [ByteArray.size_append]; unfold maxLen; omega⟩, fun w' _ => ?_⟩
  generalize ac.eval = ev at e1 e2 ⊢
  have hm : ¬ ((a.size + b.size : Nat) : Int) > IntKind.i64.max := by
    have : IntKind.i64.max = 9223372036854775807 := by decide
    rw [this]; omega
  simp only [execOp, ho, e1, e2, Sem.run_bind, eqGuard, Result.andThen_ok, binOp, Op.stringOp]
  rw [if_neg hm]
  simp [go_sem]
end Go.Proofs.Ytmlhlkpiofbhgaa
