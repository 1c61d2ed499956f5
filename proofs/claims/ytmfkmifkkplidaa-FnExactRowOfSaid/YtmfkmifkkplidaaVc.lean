/-
  A calculus for walks, part 3: arithmetic, comparisons, lengths, and calls of functions that only read.
-/
import Derived.Test.YtmfkmifkkplidaaVb
import Derived.Laws.Small
namespace Go.Proofs.Ytmfkmifkkplidaa
open Go.ChangeShapes Go.WideShapes Go.ChangeAt Go.RowKit Go.BigFrame Go.Deep
set_option linter.unusedVariables false

set_option linter.unusedSimpArgs false
section
variable {P : Program} {σ : Sig}
/-- The result of an operator on two integers. -/
def intRes (op : BinOp) (k : IntKind) (a b : Int) : Option AV :=
  match op with
  | .add => some (.int k (k.wrap (a + b)))
  | .sub => some (.int k (k.wrap (a - b)))
  | .mul => some (.int k (k.wrap (a * b)))
  | .eql => some (.bool (decide (a = b)))
  | .neq => some (.bool (!decide (a = b)))
  | .lss => some (.bool (decide (a < b)))
  | .leq => some (.bool (decide (a ≤ b)))
  | .gtr => some (.bool (decide (b < a)))
  | .geq => some (.bool (decide (b ≤ a)))
  | _ => none
theorem eqGuard_int {op : BinOp} {t : TypeId} {x y : Operand} {k k' : IntKind} {a b : Int} (w : World) : (eqGuard op t x y (.int k a) (.int k' b)).run P w = .ok () w := by
  unfold eqGuard
  cases op <;> simp [go_sem]
theorem PureOp.intOp {o : Oper} {op : BinOp} {t t' : TypeId} {x y : Operand} {k : IntKind} {a b : Int} {r : AV} (ho : o.op = .binOp op t x y t') (hx : Kn σ x (.one (.int k a))) (hy : Kn σ y (.one (.int k b))) (hr : intRes op k a b = some r) : PureOp P o σ (.one r) := by
  refine PureOp.val fun N w0 ρ S ac w hs => ?_
  have e1 : ac.eval x = .int k a := hx.sound hs
  have e2 : ac.eval y = .int k b := hy.sound hs
  cases op <;> simp only [intRes, reduceCtorEq, Option.some.injEq] at hr <;> subst hr <;>
    exact ⟨_, rfl, fun w' _ => by
      generalize ac.eval = ev at e1 e2 ⊢
      simp only [execOp, ho, e1, e2, Sem.run_bind, eqGuard_int, Result.andThen_ok]
      simp [binOp, Op.intCmp, Op.intArith, go_sem, bne, BEq.beq]⟩
theorem PureOp.add {o : Oper} {t t' : TypeId} {x y : Operand} {a b c : Int} (ho : o.op = .binOp .add t x y t') (hx : Kn σ x (.one (.int .i64 a))) (hy : Kn σ y (.one (.int .i64 b))) (hc : IntKind.i64.wrap (a + b) = c) : PureOp P o σ (.one (.int .i64 c)) := by
  subst hc; exact PureOp.intOp ho hx hy rfl
theorem PureOp.sub {o : Oper} {t t' : TypeId} {x y : Operand} {a b c : Int} (ho : o.op = .binOp .sub t x y t') (hx : Kn σ x (.one (.int .i64 a))) (hy : Kn σ y (.one (.int .i64 b))) (hc : IntKind.i64.wrap (a - b) = c) : PureOp P o σ (.one (.int .i64 c)) := by
  subst hc; exact PureOp.intOp ho hx hy rfl
theorem PureOp.mul {o : Oper} {t t' : TypeId} {x y : Operand} {a b c : Int} (ho : o.op = .binOp .mul t x y t') (hx : Kn σ x (.one (.int .i64 a))) (hy : Kn σ y (.one (.int .i64 b))) (hc : IntKind.i64.wrap (a * b) = c) : PureOp P o σ (.one (.int .i64 c)) := by
  subst hc; exact PureOp.intOp ho hx hy rfl
theorem wrap_id {n : Int} (h1 : -9223372036854775808 ≤ n) (h2 : n ≤ 9223372036854775807) : IntKind.i64.wrap n = n := by rw [IntKind.wrap_i64]; omega
def strRes (op : BinOp) (a b : ByteArray) : Option Bool :=
  match op with
  | .eql => some (decide (a = b))
  | .neq => some (!decide (a = b))
  | .lss => some (Op.bytesLess a.toList b.toList)
  | .leq => some (Op.bytesLess a.toList b.toList || decide (a = b))
  | .gtr => some (!(Op.bytesLess a.toList b.toList || decide (a = b)))
  | .geq => some (!Op.bytesLess a.toList b.toList)
  | _ => none
theorem beq_ba (a b : ByteArray) : (a.toList == b.toList) = decide (a = b) := by
  rw [Bool.eq_iff_iff, beq_iff_eq, decide_eq_true_iff]; exact ba_inj
theorem PureOp.strOp {o : Oper} {op : BinOp} {t t' : TypeId} {x y : Operand} {a b : ByteArray} {r : Bool} (ho : o.op = .binOp op t x y t') (hx : Kn σ x (.one (.str a))) (hy : Kn σ y (.one (.str b))) (hr : strRes op a b = some r) : PureOp P o σ (.one (.bool r)) := by
  refine PureOp.val fun N w0 ρ S ac w hs => ?_
  obtain ⟨e1, _⟩ : ac.eval x = .string a ∧ _ := hx.sound hs
  obtain ⟨e2, _⟩ : ac.eval y = .string b ∧ _ := hy.sound hs
  cases op <;> simp only [strRes, reduceCtorEq, Option.some.injEq] at hr <;> subst hr <;>
    exact ⟨_, rfl, fun w' _ => by
      generalize ac.eval = ev at e1 e2 ⊢
      simp only [execOp, ho, e1, e2, Sem.run_bind, eqGuard, Result.andThen_ok]
      simp [binOp, Op.stringOp, go_sem, beq_ba]⟩
theorem PureOp.not {o : Oper} {t : TypeId} {x : Operand} {b : Bool} (ho : o.op = .unOp .not t x) (hx : Kn σ x (.one (.bool b))) : PureOp P o σ (.one (.bool (!b))) := by
  refine PureOp.val fun N w0 ρ S ac w hs => ?_
  have e1 : ac.eval x = .bool b := hx.sound hs
  refine ⟨.bool (!b), rfl, fun w' _ => ?_⟩
  generalize ac.eval = ev at e1 ⊢
  simp [execOp, ho, e1, Op.unary, go_sem]
def boolB (P : Program) (t : Nat) : Bool := match P.underlying t with | some .bool => true | _ => false
theorem boolB_spec {t : Nat} (h : boolB P t = true) : P.underlying t = some .bool := by
  unfold boolB at h
  split at h
  · assumption
  · cases h
theorem PureOp.boolEq {o : Oper} {t t' : TypeId} {x y : Operand} {a b : Bool} (ho : o.op = .binOp .eql t x y t') (hx : Kn σ x (.one (.bool a))) (hy : Kn σ y (.one (.bool b))) (ht : boolB P t = true) : PureOp P o σ (.one (.bool (a == b))) := by
  refine PureOp.val fun N w0 ρ S ac w hs => ?_
  have e1 : ac.eval x = .bool a := hx.sound hs
  have e2 : ac.eval y = .bool b := hy.sound hs
  refine ⟨_, rfl, fun w' _ => ?_⟩
  generalize ac.eval = ev at e1 e2 ⊢
  simp only [execOp, ho, e1, e2, Sem.run_bind, eqGuard, Result.andThen_ok, binOp]
  simp [go_sem, run_equal_bool (w := w') t a b (boolB_spec ht)]
theorem PureOp.boolNe {o : Oper} {t t' : TypeId} {x y : Operand} {a b : Bool} (ho : o.op = .binOp .neq t x y t') (hx : Kn σ x (.one (.bool a))) (hy : Kn σ y (.one (.bool b))) (ht : boolB P t = true) : PureOp P o σ (.one (.bool (!(a == b)))) := by
  refine PureOp.val fun N w0 ρ S ac w hs => ?_
  have e1 : ac.eval x = .bool a := hx.sound hs
  have e2 : ac.eval y = .bool b := hy.sound hs
  refine ⟨_, rfl, fun w' _ => ?_⟩
  generalize ac.eval = ev at e1 e2 ⊢
  simp only [execOp, ho, e1, e2, Sem.run_bind, eqGuard, Result.andThen_ok, binOp]
  simp [go_sem, run_equal_bool (w := w') t a b (boolB_spec ht)]
/-! len -/
def sliceB (P : Program) (t : Nat) : Bool := match P.underlying t with | some (.slice _) => true | _ => false
def stringB (P : Program) (t : Nat) : Bool := match P.underlying t with | some .string => true | _ => false
theorem sliceB_spec {t : Nat} (h : sliceB P t = true) : ∃ e, P.underlying t = some (.slice e) := by
  unfold sliceB at h
  split at h
  · rename_i e he; exact ⟨e, he⟩
  · cases h
theorem stringB_spec {t : Nat} (h : stringB P t = true) : P.underlying t = some .string := by
  unfold stringB at h
  split at h
  · assumption
  · cases h
theorem PureOp.lenLst {o : Oper} {t : TypeId} {x : Operand} {sz n : Nat} {f : Nat → Nat → AV} (ho : o.op = .call { callee := .builtin .len, args := #[x], argTypes := #[t] }) (hx : Kn σ x (.one (.lst sz n f))) (ht : sliceB P t = true) : PureOp P o σ (.one (.int .i64 n)) := by
  refine PureOp.val fun N w0 ρ S ac w hs => ?_
  obtain ⟨A, c, e1, _⟩ := hx.sound hs
  obtain ⟨e, he⟩ := sliceB_spec ht
  refine ⟨_, rfl, fun w' _ => ?_⟩
  generalize ac.eval = ev at e1 ⊢
  simp [execOp, ho, e1, resolve, invoke, builtin, Builtin.len_, run_underlying he, goInt, go_sem]
theorem PureOp.lenOwn {o : Oper} {t : TypeId} {x : Operand} {id sz n : Nat} (ho : o.op = .call { callee := .builtin .len, args := #[x], argTypes := #[t] }) (hx : Kn σ x (.one (.own id sz n))) (ht : sliceB P t = true) : PureOp P o σ (.one (.int .i64 n)) := by
  refine PureOp.val fun N w0 ρ S ac w hs => ?_
  obtain ⟨A, e1, _⟩ := hx.sound hs
  obtain ⟨e, he⟩ := sliceB_spec ht
  refine ⟨_, rfl, fun w' _ => ?_⟩
  generalize ac.eval = ev at e1 ⊢
  simp [execOp, ho, e1, resolve, invoke, builtin, Builtin.len_, run_underlying he, goInt, go_sem]
theorem PureOp.lenStr {o : Oper} {t : TypeId} {x : Operand} {s : ByteArray} (ho : o.op = .call { callee := .builtin .len, args := #[x], argTypes := #[t] }) (hx : Kn σ x (.one (.str s))) (ht : stringB P t = true) : PureOp P o σ (.one (.int .i64 s.size)) := by
  refine PureOp.val fun N w0 ρ S ac w hs => ?_
  obtain ⟨e1, _⟩ := hx.sound hs
  refine ⟨_, rfl, fun w' _ => ?_⟩
  generalize ac.eval = ev at e1 ⊢
  simp [execOp, ho, e1, resolve, invoke, builtin, Builtin.len_, run_underlying (stringB_spec ht), goInt, go_sem]
theorem PureOp.ext2a {o : Oper} {x : Operand} {s u : SV} (ho : o.op = .extract x 0) (hx : Kn σ x (.tup2 s u)) : PureOp P o σ s := by
  refine PureOp.val fun N w0 ρ S ac w hs => ?_
  obtain ⟨a, b, e1, h1, h2⟩ := hx.sound hs
  refine ⟨a, h1, fun w' _ => ?_⟩
  generalize ac.eval = ev at e1 ⊢
  simp [execOp, ho, e1, Instr.extract, go_sem]
theorem PureOp.ext2b {o : Oper} {x : Operand} {s u : SV} (ho : o.op = .extract x 1) (hx : Kn σ x (.tup2 s u)) : PureOp P o σ u := by
  refine PureOp.val fun N w0 ρ S ac w hs => ?_
  obtain ⟨a, b, e1, h1, h2⟩ := hx.sound hs
  refine ⟨b, h2, fun w' _ => ?_⟩
  generalize ac.eval = ev at e1 ⊢
  simp [execOp, ho, e1, Instr.extract, go_sem]
theorem PureOp.indexStr {o : Oper} {t : Nat} {x y : Operand} {k : IntKind} {s : ByteArray} {m : Int} {i : Nat} (ho : o.op = .index t x y) (hx : Kn σ x (.one (.str s))) (ht : stringB P t = true) (hy : Kn σ y (.one (.int k m))) (hm : m = (i : Int)) (hlt : i < s.size) :
    PureOp P o σ (.one (.int .u8 (s.get i hlt).toNat)) := by
  refine PureOp.val fun N w0 ρ S ac w hs => ?_
  obtain ⟨e1, _⟩ := hx.sound hs
  have e2 : ac.eval y = _ := hy.sound hs
  refine ⟨_, rfl, fun w' _ => ?_⟩
  subst hm
  generalize ac.eval = ev at e1 e2 ⊢
  have h1 : s[i]? = some s[i] := getElem?_pos s i hlt
  simp [execOp, ho, e1, e2, Instr.index, asIntOf, run_underlying (stringB_spec ht), go_sem, h1]
  rfl
end
end Go.Proofs.Ytmfkmifkkplidaa
