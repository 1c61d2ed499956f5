/-
  A calculus for walks, part 27: conversions between int and uint64, a shift by one; how strings compare.
-/
import Derived.Test.YtmfkmifkkplidaaUd
import Derived.Lib.Bytealg
namespace Go.Proofs.Ytmfkmifkkplidaa
open Go.ChangeShapes Go.WideShapes Go.ChangeAt Go.RowKit Go.BigFrame Go.Deep
set_option linter.unusedVariables false

set_option linter.unusedSimpArgs false
def convB (P : Program) (s t : Nat) (k : IntKind) : Bool := (P.underlying s).isSome && match P.underlying t with | some (.int k') => decide (k' = k) | _ => false
theorem convB_spec {P : Program} {s t : Nat} {k : IntKind} (h : convB P s t k = true) : (P.underlying s).isSome = true ∧ P.underlying t = some (.int k) := by
  unfold convB at h
  rw [Bool.and_eq_true] at h
  refine ⟨h.1, ?_⟩
  have h2 := h.2
  split at h2
  · rename_i k' e; rw [e, of_decide_eq_true h2]
  · cases h2
theorem PureOp.conv {P : Program} {σ : Sig} {o : Oper} {s t : TypeId} {x : Operand} {k k' : IntKind} {a b : Int} (ho : o.op = .convert s t x) (hx : Kn σ x (.one (.int k a))) (hT : convB P s t k' = true) (hb : k'.wrap a = b) : PureOp P o σ (.one (.int k' b)) := by
  refine PureOp.val fun N w0 ρ S ac w hs => ?_
  have e1 : ac.eval x = .int k a := hx.sound hs
  obtain ⟨h1, h2⟩ := convB_spec hT
  have hk : P.intKind t = k' := by simp only [Program.intKind, h2]
  refine ⟨_, rfl, fun w' _ => ?_⟩
  generalize ac.eval = ev at e1 ⊢
  simp only [execOp, ho, e1, Sem.run_bind, Result.andThen_ok]
  have := run_convert_int (P := P) w' s t k a h1 (by rw [h2, hk])
  rw [this, hk, hb]; rfl
theorem wrap_u64 {n : Int} (h1 : 0 ≤ n) (h2 : n ≤ 9223372036854775807) : IntKind.u64.wrap n = n := by rw [IntKind.wrap_u64]; omega
theorem PureOp.shr1 {P : Program} {σ : Sig} {o : Oper} {t t' : TypeId} {x y : Operand} {k : IntKind} {a : Nat} (ho : o.op = .binOp .shr t x y t') (hx : Kn σ x (.one (.int .u64 (a : Int)))) (hy : Kn σ y (.one (.int k 1))) : PureOp P o σ (.one (.int .u64 ((a / 2 : Nat) : Int))) := by
  refine PureOp.val fun N w0 ρ S ac w hs => ?_
  have e1 : ac.eval x = .int .u64 (a : Int) := hx.sound hs
  have e2 : ac.eval y = .int k 1 := hy.sound hs
  refine ⟨_, rfl, fun w' _ => ?_⟩
  generalize ac.eval = ev at e1 e2 ⊢
  simp only [execOp, ho, e1, e2, Sem.run_bind, eqGuard_int, Result.andThen_ok, binOp_shr]
  rw [shift_shr_u64 k (a : Int) 1 (by decide) (by decide)]
  simp [go_sem]
open Go.Op in
theorem cmp_lt : ∀ a b : List UInt8, Lib.compareBytes a b < 0 ↔ bytesLess a b = true
  | [], [] => by simp [Lib.compareBytes, bytesLess]
  | [], _ :: _ => by simp [Lib.compareBytes, bytesLess]
  | _ :: _, [] => by simp [Lib.compareBytes, bytesLess]
  | x :: a, y :: b => by
    have ih := cmp_lt a b
    simp only [Lib.compareBytes, bytesLess]
    by_cases h : x < y
    · simp [h]
    · by_cases h2 : y < x
      · simp [h, h2]
        intro e; subst e; exact absurd h2 h
      · have e : x = y := UInt8.le_antisymm (UInt8.not_lt.1 h2) (UInt8.not_lt.1 h)
        subst e
        simp [h, ih]
theorem cmp_zero : ∀ a b : List UInt8, Lib.compareBytes a b = 0 ↔ a = b
  | [], [] => by simp [Lib.compareBytes]
  | [], _ :: _ => by simp [Lib.compareBytes]
  | _ :: _, [] => by simp [Lib.compareBytes]
  | x :: a, y :: b => by
    have ih := cmp_zero a b
    simp only [Lib.compareBytes]
    by_cases h : x < y
    · simp [h]; intro e; subst e; exact absurd h (UInt8.lt_irrefl _)
    · by_cases h2 : y < x
      · simp [h, h2]; intro e; subst e; exact absurd h2 h
      · have e : x = y := UInt8.le_antisymm (UInt8.not_lt.1 h2) (UInt8.not_lt.1 h)
        subst e
        simp [h, ih]
open Go.Op in
theorem less_trans : ∀ {a b c : List UInt8}, bytesLess a b = true → bytesLess b c = true → bytesLess a c = true
  | [], [], _, h, _ => by cases h
  | _ :: _, [], _, h, _ => by cases h
  | [], _ :: _, [], _, h => by cases h
  | _ :: _, _ :: _, [], _, h => by cases h
  | [], _ :: _, _ :: _, _, _ => rfl
  | x :: a, y :: b, z :: c, h1, h2 => by
    simp only [bytesLess, Bool.or_eq_true, Bool.and_eq_true, decide_eq_true_eq, beq_iff_eq] at h1 h2 ⊢
    rcases h1 with h1 | ⟨rfl, h1⟩ <;> rcases h2 with h2 | ⟨rfl, h2⟩
    · exact .inl (UInt8.lt_trans h1 h2)
    · exact .inl h1
    · exact .inl h2
    · exact .inr ⟨rfl, less_trans h1 h2⟩
open Go.Op in
theorem less_irrefl : ∀ a : List UInt8, bytesLess a a = false
  | [] => rfl
  | x :: a => by simp [bytesLess, less_irrefl a]
/-- The order of two strings as Go's Compare tells it. -/
def cmpS (a b : ByteArray) : Int := Lib.compareBytes a.data.toList b.data.toList
theorem cmpS_lt (a b : ByteArray) : cmpS a b < 0 ↔ Op.bytesLess a.toList b.toList = true := by
  rw [ByteArray.toList_eq, ByteArray.toList_eq]; exact cmp_lt _ _
theorem cmpS_zero (a b : ByteArray) : cmpS a b = 0 ↔ a = b := by
  unfold cmpS; rw [cmp_zero]
  constructor
  · intro h; cases a; cases b; simp at h; subst h; rfl
  · intro h; rw [h]
end Go.Proofs.Ytmfkmifkkplidaa
