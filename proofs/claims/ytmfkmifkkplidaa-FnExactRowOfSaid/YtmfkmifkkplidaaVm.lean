/-
  A calculus for walks, part 13: structures compared, the smaller of two, and how far two lists agree.
-/
import Derived.Test.YtmfkmifkkplidaaVl
import Derived.Laws.StructEq
namespace Go.Proofs.Ytmfkmifkkplidaa
open Go.ChangeShapes Go.WideShapes Go.ChangeAt Go.RowKit Go.BigFrame Go.Deep
set_option linter.unusedVariables false

set_option linter.unusedSimpArgs false
def AV.flat : AV → Bool
  | .int _ _ => true
  | .bool _ => true
  | .str _ => true
  | _ => false
theorem AV.flat_val {ρ : Rho} {w : World} {S : Nat → Prop} {x : AV} {v : Value} (h : x.flat = true) (hr : R ρ w S x v) : v = x.val := by
  cases x <;> first | (cases h; done) | exact hr | exact hr.1
theorem RL.vals {ρ : Rho} {w : World} {S : Nat → Prop} : ∀ {l : List AV} {us : List Value}, l.all AV.flat = true → RL ρ w S l us → us = l.map AV.val
  | [], _, _, h => h
  | x :: l, _, hf, ⟨u, us, e, h1, h2⟩ => by
    rw [List.all_cons, Bool.and_eq_true] at hf
    rw [e, AV.flat_val hf.1 h1, RL.vals hf.2 h2]; rfl
section
variable {P : Program} {σ : Sig}
theorem agg_val {l : List AV} {x : Operand} {ρ : Rho} {S : Nat → Prop} {N : Nat} {w0 : Start} {w : World} {ac : Act} (hs : St N w0 ρ S σ ac w) (hx : Kn σ x (.agg l)) (fl : l.all AV.flat = true) : ac.eval x = .agg (l.map AV.val).toArray := by
  obtain ⟨us, e, h⟩ := hx.sound hs
  have := RL.vals fl h
  rw [e, ← this]
theorem PureOp.eqAgg {o : Oper} {t t' : TypeId} {x y : Operand} {l m : List AV} {r : Bool} (ho : o.op = .binOp .eql t x y t') (hx : Kn σ x (.agg l)) (hy : Kn σ y (.agg m)) (fl : l.all AV.flat = true) (fm : m.all AV.flat = true) (hg : P.eqGuardType P.depth t = false)
    (he : ∀ w, (Op.equalIn 10000 t (.agg (l.map AV.val).toArray) (.agg (m.map AV.val).toArray)).run P w = .ok r w) : PureOp P o σ (.one (.bool r)) := by
  refine PureOp.val fun N w0 ρ S ac w hs => ?_
  have e1 := agg_val hs hx fl
  have e2 := agg_val hs hy fm
  refine ⟨_, rfl, fun w' _ => ?_⟩
  generalize ac.eval = ev at e1 e2 ⊢
  simp only [execOp, ho, e1, e2, Sem.run_bind, run_eqGuard_agg w' .eql t x y _ _ hg, Result.andThen_ok, run_eql_struct, he]
  simp [go_sem]
theorem PureOp.neAgg {o : Oper} {t t' : TypeId} {x y : Operand} {l m : List AV} {r : Bool} (ho : o.op = .binOp .neq t x y t') (hx : Kn σ x (.agg l)) (hy : Kn σ y (.agg m)) (fl : l.all AV.flat = true) (fm : m.all AV.flat = true) (hg : P.eqGuardType P.depth t = false)
    (he : ∀ w, (Op.equalIn 10000 t (.agg (l.map AV.val).toArray) (.agg (m.map AV.val).toArray)).run P w = .ok r w) : PureOp P o σ (.one (.bool (!r))) := by
  refine PureOp.val fun N w0 ρ S ac w hs => ?_
  have e1 := agg_val hs hx fl
  have e2 := agg_val hs hy fm
  refine ⟨_, rfl, fun w' _ => ?_⟩
  generalize ac.eval = ev at e1 e2 ⊢
  simp only [execOp, ho, e1, e2, Sem.run_bind, run_eqGuard_agg w' .neq t x y _ _ hg, Result.andThen_ok, run_neq_struct, he]
  simp [go_sem]
theorem PureOp.min2 {o : Oper} {ts : Array TypeId} {x y : Operand} {k : IntKind} {a b : Int} (ho : o.op = .call { callee := .builtin .min, args := #[x, y], argTypes := ts }) (hx : Kn σ x (.one (.int k a))) (hy : Kn σ y (.one (.int k b))) : PureOp P o σ (.one (.int k (if b < a then b else a))) := by
  refine PureOp.val fun N w0 ρ S ac w hs => ?_
  have e1 : ac.eval x = .int k a := hx.sound hs
  have e2 : ac.eval y = .int k b := hy.sound hs
  refine ⟨_, rfl, fun w' _ => ?_⟩
  generalize ac.eval = ev at e1 e2 ⊢
  simp [execOp, ho, e1, e2, resolve, invoke, builtin, Builtin.min_, Builtin.min2, go_sem]
end
/-- How far two lists agree. -/
def pre {α : Type} [DecidableEq α] : List α → List α → Nat
  | x :: xs, y :: ys => if x = y then pre xs ys + 1 else 0
  | _, _ => 0
theorem pre_le {α : Type} [DecidableEq α] : ∀ a b : List α, pre a b ≤ a.length ∧ pre a b ≤ b.length
  | [], _ => by simp [pre]
  | _ :: _, [] => by simp [pre]
  | x :: xs, y :: ys => by
    have := pre_le xs ys
    simp only [pre]
    split <;> simp <;> omega
theorem pre_eq {α : Type} [DecidableEq α] (d : α) : ∀ (k : Nat) (a b : List α), a.take k = b.take k → k ≤ a.length → k ≤ b.length → (k = a.length ∨ k = b.length ∨ ¬ a.getD k d = b.getD k d) → pre a b = k
  | 0, [], _, _, _, _, _ => by simp [pre]
  | 0, _ :: _, [], _, _, _, _ => by simp [pre]
  | 0, x :: xs, y :: ys, _, _, _, h => by
    simp at h
    simp [pre, h]
  | k + 1, x :: xs, y :: ys, h, h1, h2, h3 => by
    simp only [List.take_succ_cons, List.cons.injEq] at h
    obtain ⟨rfl, h⟩ := h
    have := pre_eq d k xs ys h (by simpa using h1) (by simpa using h2) (by simpa using h3)
    simp [pre, this]
  | k + 1, [], _, _, h1, _, _ => absurd h1 (by simp)
  | k + 1, _ :: _, [], _, _, h2, _ => absurd h2 (by simp)
theorem pre_comm {α : Type} [DecidableEq α] : ∀ a b : List α, pre a b = pre b a
  | [], [] => rfl
  | [], _ :: _ => rfl
  | _ :: _, [] => rfl
  | x :: xs, y :: ys => by
    simp only [pre]
    rw [pre_comm xs ys]
    by_cases h : x = y
    · rw [if_pos h, if_pos h.symm]
    · rw [if_neg h, if_neg (fun e => h e.symm)]
theorem pre_self {α : Type} [DecidableEq α] : ∀ a : List α, pre a a = a.length
  | [] => rfl
  | x :: xs => by simp [pre, pre_self xs]
theorem pre_take {α : Type} [DecidableEq α] : ∀ a b : List α, a.take (pre a b) = b.take (pre a b)
  | [], _ => by simp [pre]
  | _ :: _, [] => by simp [pre]
  | x :: xs, y :: ys => by
    simp only [pre]
    by_cases h : x = y
    · rw [if_pos h]; simp [h, pre_take xs ys]
    · rw [if_neg h]; rfl
theorem pre_full {α : Type} [DecidableEq α] {a b : List α} (h : pre a b = b.length) : b = a.take b.length := by
  have := pre_take a b
  rw [h, List.take_of_length_le (l := b) (Nat.le_refl _)] at this
  exact this.symm
/-- The least of a and of g 0, .., g (k - 1). -/
def foldMin (g : Nat → Nat) (a : Nat) : Nat → Nat
  | 0 => a
  | k + 1 => if g k < foldMin g a k then g k else foldMin g a k
theorem foldMin_le (g : Nat → Nat) (a : Nat) : ∀ k, foldMin g a k ≤ a ∧ ∀ j, j < k → foldMin g a k ≤ g j
  | 0 => ⟨Nat.le_refl _, fun j hj => absurd hj (by omega)⟩
  | k + 1 => by
    obtain ⟨h1, h2⟩ := foldMin_le g a k
    simp only [foldMin]
    refine ⟨by split <;> omega, fun j hj => ?_⟩
    by_cases e : j = k
    · subst e; split <;> omega
    · have := h2 j (by omega); split <;> omega
theorem foldMin_hit (g : Nat → Nat) (a : Nat) : ∀ k, foldMin g a k = a ∨ ∃ j, j < k ∧ foldMin g a k = g j
  | 0 => .inl rfl
  | k + 1 => by
    simp only [foldMin]
    split
    · exact .inr ⟨k, by omega, rfl⟩
    · rcases foldMin_hit g a k with h | ⟨j, hj, h⟩
      · exact .inl h
      · exact .inr ⟨j, by omega, h⟩
theorem foldMin_any {g : Nat → Nat} {a b k j : Nat} (hj : j < k) (ha : g j ≤ a) (hb : g j ≤ b) : foldMin g a k = foldMin g b k := by
  have h (a b : Nat) (hb : g j ≤ b) : foldMin g a k ≤ foldMin g b k := by
    obtain ⟨_, h2⟩ := foldMin_le g a k
    rcases foldMin_hit g b k with e | ⟨i, hi, e⟩
    · rw [e]; exact Nat.le_trans (h2 j hj) hb
    · rw [e]; exact h2 i hi
  exact Nat.le_antisymm (h a b hb) (h b a ha)
end Go.Proofs.Ytmfkmifkkplidaa
