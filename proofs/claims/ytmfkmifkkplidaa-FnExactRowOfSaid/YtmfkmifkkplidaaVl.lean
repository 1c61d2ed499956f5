/-
  A calculus for walks, part 12: function values made on the spot; laws of searches.
-/
import Derived.Test.YtmfkmifkkplidaaVk
namespace Go.Proofs.Ytmfkmifkkplidaa
open Go.ChangeShapes Go.WideShapes Go.ChangeAt Go.RowKit Go.BigFrame Go.Deep
set_option linter.unusedVariables false

set_option linter.unusedSimpArgs false
def KnL (σ : Sig) : List Operand → List AV → Prop
  | [], [] => True
  | x :: xs, y :: ys => Kn σ x (.one y) ∧ KnL σ xs ys
  | _, _ => False
theorem KnL.sound {N : Nat} {w0 : Start} {ρ : Rho} {S : Nat → Prop} {σ : Sig} {a : Act} {w : World} (hs : St N w0 ρ S σ a w) : ∀ {xs : List Operand} {ys : List AV}, KnL σ xs ys → xs.length = ys.length ∧ ∀ j, j < ys.length → ∃ u, (xs.map a.eval)[j]? = some u ∧ R ρ w S (ys.getD j (.con undef)) u
  | [], [], _ => ⟨rfl, fun j hj => absurd hj (by simp)⟩
  | x :: xs, y :: ys, ⟨h1, h2⟩ => by
    obtain ⟨e, h⟩ := KnL.sound hs h2
    refine ⟨by simp [e], fun j hj => ?_⟩
    cases j with
    | zero => exact ⟨a.eval x, rfl, h1.sound hs⟩
    | succ j =>
      obtain ⟨u, hu, hr⟩ := h j (by simpa using hj)
      exact ⟨u, by simpa using hu, by simpa using hr⟩
  | [], _ :: _, h => h.elim
  | _ :: _, [], h => h.elim
theorem PureOp.makeFn {P : Program} {σ : Sig} {o : Oper} {f : FuncId} {xs : List Operand} {caps : List AV} {m : Nat} (ho : o.op = .makeFunc (.func f) #[] xs.toArray) (hk : KnL σ xs caps) (hm : caps.length = m) :
    PureOp P o σ (.one (.fn f m fun j => caps.getD j (.con undef))) := by
  subst hm
  refine PureOp.val fun N w0 ρ S ac w hs => ?_
  obtain ⟨e, h⟩ := hk.sound hs
  refine ⟨.func (.func f) #[] (xs.map ac.eval).toArray, ⟨_, rfl, by simp [e], fun j hj => ?_⟩, fun w' _ => ?_⟩
  · obtain ⟨u, hu, hr⟩ := h j hj
    exact ⟨u, by simpa using hu, hr⟩
  · simp [execOp, ho, Instr.makeFunc, go_sem]
/-! Laws of loops over a range, and of searches. -/
theorem rng_no {n : Nat} {p : Nat → Bool} {k : Nat} (hk : k < n) (h : p k = false) : (List.range n).all p = false := by
  rw [← Bool.not_eq_true, List.all_eq_true]
  intro h'
  rw [h' k (List.mem_range.2 hk)] at h
  cases h
theorem rng_yes {n : Nat} {p : Nat → Bool} (h : ∀ k, k < n → p k = true) : (List.range n).all p = true := by
  rw [List.all_eq_true]
  intro k hk
  exact h k (List.mem_range.1 hk)
theorem rng_succ {p : Nat → Prop} {k : Nat} (h : ∀ i, i < k → p i) (hk : p k) : ∀ i, i < k + 1 → p i := by
  intro i hi
  by_cases e : i = k
  · rw [e]; exact hk
  · exact h i (by omega)
theorem rng_at {n : Nat} {p : Nat → Bool} (h : (List.range n).all p = true) {k : Nat} (hk : k < n) : p k = true :=
  (List.all_eq_true.1 h) k (List.mem_range.2 hk)
theorem rng_congr {n : Nat} {p q : Nat → Bool} (h : ∀ k, k < n → p k = q k) : (List.range n).all p = (List.range n).all q := by
  rw [Bool.eq_iff_iff, List.all_eq_true, List.all_eq_true]
  constructor <;> intro h' k hk
  · rw [← h k (List.mem_range.1 hk)]; exact h' k hk
  · rw [h k (List.mem_range.1 hk)]; exact h' k hk
theorem any_rng {α : Type} (d : α) (l : List α) (p : α → Bool) : l.any p = !(List.range l.length).all fun k => !p (l.getD k d) := by
  have e : l.any p = true ↔ (List.range l.length).all (fun k => !p (l.getD k d)) = false := by
    rw [List.any_eq_true, ← Bool.not_eq_true, List.all_eq_true]
    constructor
    · rintro ⟨x, hx, hp⟩ h
      obtain ⟨k, hk, rfl⟩ := List.mem_iff_getElem.1 hx
      have := h k (List.mem_range.2 hk)
      rw [List.getD_eq_getElem?_getD, List.getElem?_eq_getElem hk] at this
      simp [hp] at this
    · intro h
      apply Classical.byContradiction
      intro hn
      refine h fun k hk => ?_
      have hk := List.mem_range.1 hk
      rw [List.getD_eq_getElem?_getD, List.getElem?_eq_getElem hk]
      cases hp : p l[k] with
      | false => simp [hp]
      | true => exact absurd ⟨_, List.getElem_mem hk, hp⟩ hn
  generalize (List.range l.length).all (fun k => !p (l.getD k d)) = y at e ⊢
  generalize l.any p = x at e ⊢
  cases x <;> cases y <;> simp at e ⊢
/-- The first place at which p holds, from a on, in n steps. -/
def firstAt (p : Nat → Bool) : Nat → Nat → Option Nat
  | _, 0 => none
  | a, n + 1 => if p a then some a else firstAt p (a + 1) n
theorem firstAt_none {p : Nat → Bool} : ∀ {a n : Nat}, (∀ j, a ≤ j → j < a + n → p j = false) → firstAt p a n = none
  | _, 0, _ => rfl
  | a, n + 1, h => by
    unfold firstAt
    rw [h a (by omega) (by omega), if_neg (by decide)]
    exact firstAt_none fun j h1 h2 => h j (by omega) (by omega)
theorem firstAt_hit {p : Nat → Bool} {k : Nat} (hp : p k = true) : ∀ {a n : Nat}, (∀ j, a ≤ j → j < k → p j = false) → a ≤ k → k < a + n → firstAt p a n = some k
  | _, 0, _, h1, h2 => absurd h2 (by omega)
  | a, n + 1, h, h1, h2 => by
    unfold firstAt
    by_cases e : a = k
    · rw [e, hp, if_pos rfl]
    · rw [h a (by omega) (by omega), if_neg (by decide)]
      exact firstAt_hit hp (fun j h3 h4 => h j (by omega) h4) (by omega) (by omega)
/-- A string's byte, as a total function. -/
def byteAt (s : ByteArray) (k : Nat) : Int := if h : k < s.size then ((s.get k h).toNat : Int) else 0
theorem PureOp.indexStrAt {P : Program} {σ : Sig} {o : Oper} {t : TypeId} {x y : Operand} {s : ByteArray} {i : Nat} {m : Int} (ho : o.op = .index t x y) (hx : Kn σ x (.one (.str s))) (ht : stringB P t = true) (hy : Kn σ y (.one (.int .i64 m))) (hm : m = (i : Int)) (hi : i < s.size) :
    PureOp P o σ (.one (.int .u8 (byteAt s i))) := by
  have e : byteAt s i = ((s.get i hi).toNat : Int) := by unfold byteAt; rw [dif_pos hi]
  rw [e]; exact PureOp.indexStr ho hx ht hy hm hi
end Go.Proofs.Ytmfkmifkkplidaa
