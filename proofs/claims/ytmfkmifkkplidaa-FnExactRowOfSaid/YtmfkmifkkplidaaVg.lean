/-
  A calculus for walks, part 7: endings and small facts.
-/
import Derived.Test.YtmfkmifkkplidaaVf
namespace Go.Proofs.Ytmfkmifkkplidaa
open Go.ChangeShapes Go.WideShapes Go.ChangeAt Go.RowKit Go.BigFrame Go.Deep
set_option linter.unusedVariables false

theorem and_l {a b : Bool} (h : (a && b) = true) : a = true := by cases a <;> simp_all
theorem and_r {a b : Bool} (h : (a && b) = true) : b = true := by cases a <;> simp_all
theorem and_mk {a b : Bool} (h : a = true) (k : b = true) : (a && b) = true := by rw [h, k]; rfl
theorem not_of {a : Bool} (h : a = false) : (!a) = true := by rw [h]; rfl
theorem of_not {a : Bool} (h : (!a) = true) : a = false := by cases a <;> simp_all
section
variable {P : Program} {σ : Sig} {N : Nat} {w0 : Start} {Q : Exit → Sig → Prop}
theorem resB {t : Nat} {x r : Bool} (h : σ.env.lookup t = some (.one (.bool x))) (e : x = r) : ResL P σ [.tmp t] (.one (.bool r)) := by subst e; exact .inl ⟨_, rfl, .tmp h⟩
theorem resI {t : Nat} {k : IntKind} {x r : Int} (h : σ.env.lookup t = some (.one (.int k x))) (e : x = r) : ResL P σ [.tmp t] (.one (.int k r)) := by subst e; exact .inl ⟨_, rfl, .tmp h⟩
theorem resS {t : Nat} {x r : ByteArray} (h : σ.env.lookup t = some (.one (.str x))) (e : x = r) : ResL P σ [.tmp t] (.one (.str r)) := by subst e; exact .inl ⟨_, rfl, .tmp h⟩
theorem res2B {t t' : Nat} {x r y q : Bool} (h : σ.env.lookup t = some (.one (.bool x))) (h' : σ.env.lookup t' = some (.one (.bool y))) (e : x = r ∧ y = q) : ResL P σ [.tmp t, .tmp t'] (.tup2 (.one (.bool r)) (.one (.bool q))) := by
  obtain ⟨rfl, rfl⟩ := e; exact .inr (.inl ⟨_, _, _, _, rfl, .tmp h, .tmp h', rfl⟩)
theorem res2I {t t' : Nat} {k : IntKind} {x r : Int} {y q : Bool} (h : σ.env.lookup t = some (.one (.int k x))) (h' : σ.env.lookup t' = some (.one (.bool y))) (e : x = r ∧ y = q) : ResL P σ [.tmp t, .tmp t'] (.tup2 (.one (.int k r)) (.one (.bool q))) := by
  obtain ⟨rfl, rfl⟩ := e; exact .inr (.inl ⟨_, _, _, _, rfl, .tmp h, .tmp h', rfl⟩)
theorem res2S {t t' : Nat} {x r : ByteArray} {y q : Bool} (h : σ.env.lookup t = some (.one (.str x))) (h' : σ.env.lookup t' = some (.one (.bool y))) (e : x = r ∧ y = q) : ResL P σ [.tmp t, .tmp t'] (.tup2 (.one (.str r)) (.one (.bool q))) := by
  obtain ⟨rfl, rfl⟩ := e; exact .inr (.inl ⟨_, _, _, _, rfl, .tmp h, .tmp h', rfl⟩)
/-- A slice's length is an int. -/
theorem AW.bound {t sz n : Nat} {f : Nat → Nat → AV} {c : Code} (h : σ.env.lookup t = some (.one (.lst sz n f))) (k : n ≤ 9223372036854775807 → AW P N w0 c Q σ) : AW P N w0 c Q σ := by
  intro ρ S a w Q' hQ hs
  obtain ⟨A, c', _, h1, h2, _⟩ := hs.env _ _ h
  exact k (by unfold maxLen at h2; omega) ρ S a w Q' hQ hs
theorem AW.boundS {t : Nat} {s : ByteArray} {c : Code} (h : σ.env.lookup t = some (.one (.str s))) (k : s.size ≤ 9223372036854775807 → AW P N w0 c Q σ) : AW P N w0 c Q σ := by
  intro ρ S a w Q' hQ hs
  obtain ⟨_, h2⟩ := hs.env _ _ h
  exact k (by unfold maxLen at h2; omega) ρ S a w Q' hQ hs
end
/-- Encodings of Lean lists. -/
abbrev iList (l : List Int) : AV := .lst 1 l.length fun i _ => .int .i64 (l.getD i 0)
abbrev bList (l : List Bool) : AV := .lst 1 l.length fun i _ => .bool (l.getD i false)
abbrev sList (l : List ByteArray) : AV := .lst 1 l.length fun i _ => .str (l.getD i ByteArray.empty)
abbrev iLists (l : List (List Int)) : AV := .lst 1 l.length fun i _ => iList (l.getD i [])
abbrev bLists (l : List (List Bool)) : AV := .lst 1 l.length fun i _ => bList (l.getD i [])
abbrev sLists (l : List (List ByteArray)) : AV := .lst 1 l.length fun i _ => sList (l.getD i [])
abbrev i64 (n : Int) : SV := .one (.int .i64 n)
abbrev bo (b : Bool) : SV := .one (.bool b)
def inB (lo hi n : Int) : Bool := decide (lo ≤ n ∧ n ≤ hi)
theorem inB_cond (lo hi n : Int) : (cond (decide (lo ≤ n)) (decide (n ≤ hi)) false) = inB lo hi n := by
  unfold inB
  by_cases h : lo ≤ n <;> simp [h]
theorem inB_true {lo hi n : Int} (h : inB lo hi n = true) : lo ≤ n ∧ n ≤ hi := by simpa [inB] using h
theorem inB_false {lo hi n : Int} (h : inB lo hi n = false) : ¬ (lo ≤ n ∧ n ≤ hi) := by
  intro h'
  have : inB lo hi n = true := by simp only [inB, decide_eq_true_eq]; exact h'
  rw [h] at this; cases this
def allIn' (lo hi : Int) (l : List Int) : Bool := l.all fun n => inB lo hi n
theorem all_take {α : Type} {p : α → Bool} {l : List α} {k : Nat} (d : α) (h : k < l.length) (ht : (l.take k).all p = true) (hk : p (l.getD k d) = true) : (l.take (k + 1)).all p = true := by
  rw [List.take_succ_eq_append_getElem h, List.all_append, ht]
  rw [List.getD_eq_getElem?_getD, List.getElem?_eq_getElem h] at hk
  simpa using hk
theorem all_no_at {α : Type} {p : α → Bool} {l : List α} {k : Nat} (d : α) (h : k < l.length) (hk : p (l.getD k d) = false) : l.all p = false := by
  rw [List.getD_eq_getElem?_getD, List.getElem?_eq_getElem h] at hk
  rw [← Bool.not_eq_true, List.all_eq_true]
  intro h'
  have := h' _ (List.getElem_mem h)
  simp at hk
  rw [hk] at this; cases this
theorem all_end {α : Type} {p : α → Bool} {l : List α} {k : Nat} (h : ¬ k < l.length) (ht : (l.take k).all p = true) : l.all p = true := by
  rwa [List.take_of_length_le (by omega)] at ht
theorem not_f {a : Bool} (h : (!a) = false) : a = true := by cases a <;> simp_all
theorem beq_t {a b : Bool} (h : (a == b) = true) : a = b := by simpa using h
theorem beq_f {a b : Bool} (h : (a == b) = false) : ¬ a = b := by simpa using h
def CellsL : List AV → Prop
  | [] => True
  | x :: l => x.Cell ∧ CellsL l
theorem SV.cells_of : ∀ {l : List AV}, CellsL l → (SV.agg l).Cells
  | [], _ => fun x hx => by cases hx
  | y :: l, ⟨h1, h2⟩ => fun x hx => by
    rcases List.mem_cons.1 hx with rfl | hx
    · exact h1
    · exact SV.cells_of h2 x hx
end Go.Proofs.Ytmfkmifkkplidaa
