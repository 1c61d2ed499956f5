/-
  What a valid bank is, as the reference and as the program ask it: the same (no program in sight).
-/
import Derived.Test.YtlbnodmebehpiaaTy
namespace Go.Proofs.Ytlbnodmebehpiaa
open Go.ChangeShapes Go.WideShapes Go.ChangeAt Go.RowKit Go.BigFrame Go.Deep
set_option linter.unusedVariables false

/-- All numbers lie from lo to hi. -/
def allIn (lo hi : Int) (l : List Int) : Bool := l.all fun x => decide (lo ≤ x ∧ x ≤ hi)
def wayOk (w : List Int) : Bool := decide (w.length ≤ 40) && allIn 0 50 w
def atI (r : List Int) (k : Nat) : Int := r.getD k 0
def atB (r : List Bool) (k : Nat) : Bool := r.getD k false
def headOk (b : GBank) : Bool :=
  decide (1 ≤ (b.cCoins.length : Int) ∧ (b.cCoins.length : Int) ≤ 5) && (allIn 0 1000 b.cCoins && (decide (b.cWays.length = b.cCoins.length * b.cCoins.length) && (decide (b.cKept.length = b.cCoins.length) && (allIn (-1) 1000 b.cKept && (decide (b.cHeard.length = b.cCoins.length) && decide (b.cFound.length = b.cCoins.length))))))
def rowOk (b : GBank) (i : Nat) : Bool :=
  decide ((b.cHeard.getD i []).length = b.cCoins.length) && (decide ((b.cFound.getD i []).length = b.cCoins.length) && (allIn 0 1000 (b.cFound.getD i []) && !atB (b.cHeard.getD i []) i))
def cellBad (b : GBank) (i k : Nat) : Bool :=
  (((!wayOk (b.cWays.getD (i * b.cCoins.length + k) []) || (decide (atI b.cKept i < 0) && decide (39 < (b.cWays.getD (i * b.cCoins.length + k) []).length))) ||
    ((i == k) && decide (0 < (b.cWays.getD (i * b.cCoins.length + k) []).length))) ||
    (decide (atI b.cKept i < 0) && atB (b.cHeard.getD i []) k)) ||
    (decide (0 < atI (b.cFound.getD i []) k) && ((i == k) || decide (atI b.cKept k < 0)))
def cellsOk (b : GBank) (i : Nat) : Bool := (List.range b.cCoins.length).all fun k => !cellBad b i k
def rowsOk (b : GBank) : Bool := (List.range b.cCoins.length).all fun i => rowOk b i && cellsOk b i
def goodBank (b : GBank) : Bool := headOk b && rowsOk b
theorem all_no {n : Nat} {p : Nat → Bool} {k : Nat} (hk : k < n) (h : p k = false) : (List.range n).all p = false := by
  rw [← Bool.not_eq_true, List.all_eq_true]
  intro h'
  rw [h' k (List.mem_range.2 hk)] at h
  cases h
theorem all_yes {n : Nat} {p : Nat → Bool} (h : ∀ k, k < n → p k = true) : (List.range n).all p = true := by
  rw [List.all_eq_true]
  intro k hk
  exact h k (List.mem_range.1 hk)
theorem succ_yes {p : Nat → Bool} {k : Nat} (h : ∀ i, i < k → p i = true) (hk : p k = true) : ∀ i, i < k + 1 → p i = true := by
  intro i hi
  by_cases e : i = k
  · rw [e]; exact hk
  · exact h i (by omega)
theorem getD_lt {α : Type} {l : List α} {d : α} {i : Nat} (h : i < l.length) : l.getD i d = l[i] := by
  rw [List.getD_eq_getElem?_getD, List.getElem?_eq_getElem h]; rfl
/-- What the program asks of one channel. -/
def isWayB (b : GBank) (f t : Nat) : Bool :=
  cond (f == t) (decide ((b.cWays.getD (f * b.cCoins.length + t) []).length = 0) && (decide (atI (b.cFound.getD f []) t = 0) && !atB (b.cHeard.getD t []) f))
    (cond (decide (atI b.cKept t < 0) && (!decide (atI (b.cFound.getD f []) t = 0) || atB (b.cHeard.getD t []) f)) false
      (cond (decide (atI b.cKept f < 0)) (decide ((b.cWays.getD (f * b.cCoins.length + t) []).length ≤ 39)) (decide ((b.cWays.getD (f * b.cCoins.length + t) []).length ≤ 40)) &&
        (decide (0 ≤ atI (b.cFound.getD f []) t ∧ atI (b.cFound.getD f []) t ≤ 1000) && !(b.cWays.getD (f * b.cCoins.length + t) []).any fun x => !decide (0 ≤ x ∧ x ≤ 50))))
def headI (b : GBank) : Bool :=
  decide (1 ≤ (b.cCoins.length : Int) ∧ (b.cCoins.length : Int) ≤ 5) && (decide (b.cWays.length = b.cCoins.length * b.cCoins.length) && (decide (b.cKept.length = b.cCoins.length) && (decide (b.cHeard.length = b.cCoins.length) && decide (b.cFound.length = b.cCoins.length))))
def rowI (b : GBank) (f : Nat) : Bool :=
  decide (0 ≤ atI b.cCoins f ∧ atI b.cCoins f ≤ 1000) && (decide (-1 ≤ atI b.cKept f ∧ atI b.cKept f ≤ 1000) && (decide ((b.cHeard.getD f []).length = b.cCoins.length) && decide ((b.cFound.getD f []).length = b.cCoins.length)))
def rowsI (b : GBank) : Bool := (List.range b.cCoins.length).all fun f => rowI b f
def waysI (b : GBank) : Bool := (List.range b.cCoins.length).all fun f => (List.range b.cCoins.length).all fun t => isWayB b f t
def isBankB (b : GBank) : Bool := headI b && (rowsI b && waysI b)
theorem allAt {lo hi : Int} {l : List Int} {n : Nat} (hn : l.length = n) : allIn lo hi l = true ↔ ∀ k, k < n → lo ≤ atI l k ∧ atI l k ≤ hi := by
  unfold allIn
  rw [List.all_eq_true]
  constructor
  · intro h k hk
    have hk' : k < l.length := by rw [hn]; exact hk
    have e : atI l k = l[k] := getD_lt hk'
    rw [e]
    exact of_decide_eq_true (h _ (List.getElem_mem hk'))
  · intro h x hx
    obtain ⟨k, hk, rfl⟩ := List.mem_iff_getElem.1 hx
    have e : atI l k = l[k] := getD_lt hk
    have := h k (by rw [← hn]; exact hk)
    rw [e] at this
    exact decide_eq_true this
theorem rangeAll {n : Nat} {p : Nat → Bool} : (List.range n).all p = true ↔ ∀ k, k < n → p k = true := by
  rw [List.all_eq_true]
  exact ⟨fun h k hk => h k (List.mem_range.2 hk), fun h k hk => h k (List.mem_range.1 hk)⟩
theorem anyIn (l : List Int) : (l.any fun x => !decide (0 ≤ x ∧ x ≤ 50)) = !allIn 0 50 l := by
  unfold allIn
  rw [List.not_all_eq_any_not]
theorem isWayB_iff {b : GBank} {n : Nat} (hn : b.cCoins.length = n) {f t : Nat} : isWayB b f t = true ↔
    (f = t ∧ (b.cWays.getD (f * n + t) []).length = 0 ∧ atI (b.cFound.getD f []) t = 0 ∧ atB (b.cHeard.getD t []) f = false) ∨
    (f ≠ t ∧ (atI b.cKept t < 0 → atI (b.cFound.getD f []) t = 0 ∧ atB (b.cHeard.getD t []) f = false) ∧ (b.cWays.getD (f * n + t) []).length ≤ 40 ∧ (atI b.cKept f < 0 → (b.cWays.getD (f * n + t) []).length ≤ 39) ∧
      (0 ≤ atI (b.cFound.getD f []) t ∧ atI (b.cFound.getD f []) t ≤ 1000) ∧ allIn 0 50 (b.cWays.getD (f * n + t) []) = true) := by
  unfold isWayB
  rw [hn, anyIn]
  generalize b.cWays.getD (f * n + t) [] = way
  generalize atI (b.cFound.getD f []) t = fo
  generalize atB (b.cHeard.getD t []) f = hh
  generalize atI b.cKept t = kt
  generalize atI b.cKept f = kf
  generalize allIn 0 50 way = q
  generalize way.length = m
  by_cases e : f = t
  · rw [beq_iff_eq.2 e, cond_true]
    simp [e]
  · rw [beq_eq_false_iff_ne.2 e, cond_false]
    by_cases h1 : kt < 0
    · by_cases h2 : fo = 0
      · cases hh
        · by_cases h3 : kf < 0
          · simp [e, h1, h2, h3]; omega
          · simp [e, h1, h2, h3]
        · simp [e, h1, h2]
      · simp [e, h1, h2]
    · by_cases h3 : kf < 0
      · simp [e, h1, h3]; omega
      · simp [e, h1, h3]
theorem cellBad_iff {b : GBank} {n : Nat} (hn : b.cCoins.length = n) {i k : Nat} : (!cellBad b i k) = true ↔
    (b.cWays.getD (i * n + k) []).length ≤ 40 ∧ allIn 0 50 (b.cWays.getD (i * n + k) []) = true ∧ (atI b.cKept i < 0 → (b.cWays.getD (i * n + k) []).length ≤ 39) ∧
    (i = k → (b.cWays.getD (i * n + k) []).length = 0) ∧ (atI b.cKept i < 0 → atB (b.cHeard.getD i []) k = false) ∧
    (0 < atI (b.cFound.getD i []) k → i ≠ k ∧ 0 ≤ atI b.cKept k) := by
  unfold cellBad wayOk
  rw [hn]
  generalize b.cWays.getD (i * n + k) [] = way
  generalize atI (b.cFound.getD i []) k = fo
  generalize atB (b.cHeard.getD i []) k = hh
  generalize atI b.cKept k = kt
  generalize atI b.cKept i = kf
  generalize allIn 0 50 way = q
  generalize way.length = m
  simp only [Bool.not_or, Bool.not_and, Bool.not_not, Bool.and_eq_true, Bool.or_eq_true, decide_eq_true_eq, Bool.not_eq_true', decide_eq_false_iff_not, beq_eq_false_iff_ne]
  constructor
  · rintro ⟨⟨⟨⟨⟨h1, h2⟩, h3⟩, h4⟩, h5⟩, h6⟩
    refine ⟨h1, h2, fun h => ?_, fun h => ?_, fun h => ?_, fun h => ?_⟩
    · rcases h3 with h3 | h3
      · exact absurd h h3
      · omega
    · rcases h4 with h4 | h4
      · exact absurd h h4
      · omega
    · rcases h5 with h5 | h5
      · exact absurd h h5
      · exact h5
    · rcases h6 with h6 | ⟨h6, h7⟩
      · exact absurd h h6
      · exact ⟨h6, by omega⟩
  · rintro ⟨h1, h2, h3, h4, h5, h6⟩
    refine ⟨⟨⟨⟨⟨h1, h2⟩, ?_⟩, ?_⟩, ?_⟩, ?_⟩
    · by_cases h : kf < 0
      · exact Or.inr (by have := h3 h; omega)
      · exact Or.inl h
    · by_cases h : i = k
      · exact Or.inr (by have := h4 h; omega)
      · exact Or.inl h
    · by_cases h : kf < 0
      · exact Or.inr (h5 h)
      · exact Or.inl h
    · by_cases h : 0 < fo
      · exact Or.inr ⟨(h6 h).1, by have := (h6 h).2; omega⟩
      · exact Or.inl h
theorem bankLaw (b : GBank) : isBankB b = goodBank b := by
  obtain ⟨n, hn⟩ : ∃ n, b.cCoins.length = n := ⟨_, rfl⟩
  by_cases hl : (1 ≤ (n : Int) ∧ (n : Int) ≤ 5) ∧ b.cWays.length = n * n ∧ b.cKept.length = n ∧ b.cHeard.length = n ∧ b.cFound.length = n
  · obtain ⟨l1, l2, l3, l4, l5⟩ := hl
    have e1 : isBankB b = (rowsI b && waysI b) := by
      unfold isBankB headI
      rw [hn, decide_eq_true l1, decide_eq_true l2, decide_eq_true l3, decide_eq_true l4, decide_eq_true l5]; rfl
    have e2 : goodBank b = (allIn 0 1000 b.cCoins && (allIn (-1) 1000 b.cKept && rowsOk b)) := by
      unfold goodBank headOk
      rw [hn, decide_eq_true l1, decide_eq_true l2, decide_eq_true l3, decide_eq_true l4, decide_eq_true l5]
      cases allIn 0 1000 b.cCoins <;> cases allIn (-1) 1000 b.cKept <;> rfl
    rw [e1, e2, Bool.eq_iff_iff, Bool.and_eq_true, Bool.and_eq_true, Bool.and_eq_true, allAt hn, allAt l3]
    unfold rowsI waysI rowsOk
    rw [hn, rangeAll, rangeAll, rangeAll]
    unfold rowI rowOk cellsOk
    simp only [hn, Bool.and_eq_true, decide_eq_true_eq, rangeAll, isWayB_iff hn, cellBad_iff hn]
    constructor
    · rintro ⟨h1, h2⟩
      refine ⟨fun k hk => (h1 k hk).1, fun k hk => (h1 k hk).2.1, fun i hi => ⟨⟨(h1 i hi).2.2.1, (h1 i hi).2.2.2, ?_, ?_⟩, fun k hk => ?_⟩⟩
      · rw [allAt (h1 i hi).2.2.2]
        intro k hk
        rcases h2 i hi k hk with ⟨-, -, h, -⟩ | ⟨-, -, -, -, h, -⟩
        · omega
        · exact h
      · rcases h2 i hi i hi with ⟨-, -, -, h⟩ | ⟨h, -⟩
        · rw [h]; rfl
        · exact absurd rfl h
      · have hb : atI b.cKept i < 0 → atB (b.cHeard.getD i []) k = false := by
          intro hk0
          rcases h2 k hk i hi with ⟨-, -, -, h⟩ | ⟨-, h, -⟩
          · exact h
          · exact (h hk0).2
        rcases h2 i hi k hk with ⟨e, h3, h4, -⟩ | ⟨e, h3, h4, h5, h6, h7⟩
        · have hw : b.cWays.getD (i * n + k) [] = [] := List.eq_nil_of_length_eq_zero h3
          refine ⟨by omega, by rw [hw]; rfl, fun _ => by omega, fun _ => h3, hb, fun h => by omega⟩
        · refine ⟨h4, h7, h5, fun h => absurd h e, hb, fun h => ⟨e, ?_⟩⟩
          by_cases hq : atI b.cKept k < 0
          · have := (h3 hq).1; omega
          · omega
    · rintro ⟨h1, h2, h3⟩
      refine ⟨fun k hk => ⟨h1 k hk, h2 k hk, (h3 k hk).1.1, (h3 k hk).1.2.1⟩, fun f hf t ht => ?_⟩
      obtain ⟨⟨r1, r2, r3, r4⟩, hc⟩ := h3 f hf
      obtain ⟨c1, c2, c3, c4, c5, c6⟩ := hc t ht
      rw [allAt r2] at r3
      by_cases e : f = t
      · subst e
        refine Or.inl ⟨rfl, c4 rfl, ?_, by simpa using r4⟩
        by_cases hq : 0 < atI (b.cFound.getD f []) f
        · exact absurd rfl (c6 hq).1
        · have := r3 f hf; omega
      · refine Or.inr ⟨e, fun hq => ⟨?_, ?_⟩, c1, c3, r3 t ht, c2⟩
        · by_cases hz : 0 < atI (b.cFound.getD f []) t
          · have := (c6 hz).2; omega
          · have := r3 t ht; omega
        · obtain ⟨-, hc'⟩ := h3 t ht
          exact (hc' f hf).2.2.2.2.1 hq
  · have e1 : headI b = false := by
      rw [← Bool.not_eq_true]
      intro h
      apply hl
      unfold headI at h
      simp only [hn, Bool.and_eq_true, decide_eq_true_eq] at h
      exact ⟨h.1, h.2.1, h.2.2.1, h.2.2.2.1, h.2.2.2.2⟩
    have e2 : headOk b = false := by
      rw [← Bool.not_eq_true]
      intro h
      apply hl
      unfold headOk at h
      simp only [hn, Bool.and_eq_true, decide_eq_true_eq] at h
      exact ⟨h.1, h.2.2.1, h.2.2.2.1, h.2.2.2.2.2.1, h.2.2.2.2.2.2⟩
    unfold isBankB goodBank
    rw [e1, e2]; rfl
end Go.Proofs.Ytlbnodmebehpiaa
