/-
  Counting events at nodes: the plain law; rows of made numbers.
-/
import Derived.Test.YtmkhahiefdcinaaEvC
import Derived.Test.YtmkhahiefdcinaaInM
namespace Go.Proofs.Ytmkhahiefdcinaa
open Go.ChangeShapes Go.WideShapes Go.ChangeAt Go.RowKit Go.BigFrame
set_option linter.unusedVariables false

theorem setI (l : List Int) (k : Nat) (x : Int) (hk : k < l.length) : (encs l).set k (.int .i64 x) = encs (l.set k x) := by
  have e3 := encs_set l k x hk
  have e4 : k * Flat.size Int = k := Nat.mul_one k
  rw [e4] at e3
  exact e3
theorem getI (l : List Int) (k : Nat) (x : Int) (hk : l[k]? = some x) : (encs l)[k]? = some (.int .i64 x) := by
  obtain ⟨h1, rfl⟩ := List.getElem?_eq_some_iff.1 hk
  have e3 := encs_get l h1 (j := 0) (by decide)
  have e4 : k * Flat.size Int + 0 = k := by show k * 1 + 0 = k; omega
  rw [e4] at e3
  exact e3
theorem setB (l : List Bool) (k : Nat) (x : Bool) (hk : k < l.length) : (encs l).set k (.bool x) = encs (l.set k x) := by
  have e3 := encs_set l k x hk
  have e4 : k * Flat.size Bool = k := Nat.mul_one k
  rw [e4] at e3
  exact e3
theorem getB (l : List Bool) (k : Nat) (x : Bool) (hk : l[k]? = some x) : (encs l)[k]? = some (.bool x) := by
  obtain ⟨h1, rfl⟩ := List.getElem?_eq_some_iff.1 hk
  have e3 := encs_get l h1 (j := 0) (by decide)
  have e4 : k * Flat.size Bool + 0 = k := by show k * 1 + 0 = k; omega
  rw [e4] at e3
  exact e3
theorem encs_intlen (l : List Int) : (encs l).length = l.length := by rw [encs_len]; exact Nat.mul_one _

/-- How many of the first k events are at node j. -/
def cnt (l : List P2) (k : Nat) (j : Int) : Nat := (l.take k).countP (fun e => e.a == j)
/-- .. for each node. -/
def cntL (N : Nat) (l : List P2) (k : Nat) : List Int := (List.range N).map (fun (j : Nat) => (cnt l k j : Int))
theorem cnt_zero (l : List P2) (j : Int) : cnt l 0 j = 0 := by simp [cnt]
theorem cnt_succ {l : List P2} {k : Nat} {e : P2} (h : l[k]? = some e) (j : Int) : cnt l (k + 1) j = cnt l k j + if e.a = j then 1 else 0 := by
  obtain ⟨h1, rfl⟩ := List.getElem?_eq_some_iff.1 h
  unfold cnt
  rw [List.take_succ_eq_append_getElem h1, List.countP_append]
  simp [List.countP_cons]
theorem cnt_le (l : List P2) (k : Nat) (j : Int) : cnt l k j ≤ k := by
  unfold cnt
  exact Nat.le_trans List.countP_le_length (by simp; omega)
theorem cntL_len (N : Nat) (l : List P2) (k : Nat) : (cntL N l k).length = N := by simp [cntL]
theorem cntL_get {N : Nat} (l : List P2) (k : Nat) {j : Nat} (hj : j < N) : (cntL N l k)[j]? = some (cnt l k j : Int) := by
  simp [cntL, hj]
theorem cntL_zero (N : Nat) (l : List P2) : cntL N l 0 = List.replicate N 0 := by
  apply List.ext_getElem (by simp [cntL])
  intro i h1 h2
  simp [cntL, cnt_zero]
theorem cntL_succ {N : Nat} {l : List P2} {k j : Nat} {y : Int} (h : l[k]? = some ⟨j, y⟩) (hj : j < N) : cntL N l (k + 1) = (cntL N l k).set j ((cnt l k j : Int) + 1) := by
  apply List.ext_getElem (by simp [cntL])
  intro i h1 h2
  simp only [List.getElem_set, cntL, List.getElem_map, List.getElem_range, cnt_succ h]
  by_cases hij : j = i
  · subst hij; simp
  · have : ¬ ((j : Int) = (i : Int)) := by omega
    simp [hij, this]
theorem cntL_ok {N : Nat} {l : List P2} {k : Nat} (hk : k ≤ 1000000) : ∀ x ∈ cntL N l k, (Flat.ok x : Prop) := by
  intro x hx
  simp only [cntL, List.mem_map, List.mem_range] at hx
  obtain ⟨j, _, rfl⟩ := hx
  have := cnt_le l k j
  exact ⟨by omega, by omega⟩
open Classical in
theorem goodEv_get {nodes : Int} {l : List P2} (h : goodEv nodes l = true) : 1 ≤ nodes ∧ nodes ≤ 5 ∧ l.length ≤ 40 ∧ ∀ i, i < l.length → evOk (nodes - 1) l i := by
  unfold goodEv at h
  exact of_decide_eq_true h
/-- make of as many zeros. -/
theorem own_zeros (w : World) (e : TypeId) (n : Nat) (hn : n ≤ 9223372036854775807) :
    (w.alloc (.cells (madeCells #[.int .i64 0] n) e)).ownsRow w.heap.size e 1 (.slice (some ⟨w.heap.size, 0, none⟩) n n) n (encs (List.replicate n (0 : Int))) := by
  have h := own_made (α := Int) w #[.int .i64 0] e (List.replicate n 0) (n := n) (s := 1) rfl rfl (by simp) hn
  rw [fill_zero, List.length_replicate, Nat.mul_one] at h
  exact h
theorem own_falses (w : World) (e : TypeId) (n : Nat) (hn : n ≤ 9223372036854775807) :
    (w.alloc (.cells (madeCells #[.bool false] n) e)).ownsRow w.heap.size e 1 (.slice (some ⟨w.heap.size, 0, none⟩) n n) n (encs (List.replicate n false)) := by
  have h := own_made (α := Bool) w #[.bool false] e (List.replicate n false) (n := n) (s := 1) rfl rfl (by simp) hn
  rw [fill_zero, List.length_replicate, Nat.mul_one] at h
  exact h

/-- Number i of a cut is as it must be. -/
def uptOk (l : List P2) (u : List Int) (i : Nat) : Prop := ∀ x, u[i]? = some x → 0 ≤ x ∧ x ≤ (cnt l l.length i : Int)
open Classical in
noncomputable def uptoB (N : Nat) (l : List P2) (u : List Int) : Bool := decide (u.length = N ∧ ∀ i, i < u.length → uptOk l u i)
theorem uptOk_succ {l : List P2} {u : List Int} {k : Nat} {x : Int} (h : ∀ i, i < k → uptOk l u i) (he : u[k]? = some x) (h1 : 0 ≤ x ∧ x ≤ (cnt l l.length k : Int)) : ∀ i, i < k + 1 → uptOk l u i := by
  intro i hi
  by_cases hik : i = k
  · subst hik
    intro e he'
    rw [he] at he'
    obtain rfl := Option.some.inj he'
    exact h1
  · exact h i (by omega)
open Classical in
theorem uptoB_len {N : Nat} {l : List P2} {u : List Int} (h : u.length ≠ N) : uptoB N l u = false := decide_eq_false fun h' => h h'.1
open Classical in
theorem uptoB_bad {N : Nat} {l : List P2} {u : List Int} {k : Nat} {x : Int} (he : u[k]? = some x) (h : ¬ (0 ≤ x ∧ x ≤ (cnt l l.length k : Int))) : uptoB N l u = false :=
  decide_eq_false fun h' => h (h'.2 k (List.getElem?_eq_some_iff.1 he).1 x he)
open Classical in
theorem uptoB_yes {N : Nat} {l : List P2} {u : List Int} {n : Nat} (h : u.length = N) (hn : n = u.length) (hk : ∀ i, i < n → uptOk l u i) : uptoB N l u = true := decide_eq_true ⟨h, by subst hn; exact hk⟩

end Go.Proofs.Ytmkhahiefdcinaa
