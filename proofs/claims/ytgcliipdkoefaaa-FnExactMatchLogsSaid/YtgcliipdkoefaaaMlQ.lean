/-
  The test in matchLogs; its plain law.
-/
import Derived.Test.YtgcliipdkoefaaaMlS
import Derived.Test.YtgcliipdkoefaaaSlS
namespace Go.Proofs.Ytgcliipdkoefaaa
open Go.ChangeShapes Go.WideShapes Go.ChangeAt Go.RowKit Go.BigFrame Go.Deep
set_option linter.unusedVariables false

set_option maxHeartbeats 4000000
/-- The test of matchLogs: x is a start of s's epoch at another place. -/
def clashP (s x : P2) : Bool := x.a == s.a && x.b != s.b
theorem beq_sym' (a b : Int) : (a == b) = (b == a) := by
  by_cases h : a = b
  · rw [h]
  · rw [beq_eq_false_iff_ne.2 h, beq_eq_false_iff_ne.2 (fun e => h e.symm)]
theorem clashP_eq (s x : P2) : clashP s x = clash s x := by
  unfold clashP clash bne
  rw [beq_sym' x.a s.a, beq_sym' x.b s.b]
theorem matchLogs1_pred (s : P2) (g : Nat) (w : World) (h0 : w.cell? ⟨g, 0, none⟩ = some (.int .i64 s.a)) (h1 : w.cell? ⟨g, 1, none⟩ = some (.int .i64 s.b)) :
    Pred Try.prog 73 #[.pointer (some ⟨g, 0, none⟩)] (fun x : P2 => .agg #[.int .i64 x.a, .int .i64 x.b]) Flat.ok (clashP s) w := by
  intro W x _ hW
  have hg := World.block_lt_of_cell? w _ h0
  have k0 : W.cell? ⟨g, 0, none⟩ = some (.int .i64 s.a) := (hW.cell (p := ⟨g, 0, none⟩) hg).trans h0
  have k1 : W.cell? ⟨g, 1, none⟩ = some (.int .i64 s.b) := (hW.cell (p := ⟨g, 1, none⟩) hg).trans h1
  have key : ∀ r1 r2, (x.a == s.a) = r1 → (x.b != s.b) = r2 → Calls Try.prog 73 #[.agg #[.int .i64 x.a, .int .i64 x.b], .pointer (some ⟨g, 0, none⟩)] W fun e w' => e = .returned (.bool (r1 && r2)) ∧ Below W.heap.size W w' := by
    intro r1 r2 hr1 hr2
    have k0' : (W.alloc (.cells #[.int .i64 x.a, .int .i64 x.b] 55)).cell? ⟨g, 0, none⟩ = some (.int .i64 s.a) := (World.cell?_alloc_lt _ _ _ (World.block_lt_of_cell? _ _ k0)).trans k0
    have k1' : (W.alloc (.cells #[.int .i64 x.a, .int .i64 x.b] 55)).cell? ⟨g, 1, none⟩ = some (.int .i64 s.b) := (World.cell?_alloc_lt _ _ _ (World.block_lt_of_cell? _ _ k1)).trans k1
    have HB := Lib.hid ((Below.refl W.heap.size W).alloc (Nat.le_refl _) (.cells #[.int .i64 x.a, .int .i64 x.b] 55))
    cases r1 <;> cases r2
    all_goals
      go_enter Try.func73, Try.ntmps73
      go_wp2_with fail
      go_ret
      exact ⟨rfl, HB.out⟩
  have h := key _ _ rfl rfl
  have e : (#[Value.agg #[.int .i64 x.a, .int .i64 x.b]] ++ #[.pointer (some ⟨g, 0, none⟩)] : Array Value) = #[.agg #[.int .i64 x.a, .int .i64 x.b], .pointer (some ⟨g, 0, none⟩)] := rfl
  rw [← e] at h
  exact h

theorem begB_no' {l l' : List IS} {s : P2} {i : Nat} (hi : (startsTo l l.length)[i]? = some s) (h : (startsTo l' l'.length).any (clashP s) = true) : begB l l' = false := by
  obtain ⟨t, ht, hc⟩ := List.any_eq_true.1 h
  obtain ⟨j, hj⟩ := List.mem_iff_getElem?.1 ht
  exact begB_no hi hj (by rw [← clashP_eq]; exact hc)
theorem begB_yes' {l l' : List IS} (h : ∀ i, i < (startsTo l l.length).length → ∀ s, (startsTo l l.length)[i]? = some s → (startsTo l' l'.length).any (clashP s) = false) : begB l l' = true := by
  refine begB_yes fun i hi s hs j t ht => ?_
  have h1 := h i hi s hs
  rw [List.any_eq_false] at h1
  have h2 := h1 t (List.mem_of_getElem? ht)
  rw [clashP_eq] at h2
  simpa using h2
theorem mlAns_yes {l l' : List IS} {n m : Nat} (hn : n = l.length) (hm : m = l'.length) (hb : begB l l' = true) (h : ∀ i, i < min n m → mlBad l l' (pre l l') i = false) : mlAns l l' = true := by
  rw [mlAns_end hn fun i hi => ?_, hb]
  by_cases hi2 : i < m
  · exact h i (by omega)
  · exact mlBad_short (by omega)
theorem mlBad_eq' {l l' : List IS} {p k : Nat} {e f : IS} {r1 r2 : Bool} (he : l[k]? = some e) (hf : l'[k]? = some f) (h1 : decide (p ≤ k) = r1) (h2 : (e.n == f.n) = r2) : mlBad l l' p k = (r2 && r1) := by
  rw [mlBad_eq he hf h1 h2, Bool.and_comm]
end Go.Proofs.Ytgcliipdkoefaaa
