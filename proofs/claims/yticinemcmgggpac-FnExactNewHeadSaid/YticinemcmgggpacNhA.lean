/-
  Contracts: NewHead of the reference and of the program; the laws' helpers at heads without rows.
-/
import Derived.Test.YticinemcmgggpacWi
namespace Go.Proofs.Yticinemcmgggpac
open Go.ChangeShapes Go.WideShapes Go.ChangeAt Go.RowKit Go.BigFrame
set_option linter.unusedVariables false

theorem eqRowS_nil (w : World) : Calls Try.prog 11 #[.slice none 0 0, .slice none 0 0] w fun x w' => x = .returned (.bool true) ∧ Below w.heap.size w w' := by
  go_enter Try.func11, Try.ntmps11
  go_wp2_with fail
  go_loopw [5] (fun i wr => i = .int .i64 0 ∧ Below w.heap.size w wr) (fun _ _ => 0)
  case atStart => exact ⟨rfl, Below.refl _ _⟩
  case round =>
    obtain ⟨rfl, hbel⟩ := hrel
    go_wp2_with fail
    go_ret
    exact ⟨rfl, hbel⟩
theorem markRowS_nil (k : Int) (w : World) : Calls Try.prog 12 #[.slice none 0 0, .int .i64 k] w fun x w' => x = .returned (.int .i64 k) ∧ Below w.heap.size w w' := by
  go_enter Try.func12, Try.ntmps12
  go_wp2_with fail
  go_loopw [1, 5] (fun q i wr => i = .int .i64 0 ∧ q = .int .i64 k ∧ Below w.heap.size w wr) (fun _ _ _ => 0)
  case atStart => exact ⟨rfl, rfl, Below.refl _ _⟩
  case round =>
    obtain ⟨rfl, rfl, hbel⟩ := hrel
    go_wp2_with fail
    go_ret
    exact ⟨rfl, hbel⟩
theorem heldRowS_nil (k : Int) (w : World) : Calls Try.prog 13 #[.slice none 0 0, .int .i64 k] w fun x w' => x = .returned (.int .i64 k) ∧ Below w.heap.size w w' := by
  go_enter Try.func13, Try.ntmps13
  go_wp2_with fail
  go_loopw [1, 5] (fun q i wr => i = .int .i64 0 ∧ q = .int .i64 k ∧ Below w.heap.size w wr) (fun _ _ _ => 0)
  case atStart => exact ⟨rfl, rfl, Below.refl _ _⟩
  case round =>
    obtain ⟨rfl, rfl, hbel⟩ := hrel
    go_wp2_with fail
    go_ret
    exact ⟨rfl, hbel⟩
theorem eqHead_nil (o : Int) (w : World) : Calls Try.prog 6 #[.agg #[.slice none 0 0, .int .i64 o], .agg #[.slice none 0 0, .int .i64 o]] w fun x w' => x = .returned (.bool true) ∧ Below w.heap.size w w' := by
  have hne : (o != o) = false := by simp
  go_enter Try.func6, Try.ntmps6
  go_wp2_with (go_at_call 11; refine (eqRowS_nil _).mono ?_; rintro e w1 ⟨rfl, b1⟩; (have hc0 := b1.cell (p := ⟨w.heap.size, 1, none⟩) (by simp <;> omega)); (have hc1 := b1.cell (p := ⟨w.heap.size + 1, 1, none⟩) (by simp)); simp at hc0 hc1)
  go_ret
  refine ⟨rfl, ?_⟩
  have b0 : Below w.heap.size w ((w.alloc (.cells #[.slice none 0 0, .int .i64 o] 24)).alloc (.cells #[.slice none 0 0, .int .i64 o] 24)) := ((Below.refl _ w).alloc (Nat.le_refl _) _).alloc (by simp) _
  exact b0.trans (b1.mono b0.size)
theorem markHead_nil (o k : Int) (w : World) : Calls Try.prog 7 #[.agg #[.slice none 0 0, .int .i64 o], .int .i64 k] w fun x w' => x = .returned (.int .i64 k) ∧ Below w.heap.size w w' := by
  go_enter Try.func7, Try.ntmps7
  go_wp2_with (go_at_call 12; refine (markRowS_nil _ _).mono ?_; rintro e w1 ⟨rfl, b1⟩)
  go_ret
  refine ⟨rfl, ?_⟩
  have b0 : Below w.heap.size w (w.alloc (.cells #[.slice none 0 0, .int .i64 o] 24)) := (Below.refl _ w).alloc (Nat.le_refl _) _
  exact b0.trans (b1.mono b0.size)
theorem heldHead_nil (o k : Int) (h0 : 0 ≤ k) (w : World) : Calls Try.prog 8 #[.agg #[.slice none 0 0, .int .i64 o], .int .i64 k] w fun x w' => x = .returned (.int .i64 k) ∧ Below w.heap.size w w' := by
  go_enter Try.func8, Try.ntmps8
  go_wp2_with (go_at_call 13; refine (heldRowS_nil _ _).mono ?_; rintro e w1 ⟨rfl, b1⟩)
  go_ret
  refine ⟨rfl, ?_⟩
  have b0 : Below w.heap.size w (w.alloc (.cells #[.slice none 0 0, .int .i64 o] 24)) := (Below.refl _ w).alloc (Nat.le_refl _) _
  exact b0.trans (b1.mono b0.size)

/-- What NewHead answers. -/
def nhOk (o : Int) : Bool := decide (0 ≤ o ∧ o ≤ 1000)
def nhInt (o : Int) : Int := if nhOk o then o else 0

theorem spec_NewHead_any (o : Int) (h : I64 o) (w : World) : Calls Try.prog 4 #[.int .i64 o] w fun x w' => x = .returned (.tuple #[.agg #[.slice none 0 0, .int .i64 (nhInt o)], .bool (nhOk o)]) ∧ Below w.heap.size w w' := by
  obtain ⟨r, hr⟩ : ∃ r, decide (0 ≤ o ∧ o ≤ 1000) = r := ⟨_, rfl⟩
  have Hok := Lib.hid (show nhOk o = r from hr)
  have Hr := Lib.hid hr
  clear hr
  cases r with
  | true =>
    have Hi := Lib.hid (show nhInt o = o by unfold nhInt; rw [Hok.out]; rfl)
    rw [Hi.out, Hok.out]
    go_enter Try.func4, Try.ntmps4
    go_wp2_with fail
    refine (l1In_any _ _ _ _ Hr.out _).mono ?_
    rintro e w1 ⟨rfl, b1⟩
    have hc0 := b1.cell (p := ⟨w.heap.size, 0, none⟩) (by simp)
    have hc1 := b1.cell (p := ⟨w.heap.size, 1, none⟩) (by simp)
    have hf0 := b1.frozen (p := ⟨w.heap.size, 0, none⟩) (by simp)
    have hf1 := b1.frozen (p := ⟨w.heap.size, 1, none⟩) (by simp)
    simp at hc0 hc1 hf0 hf1
    go_wp2_with fail
    have b0 : Below w.heap.size w (w.alloc (.cells #[.slice none 0 0, .int .i64 0] 24)) := (Below.refl _ w).alloc (Nat.le_refl _) _
    refine bodyPost_ret (v := .tuple #[.agg #[.slice none 0 0, .int .i64 o], .bool true]) (by simp [results, Try.results4, go_sem, hc0, hc1]) rfl ⟨rfl, ?_⟩
    exact ((b0.trans (b1.mono b0.size)).setCell (Nat.le_refl _) _).setCell (Nat.le_refl _) _
  | false =>
    have Hi := Lib.hid (show nhInt o = 0 by unfold nhInt; rw [Hok.out]; rfl)
    rw [Hi.out, Hok.out]
    go_enter Try.func4, Try.ntmps4
    go_wp2_with fail
    refine (l1In_any _ _ _ _ Hr.out _).mono ?_
    rintro e w1 ⟨rfl, b1⟩
    have hc0 := b1.cell (p := ⟨w.heap.size, 0, none⟩) (by simp)
    have hc1 := b1.cell (p := ⟨w.heap.size, 1, none⟩) (by simp)
    have hf0 := b1.frozen (p := ⟨w.heap.size, 0, none⟩) (by simp)
    have hf1 := b1.frozen (p := ⟨w.heap.size, 1, none⟩) (by simp)
    simp at hc0 hc1 hf0 hf1
    go_wp2_with fail
    have b0 : Below w.heap.size w (w.alloc (.cells #[.slice none 0 0, .int .i64 0] 24)) := (Below.refl _ w).alloc (Nat.le_refl _) _
    refine bodyPost_ret (v := .tuple #[.agg #[.slice none 0 0, .int .i64 0], .bool false]) (by simp [results, Try.results4, go_sem, hc0, hc1]) rfl ⟨rfl, ?_⟩
    exact ((b0.trans (b1.mono b0.size)).setCell (Nat.le_refl _) _).setCell (Nat.le_refl _) _

theorem impl_NewHead_any (o : Int) (h : I64 o) (w : World) : Calls Try.prog 5 #[.int .i64 o] w fun x w' => x = .returned (.tuple #[.agg #[.slice none 0 0, .int .i64 (nhInt o)], .bool (nhOk o)]) ∧ Below w.heap.size w w' := by
  obtain ⟨r, hr⟩ : ∃ r, decide (0 ≤ o ∧ o ≤ 1000) = r := ⟨_, rfl⟩
  have Hok := Lib.hid (show nhOk o = r from hr)
  have Hr := Lib.hid hr
  clear hr
  cases r with
  | true =>
    have Hi := Lib.hid (show nhInt o = o by unfold nhInt; rw [Hok.out]; rfl)
    rw [Hi.out, Hok.out]
    go_enter Try.func5, Try.ntmps5
    go_wp2_with fail
    refine (within_any _ _ _ _ Hr.out _).mono ?_
    rintro e w1 ⟨rfl, b1⟩
    have hc0 := b1.cell (p := ⟨w.heap.size, 0, none⟩) (by simp)
    have hc1 := b1.cell (p := ⟨w.heap.size, 1, none⟩) (by simp)
    have hf0 := b1.frozen (p := ⟨w.heap.size, 0, none⟩) (by simp)
    have hf1 := b1.frozen (p := ⟨w.heap.size, 1, none⟩) (by simp)
    simp at hc0 hc1 hf0 hf1
    go_wp2_with fail
    have b0 : Below w.heap.size w (w.alloc (.cells #[.slice none 0 0, .int .i64 0] 24)) := (Below.refl _ w).alloc (Nat.le_refl _) _
    refine bodyPost_ret (v := .tuple #[.agg #[.slice none 0 0, .int .i64 o], .bool true]) (by simp [results, Try.results5, go_sem, hc0, hc1]) rfl ⟨rfl, ?_⟩
    exact ((b0.trans (b1.mono b0.size)).setCell (Nat.le_refl _) _).setCell (Nat.le_refl _) _
  | false =>
    have Hi := Lib.hid (show nhInt o = 0 by unfold nhInt; rw [Hok.out]; rfl)
    rw [Hi.out, Hok.out]
    go_enter Try.func5, Try.ntmps5
    go_wp2_with fail
    refine (within_any _ _ _ _ Hr.out _).mono ?_
    rintro e w1 ⟨rfl, b1⟩
    have hc0 := b1.cell (p := ⟨w.heap.size, 0, none⟩) (by simp)
    have hc1 := b1.cell (p := ⟨w.heap.size, 1, none⟩) (by simp)
    have hf0 := b1.frozen (p := ⟨w.heap.size, 0, none⟩) (by simp)
    have hf1 := b1.frozen (p := ⟨w.heap.size, 1, none⟩) (by simp)
    simp at hc0 hc1 hf0 hf1
    go_wp2_with fail
    have b0 : Below w.heap.size w (w.alloc (.cells #[.slice none 0 0, .int .i64 0] 24)) := (Below.refl _ w).alloc (Nat.le_refl _) _
    refine bodyPost_ret (v := .tuple #[.agg #[.slice none 0 0, .int .i64 0], .bool false]) (by simp [results, Try.results5, go_sem, hc0, hc1]) rfl ⟨rfl, ?_⟩
    exact ((b0.trans (b1.mono b0.size)).setCell (Nat.le_refl _) _).setCell (Nat.le_refl _) _

end Go.Proofs.Yticinemcmgggpac
