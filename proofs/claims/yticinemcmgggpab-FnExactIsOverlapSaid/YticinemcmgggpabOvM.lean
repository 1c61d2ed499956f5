/-
  Contracts: l8Majority of the reference, meet of the program.
-/
import Derived.Test.YticinemcmgggpabSlC
import Derived.Test.YticinemcmgggpabSlD
namespace Go.Proofs.Yticinemcmgggpab
open Go.ChangeShapes Go.WideShapes Go.ChangeAt Go.RowKit Go.BigFrame
set_option linter.unusedVariables false

theorem l8Majority_any (n : Int) (h : 0 ≤ n) (h2 : n ≤ 1000000) (w : World) : Calls Try.prog 38 #[.int .i64 n] w fun e w' => e = .returned (.int .i64 (n / 2 + 1)) ∧ Below w.heap.size w w' := by
  go_enter Try.func38, Try.ntmps38
  go_wp2_with fail
  go_ret
  exact ⟨rfl, Below.refl _ _⟩

theorem meet1_pred (b : List Int) (w0 : World) (S : Nat → Prop) (hS : ∀ b, S b → b < w0.heap.size) (B : Nat) (hB : B < w0.heap.size) (A : Option Addr) (n c : Nat) (hc : w0.cell? ⟨B, 0, none⟩ = some (.slice A n c)) (hl0 : RepL w0 S b A n c) :
    Pred Try.prog 51 #[.pointer (some ⟨B, 0, none⟩)] (fun x : Int => .int .i64 x) Flat.ok (fun x => !b.any (fun y => y == x)) w0 := by
  intro W x _ hW
  have key : ∀ r, b.any (fun y => y == x) = r → Calls Try.prog 51 #[.int .i64 x, .pointer (some ⟨B, 0, none⟩)] W fun e w' => e = .returned (.bool (!r)) ∧ Below W.heap.size W w' := by
    intro r hr
    have Hr := Lib.hid hr
    have hc' : W.cell? ⟨B, 0, none⟩ = some (.slice A n c) := (hW.cell (p := ⟨B, 0, none⟩) hB).trans hc
    have hl := Lib.hid (hl0.keep (w' := W) (fun p hp => hW.cell (hS _ hp)))
    clear hr
    go_enter Try.func51, Try.ntmps51
    go_wp2_with fail
    refine (containsInt_any b x _ Hr.out _ S (fun y hy => Nat.lt_of_lt_of_le (hS y hy) hW.size) A n c hl.out).mono ?_
    rintro e w1 ⟨rfl, b1⟩
    go_wp2_with fail
    go_ret
    exact ⟨rfl, b1⟩
  have h := key _ rfl
  have e : (#[Value.int .i64 x] ++ #[.pointer (some ⟨B, 0, none⟩)] : Array Value) = #[.int .i64 x, .pointer (some ⟨B, 0, none⟩)] := rfl
  rw [← e] at h
  exact h

theorem filter_any (p : Int → Bool) (a : List Int) : decide (0 < (a.filter p).length) = a.any p := by
  induction a with
  | nil => rfl
  | cons x xs ih =>
    rw [List.any_cons, ← ih]
    cases h : p x <;> simp [h]
/-- Two lists meet. -/
def meets (a b : List Int) : Bool := a.any fun x => b.any fun y => y == x
theorem meet_any (a b : List Int) (w : World) (S : Nat → Prop) (hS : ∀ b, S b → b < w.heap.size) (A A' : Option Addr) (n c n' c' : Nat) (hsm : n ≤ 2000000) (hl0 : RepL w S a A n c) (hl1 : RepL w S b A' n' c') :
    Calls Try.prog 41 #[.slice A n c, .slice A' n' c'] w fun e w' => ∃ A2 m c2, e = .returned (.slice A2 m c2) ∧ decide (0 < m) = meets a b ∧ m ≤ 2000000 ∧ Below w.heap.size w w' := by
  have eg := enters_of Try.func51 (by kernel_rfl) rfl
  obtain ⟨hn, -⟩ := id hl0
  obtain ⟨W, hW⟩ : ∃ W, W = w.alloc (.cells #[.slice A' n' c'] 33) := ⟨_, rfl⟩
  have bW : Below w.heap.size w W := by rw [hW]; exact (Below.refl _ _).alloc (Nat.le_refl _) _
  have hcB : W.cell? ⟨w.heap.size, 0, none⟩ = some (.slice A' n' c') := by rw [hW]; simp
  have hlt : w.heap.size < W.heap.size := by rw [hW]; simp
  have h0 := Lib.hid (hl0.keep (w' := W) (fun p hp => bW.cell (hS _ hp)))
  have h1 := Lib.hid (hl1.keep (w' := W) (fun p hp => bW.cell (hS _ hp)))
  have hSW : ∀ b, S b → b < W.heap.size := fun x hx => Nat.lt_of_lt_of_le (hS x hx) bW.size
  have Hp := Lib.hid (meet1_pred b W S hSW w.heap.size hlt A' n' c' hcB h1.out)
  have HW := Lib.hid hW
  have Hn := Lib.hid hn
  have Hf := Lib.hid (show decide (0 < (a.filter fun x => b.any (fun y => y == x)).length) = meets a b from filter_any _ a)
  clear hW hcB hn
  go_enter Try.func41, Try.ntmps41
  go_wp2_with fail
  rw [← HW.out]
  refine (cloneInt_any a W S hSW A n c h0.out (by omega)).mono ?_
  rintro e w1 ⟨A1, c1, rfl, o1, m1, b1⟩
  go_wp2_with fail
  refine (deleteFuncInt_any (fun x => !b.any (fun y => y == x)) 51 #[.pointer (some ⟨w.heap.size, 0, none⟩)] eg a hl0.ok W w1 b1 _ (Nat.le_refl _) A1 n c1 hsm Hn.out o1 Hp.out).mono ?_
  rintro e w2 ⟨A2, c2, rfl, b2⟩
  go_wp2_with fail
  go_ret
  exact ⟨A2, _, c2, rfl, Hf.out, Nat.le_trans (List.length_filter_le _ _) (by have := Hn.out; omega), bnext bW b2⟩

end Go.Proofs.Yticinemcmgggpab
