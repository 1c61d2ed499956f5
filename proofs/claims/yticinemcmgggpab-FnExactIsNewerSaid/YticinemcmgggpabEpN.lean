/-
  Contracts: IsNewer of the reference and of the program.
-/
import Derived.Test.YticinemcmgggpabEnB
namespace Go.Proofs.Yticinemcmgggpab
open Go.ChangeShapes Go.WideShapes Go.ChangeAt Go.RowKit Go.BigFrame
set_option linter.unusedVariables false

/-- The last epoch, 0 for none. -/
def lastN (l : List IS) : Int := match l[l.length - 1]? with | some e => e.n | none => 0
theorem lastN_get {l : List IS} {k : Nat} {e : IS} (hk : k + 1 = l.length) (he : l[k]? = some e) : lastN l = e.n := by
  unfold lastN
  rw [show l.length - 1 = k by omega, he]
theorem lastN_nil {l : List IS} (h : l.length = 0) : lastN l = 0 := by
  obtain rfl := List.eq_nil_of_length_eq_zero h
  rfl
/-- The first list is newer. -/
def newer (a b : List IS) : Bool := decide (lastN b < lastN a) || (decide (lastN a = lastN b) && decide (b.length < a.length))

theorem l7Last_any (l : List IS) (r : Int) (hr : lastN l = r) (w : World) (S : Nat → Prop) (hS : ∀ b, S b → b < w.heap.size) (A : Option Addr) (n c : Nat) (hl0 : RepL w S l A n c) :
    Calls Try.prog 48 #[.slice A n c] w fun x w' => x = .returned (.int .i64 r) ∧ Below w.heap.size w w' := by
  have hbd := hl0.bd
  obtain ⟨hn, -⟩ := id hl0
  have Hn := Lib.hid hn
  have Hr := Lib.hid hr
  clear hn hr
  by_cases hz : n = 0
  · have hz1 : ((n : Int) == 0) = true := by simp [hz]
    have Hf := Lib.hid (show r = 0 by rw [← Hr.out]; exact lastN_nil (by have := Hn.out; omega))
    clear hz
    go_enter Try.func48, Try.ntmps48
    go_wp2
    go_ret
    exact ⟨by rw [Hf.out]; rfl, Below.refl _ _⟩
  · have hz1 : ((n : Int) == 0) = false := by simp [hz]
    obtain ⟨k, hk⟩ : ∃ k, k + 1 = n := ⟨n - 1, by omega⟩
    have hsub : IntKind.i64.wrap ((n : Int) - 1) = (k : Int) := by rw [IntKind.wrap_i64]; omega
    have hsub' : (n : Int) - 1 = (k : Int) := by omega
    have hk0 : k < n := by omega
    have hl1 : k < l.length := by have := Hn.out; omega
    obtain ⟨b, off, xs, rfl, hSb, hc, rfl, hi1, hi2⟩ := hl0.at_ hl1
    have hc0 : w.cell? ⟨b, off + k * 2, none⟩ = some (.int .i64 l[k].n) := hc 0 _ rfl
    have Hf := Lib.hid (show r = l[k].n by rw [← Hr.out]; exact lastN_get (by have := Hn.out; omega) (List.getElem?_eq_getElem hl1))
    clear hc hi1 hi2 hz hk
    go_enter Try.func48, Try.ntmps48
    go_wp2
    go_ret
    exact ⟨by rw [Hf.out]; rfl, Below.refl _ _⟩

theorem lastEpoch_any (l : List IS) (r : Int) (hr : lastN l = r) (w : World) (S : Nat → Prop) (hS : ∀ b, S b → b < w.heap.size) (A : Option Addr) (n c : Nat) (hl0 : RepL w S l A n c) :
    Calls Try.prog 49 #[.slice A n c] w fun x w' => x = .returned (.int .i64 r) ∧ Below w.heap.size w w' := by
  have hbd := hl0.bd
  obtain ⟨hn, -⟩ := id hl0
  have Hn := Lib.hid hn
  have Hr := Lib.hid hr
  clear hn hr
  by_cases hz : n = 0
  · have hz1 : ((n : Int) == 0) = true := by simp [hz]
    have Hf := Lib.hid (show r = 0 by rw [← Hr.out]; exact lastN_nil (by have := Hn.out; omega))
    clear hz
    go_enter Try.func49, Try.ntmps49
    go_wp2
    go_ret
    exact ⟨by rw [Hf.out]; rfl, Below.refl _ _⟩
  · have hz1 : ((n : Int) == 0) = false := by simp [hz]
    obtain ⟨k, hk⟩ : ∃ k, k + 1 = n := ⟨n - 1, by omega⟩
    have hsub : IntKind.i64.wrap ((n : Int) - 1) = (k : Int) := by rw [IntKind.wrap_i64]; omega
    have hsub' : (n : Int) - 1 = (k : Int) := by omega
    have hk0 : k < n := by omega
    have hl1 : k < l.length := by have := Hn.out; omega
    obtain ⟨b, off, xs, rfl, hSb, hc, rfl, hi1, hi2⟩ := hl0.at_ hl1
    have hc0 : w.cell? ⟨b, off + k * 2, none⟩ = some (.int .i64 l[k].n) := hc 0 _ rfl
    have Hf := Lib.hid (show r = l[k].n by rw [← Hr.out]; exact lastN_get (by have := Hn.out; omega) (List.getElem?_eq_getElem hl1))
    clear hc hi1 hi2 hz hk
    go_enter Try.func49, Try.ntmps49
    go_wp2
    go_ret
    exact ⟨by rw [Hf.out]; rfl, Below.refl _ _⟩

theorem l7Newer_any (l l' : List IS) (w : World) (S : Nat → Prop) (hS : ∀ b, S b → b < w.heap.size) (A A' : Option Addr) (n c n' c' : Nat) (hl0 : RepL w S l A n c) (hl1 : RepL w S l' A' n' c') :
    Calls Try.prog 35 #[.slice A n c, .slice A' n' c'] w fun x w' => x = .returned (.bool (newer l l')) ∧ Below w.heap.size w w' := by
  have hbd := hl0.bd
  have hbd' := hl1.bd
  obtain ⟨hn, -⟩ := id hl0
  obtain ⟨hn', -⟩ := id hl1
  obtain ⟨x, hx⟩ : ∃ x, lastN l = x := ⟨_, rfl⟩
  obtain ⟨y, hy⟩ : ∃ y, lastN l' = y := ⟨_, rfl⟩
  have Hn := Lib.hid (show newer l l' = (decide (y < x) || (decide (x = y) && decide (n' < n))) by unfold newer; rw [hx, hy, hn, hn'])
  have Hx := Lib.hid hx
  have Hy := Lib.hid hy
  clear hx hy hn hn'
  by_cases h1 : y < x
  · have d1 : decide (y < x) = true := decide_eq_true h1
    have Hf := Lib.hid (show newer l l' = true by rw [Hn.out, d1]; rfl)
    go_enter Try.func35, Try.ntmps35
    go_wp2_with fail
    refine (l7Last_any l x Hx.out w S (fun b hb => hS b hb) A n c hl0).mono ?_
    rintro e w1 ⟨rfl, b1⟩
    have bb1 := b1
    go_wp2_with fail
    refine (l7Last_any l' y Hy.out w1 S (fun b hb => Nat.lt_of_lt_of_le (hS b hb) bb1.size) A' n' c' (hl1.keep (fun p hp => bb1.cell (hS _ hp)))).mono ?_
    rintro e w2 ⟨rfl, b2⟩
    have bb2 := bnext bb1 b2
    go_wp2_with fail
    go_ret
    exact ⟨by rw [Hf.out]; rfl, bb2⟩
  · have d1 : decide (y < x) = false := decide_eq_false h1
    by_cases h2 : x = y
    · have d2 : (x == y) = true := by simp [h2]
      by_cases h3 : n' < n
      · have d3 : decide (n' < n) = true := decide_eq_true h3
        have Hf := Lib.hid (show newer l l' = true by rw [Hn.out, d1, d3, decide_eq_true h2]; rfl)
        clear h2
        go_enter Try.func35, Try.ntmps35
        go_wp2_with fail
        refine (l7Last_any l x Hx.out w S (fun b hb => hS b hb) A n c hl0).mono ?_
        rintro e w1 ⟨rfl, b1⟩
        have bb1 := b1
        go_wp2_with fail
        refine (l7Last_any l' y Hy.out w1 S (fun b hb => Nat.lt_of_lt_of_le (hS b hb) bb1.size) A' n' c' (hl1.keep (fun p hp => bb1.cell (hS _ hp)))).mono ?_
        rintro e w2 ⟨rfl, b2⟩
        have bb2 := bnext bb1 b2
        go_wp2_with fail
        refine (l7Last_any l x Hx.out w2 S (fun b hb => Nat.lt_of_lt_of_le (hS b hb) bb2.size) A n c (hl0.keep (fun p hp => bb2.cell (hS _ hp)))).mono ?_
        rintro e w3 ⟨rfl, b3⟩
        have bb3 := bnext bb2 b3
        go_wp2_with fail
        refine (l7Last_any l' y Hy.out w3 S (fun b hb => Nat.lt_of_lt_of_le (hS b hb) bb3.size) A' n' c' (hl1.keep (fun p hp => bb3.cell (hS _ hp)))).mono ?_
        rintro e w4 ⟨rfl, b4⟩
        have bb4 := bnext bb3 b4
        go_wp2_with fail
        go_ret
        exact ⟨by rw [Hf.out]; rfl, bb4⟩
      · have d3 : decide (n' < n) = false := decide_eq_false h3
        have Hf := Lib.hid (show newer l l' = false by rw [Hn.out, d1, d3, decide_eq_true h2]; rfl)
        clear h2
        go_enter Try.func35, Try.ntmps35
        go_wp2_with fail
        refine (l7Last_any l x Hx.out w S (fun b hb => hS b hb) A n c hl0).mono ?_
        rintro e w1 ⟨rfl, b1⟩
        have bb1 := b1
        go_wp2_with fail
        refine (l7Last_any l' y Hy.out w1 S (fun b hb => Nat.lt_of_lt_of_le (hS b hb) bb1.size) A' n' c' (hl1.keep (fun p hp => bb1.cell (hS _ hp)))).mono ?_
        rintro e w2 ⟨rfl, b2⟩
        have bb2 := bnext bb1 b2
        go_wp2_with fail
        refine (l7Last_any l x Hx.out w2 S (fun b hb => Nat.lt_of_lt_of_le (hS b hb) bb2.size) A n c (hl0.keep (fun p hp => bb2.cell (hS _ hp)))).mono ?_
        rintro e w3 ⟨rfl, b3⟩
        have bb3 := bnext bb2 b3
        go_wp2_with fail
        refine (l7Last_any l' y Hy.out w3 S (fun b hb => Nat.lt_of_lt_of_le (hS b hb) bb3.size) A' n' c' (hl1.keep (fun p hp => bb3.cell (hS _ hp)))).mono ?_
        rintro e w4 ⟨rfl, b4⟩
        have bb4 := bnext bb3 b4
        go_wp2_with fail
        go_ret
        exact ⟨by rw [Hf.out]; rfl, bb4⟩
    · have d2 : (x == y) = false := by simp [h2]
      have Hf := Lib.hid (show newer l l' = false by rw [Hn.out, d1, decide_eq_false h2]; rfl)
      clear h2
      go_enter Try.func35, Try.ntmps35
      go_wp2_with fail
      refine (l7Last_any l x Hx.out w S (fun b hb => hS b hb) A n c hl0).mono ?_
      rintro e w1 ⟨rfl, b1⟩
      have bb1 := b1
      go_wp2_with fail
      refine (l7Last_any l' y Hy.out w1 S (fun b hb => Nat.lt_of_lt_of_le (hS b hb) bb1.size) A' n' c' (hl1.keep (fun p hp => bb1.cell (hS _ hp)))).mono ?_
      rintro e w2 ⟨rfl, b2⟩
      have bb2 := bnext bb1 b2
      go_wp2_with fail
      refine (l7Last_any l x Hx.out w2 S (fun b hb => Nat.lt_of_lt_of_le (hS b hb) bb2.size) A n c (hl0.keep (fun p hp => bb2.cell (hS _ hp)))).mono ?_
      rintro e w3 ⟨rfl, b3⟩
      have bb3 := bnext bb2 b3
      go_wp2_with fail
      refine (l7Last_any l' y Hy.out w3 S (fun b hb => Nat.lt_of_lt_of_le (hS b hb) bb3.size) A' n' c' (hl1.keep (fun p hp => bb3.cell (hS _ hp)))).mono ?_
      rintro e w4 ⟨rfl, b4⟩
      have bb4 := bnext bb3 b4
      go_wp2_with fail
      go_ret
      exact ⟨by rw [Hf.out]; rfl, bb4⟩

theorem isNewer_any (l l' : List IS) (w : World) (S : Nat → Prop) (hS : ∀ b, S b → b < w.heap.size) (A A' : Option Addr) (n c n' c' : Nat) (hl0 : RepL w S l A n c) (hl1 : RepL w S l' A' n' c') :
    Calls Try.prog 36 #[.slice A n c, .slice A' n' c'] w fun x w' => x = .returned (.bool (newer l l')) ∧ Below w.heap.size w w' := by
  have hbd := hl0.bd
  have hbd' := hl1.bd
  obtain ⟨hn, -⟩ := id hl0
  obtain ⟨hn', -⟩ := id hl1
  obtain ⟨x, hx⟩ : ∃ x, lastN l = x := ⟨_, rfl⟩
  obtain ⟨y, hy⟩ : ∃ y, lastN l' = y := ⟨_, rfl⟩
  have Hn := Lib.hid (show newer l l' = (decide (y < x) || (decide (x = y) && decide (n' < n))) by unfold newer; rw [hx, hy, hn, hn'])
  have Hx := Lib.hid hx
  have Hy := Lib.hid hy
  clear hx hy hn hn'
  by_cases h1 : y < x
  · have d1 : decide (y < x) = true := decide_eq_true h1
    have Hf := Lib.hid (show newer l l' = true by rw [Hn.out, d1]; rfl)
    go_enter Try.func36, Try.ntmps36
    go_wp2_with fail
    refine (lastEpoch_any l x Hx.out w S (fun b hb => hS b hb) A n c hl0).mono ?_
    rintro e w1 ⟨rfl, b1⟩
    have bb1 := b1
    go_wp2_with fail
    refine (lastEpoch_any l' y Hy.out w1 S (fun b hb => Nat.lt_of_lt_of_le (hS b hb) bb1.size) A' n' c' (hl1.keep (fun p hp => bb1.cell (hS _ hp)))).mono ?_
    rintro e w2 ⟨rfl, b2⟩
    have bb2 := bnext bb1 b2
    go_wp2_with fail
    go_ret
    exact ⟨by rw [Hf.out]; rfl, bb2⟩
  · have d1 : decide (y < x) = false := decide_eq_false h1
    by_cases h2 : x = y
    · have d2 : (x == y) = true := by simp [h2]
      by_cases h3 : n' < n
      · have d3 : decide (n' < n) = true := decide_eq_true h3
        have Hf := Lib.hid (show newer l l' = true by rw [Hn.out, d1, d3, decide_eq_true h2]; rfl)
        clear h2
        go_enter Try.func36, Try.ntmps36
        go_wp2_with fail
        refine (lastEpoch_any l x Hx.out w S (fun b hb => hS b hb) A n c hl0).mono ?_
        rintro e w1 ⟨rfl, b1⟩
        have bb1 := b1
        go_wp2_with fail
        refine (lastEpoch_any l' y Hy.out w1 S (fun b hb => Nat.lt_of_lt_of_le (hS b hb) bb1.size) A' n' c' (hl1.keep (fun p hp => bb1.cell (hS _ hp)))).mono ?_
        rintro e w2 ⟨rfl, b2⟩
        have bb2 := bnext bb1 b2
        go_wp2_with fail
        go_ret
        exact ⟨by rw [Hf.out]; rfl, bb2⟩
      · have d3 : decide (n' < n) = false := decide_eq_false h3
        have Hf := Lib.hid (show newer l l' = false by rw [Hn.out, d1, d3, decide_eq_true h2]; rfl)
        clear h2
        go_enter Try.func36, Try.ntmps36
        go_wp2_with fail
        refine (lastEpoch_any l x Hx.out w S (fun b hb => hS b hb) A n c hl0).mono ?_
        rintro e w1 ⟨rfl, b1⟩
        have bb1 := b1
        go_wp2_with fail
        refine (lastEpoch_any l' y Hy.out w1 S (fun b hb => Nat.lt_of_lt_of_le (hS b hb) bb1.size) A' n' c' (hl1.keep (fun p hp => bb1.cell (hS _ hp)))).mono ?_
        rintro e w2 ⟨rfl, b2⟩
        have bb2 := bnext bb1 b2
        go_wp2_with fail
        go_ret
        exact ⟨by rw [Hf.out]; rfl, bb2⟩
    · have d2 : (x == y) = false := by simp [h2]
      have Hf := Lib.hid (show newer l l' = false by rw [Hn.out, d1, decide_eq_false h2]; rfl)
      clear h2
      go_enter Try.func36, Try.ntmps36
      go_wp2_with fail
      refine (lastEpoch_any l x Hx.out w S (fun b hb => hS b hb) A n c hl0).mono ?_
      rintro e w1 ⟨rfl, b1⟩
      have bb1 := b1
      go_wp2_with fail
      refine (lastEpoch_any l' y Hy.out w1 S (fun b hb => Nat.lt_of_lt_of_le (hS b hb) bb1.size) A' n' c' (hl1.keep (fun p hp => bb1.cell (hS _ hp)))).mono ?_
      rintro e w2 ⟨rfl, b2⟩
      have bb2 := bnext bb1 b2
      go_wp2_with fail
      go_ret
      exact ⟨by rw [Hf.out]; rfl, bb2⟩

theorem spec_IsNewer_any (l l' : List IS) (w : World) (S : Nat → Prop) (hS : ∀ b, S b → b < w.heap.size) (A A' : Option Addr) (n c n' c' : Nat) (hl0 : RepL w S l A n c) (hl1 : RepL w S l' A' n' c') :
    Calls Try.prog 13 #[.slice A n c, .slice A' n' c'] w fun x w' => x = .returned (.tuple #[.bool ((goodEn l && goodEn l') && newer l l'), .bool (goodEn l && goodEn l')]) ∧ Below w.heap.size w w' := by
  have C1 := Lib.hid (l7Both_any l l' w S hS A A' n c n' c' hl0 hl1)
  obtain ⟨r, hr⟩ : ∃ r, (goodEn l && goodEn l') = r := ⟨_, rfl⟩
  rw [hr] at C1 ⊢
  clear hr
  cases r with
  | true =>
    rw [Bool.true_and]
    go_enter Try.func13, Try.ntmps13
    go_wp2_with fail
    refine C1.out.mono ?_
    rintro e w1 ⟨rfl, b1⟩
    go_wp2_with fail
    refine (l7Newer_any l l' w1 S (fun b hb => Nat.lt_of_lt_of_le (hS b hb) b1.size) A A' n c n' c' (hl0.keep (fun p hp => b1.cell (hS _ hp))) (hl1.keep (fun p hp => b1.cell (hS _ hp)))).mono ?_
    rintro e w2 ⟨rfl, b2⟩
    go_wp2_with fail
    go_ret2
    exact ⟨rfl, bnext b1 b2⟩
  | false =>
    rw [Bool.false_and]
    go_enter Try.func13, Try.ntmps13
    go_wp2_with fail
    refine C1.out.mono ?_
    rintro e w1 ⟨rfl, b1⟩
    go_wp2_with fail
    go_ret2
    exact ⟨rfl, b1⟩

theorem impl_IsNewer_any (l l' : List IS) (w : World) (S : Nat → Prop) (hS : ∀ b, S b → b < w.heap.size) (A A' : Option Addr) (n c n' c' : Nat) (hl0 : RepL w S l A n c) (hl1 : RepL w S l' A' n' c') :
    Calls Try.prog 14 #[.slice A n c, .slice A' n' c'] w fun x w' => x = .returned (.tuple #[.bool ((goodEn l && goodEn l') && newer l l'), .bool (goodEn l && goodEn l')]) ∧ Below w.heap.size w w' := by
  have C1 := Lib.hid (areEntries_any l w S hS A n c hl0)
  obtain ⟨r, hr⟩ : ∃ r, goodEn l = r := ⟨_, rfl⟩
  obtain ⟨q, hq⟩ : ∃ q, goodEn l' = q := ⟨_, rfl⟩
  rw [hr] at C1 ⊢
  rw [hq]
  have Hq := Lib.hid hq
  clear hr hq
  cases r with
  | true =>
    cases q with
    | true =>
      rw [Bool.true_and, Bool.true_and]
      go_enter Try.func14, Try.ntmps14
      go_wp2_with fail
      refine C1.out.mono ?_
      rintro e w1 ⟨rfl, b1⟩
      have h1 := hl1.keep (w' := w1) (fun p hp => b1.cell (hS _ hp))
      go_wp2_with fail
      refine (areEntries_any l' w1 S (fun b hb => Nat.lt_of_lt_of_le (hS b hb) b1.size) A' n' c' h1).mono ?_
      rintro e w2 ⟨rfl, b2⟩
      rw [Hq.out]
      have b12 := bnext b1 b2
      go_wp2_with fail
      refine (isNewer_any l l' w2 S (fun b hb => Nat.lt_of_lt_of_le (hS b hb) b12.size) A A' n c n' c' (hl0.keep (fun p hp => b12.cell (hS _ hp))) (hl1.keep (fun p hp => b12.cell (hS _ hp)))).mono ?_
      rintro e w3 ⟨rfl, b3⟩
      go_wp2_with fail
      go_ret2
      exact ⟨rfl, bnext b12 b3⟩
    | false =>
      rw [Bool.and_false, Bool.false_and]
      go_enter Try.func14, Try.ntmps14
      go_wp2_with fail
      refine C1.out.mono ?_
      rintro e w1 ⟨rfl, b1⟩
      have h1 := hl1.keep (w' := w1) (fun p hp => b1.cell (hS _ hp))
      go_wp2_with fail
      refine (areEntries_any l' w1 S (fun b hb => Nat.lt_of_lt_of_le (hS b hb) b1.size) A' n' c' h1).mono ?_
      rintro e w2 ⟨rfl, b2⟩
      rw [Hq.out]
      go_wp2_with fail
      go_ret2
      exact ⟨rfl, bnext b1 b2⟩
  | false =>
    rw [Bool.false_and, Bool.false_and]
    go_enter Try.func14, Try.ntmps14
    go_wp2_with fail
    refine C1.out.mono ?_
    rintro e w1 ⟨rfl, b1⟩
    go_wp2_with fail
    go_ret2
    exact ⟨rfl, b1⟩

end Go.Proofs.Yticinemcmgggpab
