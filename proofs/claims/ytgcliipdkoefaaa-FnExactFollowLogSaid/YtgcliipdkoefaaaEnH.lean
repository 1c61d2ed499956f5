/-
  Contract: heldEntryS finds what markEntryS wrote.
-/
import Derived.Test.YtgcliipdkoefaaaEnM
namespace Go.Proofs.Ytgcliipdkoefaaa
open Go.ChangeShapes Go.WideShapes Go.ChangeAt Go.RowKit Go.BigFrame Go.Deep
set_option linter.unusedVariables false

set_option maxHeartbeats 4000000
theorem mkText_size (k : Nat) (hk : 0 < k) (h1 : k ≤ 1000000000) (w : World) : (mkText k).size ≤ 20 := by
  unfold mkText
  have : ∀ (f q : Nat) (s : ByteArray), q * 10 ^ s.size ≤ 1000000000 → s.size ≤ 10 → (digTo f q s).size ≤ 11 := by
    intro f
    induction f with
    | zero => intro q s h h2; exact Nat.le_trans h2 (by omega)
    | succ f ih =>
      intro q s h h2
      unfold digTo
      split
      · omega
      · rename_i hq
        by_cases h9 : s.size ≤ 9
        · apply ih
          · rw [ByteArray.size_append]
            have e : (⟨#[UInt8.ofNat (48 + q % 10)]⟩ : ByteArray).size = 1 := rfl
            rw [e, Nat.add_comm 1, Nat.pow_succ]
            have h3 : q / 10 * 10 ≤ q := Nat.div_mul_le_self q 10
            calc q / 10 * (10 ^ s.size * 10) = (q / 10 * 10) * 10 ^ s.size := by rw [Nat.mul_assoc, Nat.mul_comm 10]
              _ ≤ q * 10 ^ s.size := Nat.mul_le_mul_right _ h3
              _ ≤ _ := h
          · rw [ByteArray.size_append]
            have e : (⟨#[UInt8.ofNat (48 + q % 10)]⟩ : ByteArray).size = 1 := rfl
            omega
        · exfalso
          have h10 : s.size = 10 := by omega
          rw [h10] at h
          have : 1 * 10 ^ 10 ≤ q * 10 ^ 10 := Nat.mul_le_mul_right _ (by omega)
          have e : (10 : Nat) ^ 10 = 10000000000 := by decide
          omega
  rw [ByteArray.size_append]
  have e : (⟨#[109]⟩ : ByteArray).size = 1 := rfl
  have := this k k ⟨#[]⟩ (by show k * 10 ^ 0 ≤ _; omega) (by show 0 ≤ 10; omega)
  omega
theorem upsN_ok (k : Int) (n : Nat) (h0 : 0 ≤ k) (h1 : k + 2 * n + 1 ≤ 1000000000) : ∀ x ∈ upsN k n, (Flat.ok x : Prop) := by
  intro x hx
  simp only [upsN, List.mem_map, List.mem_range] at hx
  obtain ⟨i, hi, rfl⟩ := hx
  refine ⟨⟨by show _ ≤ k + 2 * (i : Int); omega, by show k + 2 * (i : Int) ≤ _; omega⟩, ?_⟩
  have := mkText_size (k + 2 * (i : Int) + 1).toNat (by omega) (by omega) default
  exact Nat.le_trans this (by unfold maxLen; omega)
theorem upsN_get (k : Int) (n i : Nat) (h : i < (upsN k n).length) : (upsN k n)[i] = ⟨k + 2 * (i : Int), mkText (k + 2 * (i : Int) + 1).toNat⟩ := by simp [upsN]
theorem heldEntryS_any (k : Int) (h0 : 0 ≤ k) (h1 : k ≤ 100000000) (w : World) (S : Nat → Prop) (hS : ∀ b, S b → b < w.heap.size) (A : Option Addr) (n c : Nat) (hsm : n ≤ 1048576) (h : RepL w S (upsN k n) A n c) :
    Calls Try.prog 26 #[.slice A n c, .int .i64 k] w fun e w' => e = .returned (.int .i64 (k + 2 * n)) ∧ Below w.heap.size w w' := by
  have hbd := h.bd
  go_enter Try.func26, Try.ntmps26
  go_wp2_with fail
  go_loopw [1, 5] (fun q i wr => ∃ (j m : Nat), j ≤ n ∧ i = .int .i64 j ∧ q = .int .i64 m ∧ (m : Int) = k + 2 * j ∧ Below w.heap.size w wr) (fun _ i _ => n - (intOf i).toNat)
  case atStart => exact ⟨0, k.toNat, Nat.zero_le _, rfl, by rw [Int.toNat_of_nonneg h0], by rw [Int.toNat_of_nonneg h0]; simp, Below.refl _ _⟩
  case round =>
    obtain ⟨j, m, hj, rfl, rfl, hm, hbel⟩ := hrel
    have Hm := Lib.hid hm
    have hm1 : m ≤ 200000000 := by omega
    by_cases hlt : j < n
    · have hl : j < (upsN k n).length := by rw [upsN_len]; exact hlt
      obtain ⟨b, off, xs, rfl, hSb, hc, rfl, -⟩ := h.at_ hl
      have hc0 : wr.cell? ⟨b, off + j * 2, none⟩ = some (.int .i64 m) := by
        have := hc 0 (.int .i64 m) (by rw [upsN_get, hm]; rfl)
        exact (hbel.cell (hS _ hSb)).trans this
      have hc1 : ∀ p : Aft wr, p.world.cell? ⟨b, off + j * 2 + 1, none⟩ = some (.string (mkText (m + 1))) := Aft.cell (by
        have := hc 1 (.string (mkText (m + 1))) (by rw [upsN_get, ← hm, show ((m : Int) + 1).toNat = m + 1 by omega]; rfl)
        exact (hbel.cell (hS _ hSb)).trans this)
      have n0 : ((m : Int) != m) = false := by simp
      have MT := Lib.hid (fun W => (markText_any (m + 1) (by omega) (by omega) W).mono fun e w' h => (⟨h.1, h.2.2⟩ : e = .returned (.string (mkText (m + 1))) ∧ Below W.heap.size W w'))
      rw [show ((m + 1 : Nat) : Int) = (m : Int) + 1 by omega] at MT
      have hjI : (j : Int) < (n : Int) := by omega
      have hj0 : (0 : Int) ≤ (j : Int) := by omega
      clear hc hm
      go_wp2_with fail
      refine wp_region_aft (by kernel_rfl) (by kernel_rfl) ?_
      repeat (go_big_quiet_step ((go_at_call 52; exact Calls.aft (MT.out _))))
      refine wpQuiet_nil ?_
      rintro _ ⟨p, rfl⟩
      have hb2 : Below w.heap.size w p.world := hbel.trans (p.below.mono hbel.size)
      go_wp2_with fail
      go_roundw
      case rel => exact ⟨j + 1, m + 1 + 1, by omega, by go_num, by simp <;> omega, by have := Hm.out; omega, hb2⟩
      case measure => simp [intOf]; omega
    · obtain rfl : j = n := by omega
      clear hm
      go_wp2_with fail
      go_ret
      exact ⟨by rw [← Hm.out]; rfl, hbel⟩
end Go.Proofs.Ytgcliipdkoefaaa
