/-
  Contracts: IsOverlap of the reference and of the program.
-/
import Derived.Test.YticinemcmgggpabRi
import Derived.Test.YticinemcmgggpabHas
import Derived.Test.YticinemcmgggpabOvM
namespace Go.Proofs.Yticinemcmgggpab
open Go.ChangeShapes Go.WideShapes Go.ChangeAt Go.RowKit Go.BigFrame
set_option linter.unusedVariables false

/-- The numbers are as IsOverlap asks. -/
noncomputable def ovOk (n : Int) (a b : List Int) : Bool := decide (1 ≤ n ∧ n ≤ 5) && (rising (n - 1) a && (rising (n - 1) b && (decide (n / 2 < (a.length : Int)) && decide (n / 2 < (b.length : Int)))))
theorem meets_take (a b : List Int) (k : Nat) (hk : k < a.length) : meets (a.take (k + 1)) b = (meets (a.take k) b || b.any fun y => y == a[k]) := by
  unfold meets
  rw [List.take_succ_eq_append_getElem hk, List.any_append]
  simp

theorem spec_IsOverlap_any (n : Int) (hn64 : I64 n) (a b : List Int) (w : World) (S : Nat → Prop) (hS : ∀ b, S b → b < w.heap.size) (A A' : Option Addr) (na c nb c' : Nat) (hl0 : RepL w S a A na c) (hl1 : RepL w S b A' nb c') (hsm : na ≤ 1048576) (hsm' : nb ≤ 1048576) :
    Calls Try.prog 15 #[.int .i64 n, .slice A na c, .slice A' nb c'] w fun x w' => x = .returned (.tuple #[.bool (ovOk n a b && meets a b), .bool (ovOk n a b)]) ∧ Below w.heap.size w w' := by
  obtain ⟨hnl, hnh⟩ := hn64
  have hbd := hl0.bd
  have hbd' := hl1.bd
  obtain ⟨hn, -⟩ := id hl0
  obtain ⟨hn', -⟩ := id hl1
  obtain ⟨h, hh⟩ : ∃ h, n / 2 = h := ⟨_, rfl⟩
  obtain ⟨r0, hr0⟩ : ∃ r, decide (1 ≤ n ∧ n ≤ 5) = r := ⟨_, rfl⟩
  obtain ⟨r1, hr1⟩ : ∃ r, rising (n - 1) a = r := ⟨_, rfl⟩
  obtain ⟨r2, hr2⟩ : ∃ r, rising (n - 1) b = r := ⟨_, rfl⟩
  obtain ⟨r3, hr3⟩ : ∃ r, decide (h < (na : Int)) = r := ⟨_, rfl⟩
  obtain ⟨r4, hr4⟩ : ∃ r, decide (h < (nb : Int)) = r := ⟨_, rfl⟩
  have Hok0 := Lib.hid (show ovOk n a b = (r0 && (r1 && (r2 && (r3 && r4)))) by unfold ovOk; rw [hr0, hr1, hr2, ← hn, ← hn', hh, hr3, hr4])
  have Hn := Lib.hid hn
  have Hn' := Lib.hid hn'
  have R0 := Lib.hid hr0
  have R1 := Lib.hid hr1
  have R2 := Lib.hid hr2
  have R3 := Lib.hid hr3
  have R4 := Lib.hid hr4
  have hh0 : 1 ≤ n → n ≤ 5 → 0 ≤ h ∧ h ≤ 2 := fun h1 h2 => by omega
  clear hn hn' hr0 hr1 hr2 hr3 hr4
  cases r0 with
  | false =>
    have Hok := Lib.hid (show ovOk n a b = false by rw [Hok0.out]; rfl)
    go_enter Try.func15, Try.ntmps15
    go_wp2_with fail
    refine (l1In_any _ _ _ _ R0.out w).mono ?_
    rintro e w1 ⟨rfl, b1⟩
    have BB1 := b1
    go_wp2_with fail
    go_ret2
    exact ⟨by rw [Hok.out]; rfl, BB1⟩
  | true =>
    have hN : 1 ≤ n ∧ n ≤ 5 := of_decide_eq_true R0.out
    obtain ⟨hN1, hN2⟩ := hN
    obtain ⟨hh1, hh2⟩ := hh0 hN1 hN2
    clear hh0
    cases r1 with
    | false =>
      have Hok := Lib.hid (show ovOk n a b = false by rw [Hok0.out]; rfl)
      go_enter Try.func15, Try.ntmps15
      go_wp2_with fail
      refine (l1In_any _ _ _ _ R0.out w).mono ?_
      rintro e w1 ⟨rfl, b1⟩
      have BB1 := b1
      go_wp2_with fail
      refine (l8Rising_any n hN1 (by omega) a _ R1.out w1 S (fun x hx => Nat.lt_of_lt_of_le (hS x hx) BB1.size) A na c (hl0.keep (fun p hp => BB1.cell (hS _ hp)))).mono ?_
      rintro e w2 ⟨rfl, b2⟩
      have BB2 := bnext BB1 b2
      go_wp2_with fail
      go_ret2
      exact ⟨by rw [Hok.out]; rfl, BB2⟩
    | true =>
      cases r2 with
      | false =>
        have Hok := Lib.hid (show ovOk n a b = false by rw [Hok0.out]; rfl)
        go_enter Try.func15, Try.ntmps15
        go_wp2_with fail
        refine (l1In_any _ _ _ _ R0.out w).mono ?_
        rintro e w1 ⟨rfl, b1⟩
        have BB1 := b1
        go_wp2_with fail
        refine (l8Rising_any n hN1 (by omega) a _ R1.out w1 S (fun x hx => Nat.lt_of_lt_of_le (hS x hx) BB1.size) A na c (hl0.keep (fun p hp => BB1.cell (hS _ hp)))).mono ?_
        rintro e w2 ⟨rfl, b2⟩
        have BB2 := bnext BB1 b2
        go_wp2_with fail
        refine (l8Rising_any n hN1 (by omega) b _ R2.out w2 S (fun x hx => Nat.lt_of_lt_of_le (hS x hx) BB2.size) A' nb c' (hl1.keep (fun p hp => BB2.cell (hS _ hp)))).mono ?_
        rintro e w3 ⟨rfl, b3⟩
        have BB3 := bnext BB2 b3
        go_wp2_with fail
        go_ret2
        exact ⟨by rw [Hok.out]; rfl, BB3⟩
      | true =>
        cases r3 with
        | false =>
          have d3 : decide ((na : Int) < h + 1) = true := decide_eq_true (by have := of_decide_eq_false R3.out; omega)
          have Hok := Lib.hid (show ovOk n a b = false by rw [Hok0.out]; rfl)
          go_enter Try.func15, Try.ntmps15
          go_wp2_with fail
          refine (l1In_any _ _ _ _ R0.out w).mono ?_
          rintro e w1 ⟨rfl, b1⟩
          have BB1 := b1
          go_wp2_with fail
          refine (l8Rising_any n hN1 (by omega) a _ R1.out w1 S (fun x hx => Nat.lt_of_lt_of_le (hS x hx) BB1.size) A na c (hl0.keep (fun p hp => BB1.cell (hS _ hp)))).mono ?_
          rintro e w2 ⟨rfl, b2⟩
          have BB2 := bnext BB1 b2
          go_wp2_with fail
          refine (l8Rising_any n hN1 (by omega) b _ R2.out w2 S (fun x hx => Nat.lt_of_lt_of_le (hS x hx) BB2.size) A' nb c' (hl1.keep (fun p hp => BB2.cell (hS _ hp)))).mono ?_
          rintro e w3 ⟨rfl, b3⟩
          have BB3 := bnext BB2 b3
          go_wp2_with fail
          refine (l8Majority_any n (by omega) (by omega) w3).mono ?_
          rintro e w4 ⟨rfl, b4⟩
          try rw [hh]
          have BB4 := bnext BB3 b4
          go_wp2_with fail
          go_ret2
          exact ⟨by rw [Hok.out]; rfl, BB4⟩
        | true =>
          have d3 : decide ((na : Int) < h + 1) = false := decide_eq_false (by have := of_decide_eq_true R3.out; omega)
          cases r4 with
          | false =>
            have d4 : decide ((nb : Int) < h + 1) = true := decide_eq_true (by have := of_decide_eq_false R4.out; omega)
            have Hok := Lib.hid (show ovOk n a b = false by rw [Hok0.out]; rfl)
            go_enter Try.func15, Try.ntmps15
            go_wp2_with fail
            refine (l1In_any _ _ _ _ R0.out w).mono ?_
            rintro e w1 ⟨rfl, b1⟩
            have BB1 := b1
            go_wp2_with fail
            refine (l8Rising_any n hN1 (by omega) a _ R1.out w1 S (fun x hx => Nat.lt_of_lt_of_le (hS x hx) BB1.size) A na c (hl0.keep (fun p hp => BB1.cell (hS _ hp)))).mono ?_
            rintro e w2 ⟨rfl, b2⟩
            have BB2 := bnext BB1 b2
            go_wp2_with fail
            refine (l8Rising_any n hN1 (by omega) b _ R2.out w2 S (fun x hx => Nat.lt_of_lt_of_le (hS x hx) BB2.size) A' nb c' (hl1.keep (fun p hp => BB2.cell (hS _ hp)))).mono ?_
            rintro e w3 ⟨rfl, b3⟩
            have BB3 := bnext BB2 b3
            go_wp2_with fail
            refine (l8Majority_any n (by omega) (by omega) w3).mono ?_
            rintro e w4 ⟨rfl, b4⟩
            try rw [hh]
            have BB4 := bnext BB3 b4
            go_wp2_with fail
            refine (l8Majority_any n (by omega) (by omega) w4).mono ?_
            rintro e w5 ⟨rfl, b5⟩
            try rw [hh]
            have BB5 := bnext BB4 b5
            go_wp2_with fail
            go_ret2
            exact ⟨by rw [Hok.out]; rfl, BB5⟩
          | true =>
            have d4 : decide ((nb : Int) < h + 1) = false := decide_eq_false (by have := of_decide_eq_true R4.out; omega)
            have Hok := Lib.hid (show ovOk n a b = true by rw [Hok0.out]; rfl)
            rw [Hok.out, Bool.true_and]
            go_enter Try.func15, Try.ntmps15
            go_wp2_with fail
            refine (l1In_any _ _ _ _ R0.out w).mono ?_
            rintro e w1 ⟨rfl, b1⟩
            have BB1 := b1
            go_wp2_with fail
            refine (l8Rising_any n hN1 (by omega) a _ R1.out w1 S (fun x hx => Nat.lt_of_lt_of_le (hS x hx) BB1.size) A na c (hl0.keep (fun p hp => BB1.cell (hS _ hp)))).mono ?_
            rintro e w2 ⟨rfl, b2⟩
            have BB2 := bnext BB1 b2
            go_wp2_with fail
            refine (l8Rising_any n hN1 (by omega) b _ R2.out w2 S (fun x hx => Nat.lt_of_lt_of_le (hS x hx) BB2.size) A' nb c' (hl1.keep (fun p hp => BB2.cell (hS _ hp)))).mono ?_
            rintro e w3 ⟨rfl, b3⟩
            have BB3 := bnext BB2 b3
            go_wp2_with fail
            refine (l8Majority_any n (by omega) (by omega) w3).mono ?_
            rintro e w4 ⟨rfl, b4⟩
            try rw [hh]
            have BB4 := bnext BB3 b4
            go_wp2_with fail
            refine (l8Majority_any n (by omega) (by omega) w4).mono ?_
            rintro e w5 ⟨rfl, b5⟩
            try rw [hh]
            have BB5 := bnext BB4 b5
            go_wp2_with fail
            go_loopw [41] (fun i wr => ∃ k : Nat, k ≤ na ∧ i = .int .i64 k ∧ meets (a.take k) b = false ∧ Below w.heap.size w wr) (fun i _ => na - (intOf i).toNat)
            case atStart => exact ⟨0, Nat.zero_le _, rfl, rfl, BB5⟩
            case round =>
              obtain ⟨k, hk, rfl, hpre, hbel⟩ := hrel
              have Hpre := Lib.hid hpre
              clear hpre
              by_cases hlt : k < na
              · have hk1 : k < a.length := by have := Hn.out; omega
                obtain ⟨ba, off, rfl, hSb, hc, hi1⟩ := hl0.at1 rfl hk1
                have hc0 : wr.cell? ⟨ba, off + k, none⟩ = some (.int .i64 a[k]) := (hbel.cell (hS _ hSb)).trans (hc _ rfl)
                have Hs := Lib.hid (meets_take a b k hk1)
                clear hc hi1
                obtain ⟨q, hq⟩ : ∃ q, (b.any fun y => y == a[k]) = q := ⟨_, rfl⟩
                have Hq := Lib.hid hq
                clear hq
                cases q with
                | true =>
                  have Hf := Lib.hid (show meets a b = true by unfold meets; exact List.any_eq_true.2 ⟨a[k], List.getElem_mem hk1, Hq.out⟩)
                  go_wp2_with fail
                  refine (l1Has_any b a[k] _ Hq.out wr S (fun x hx => Nat.lt_of_lt_of_le (hS x hx) hbel.size) A' nb c' (hl1.keep (fun p hp => hbel.cell (hS _ hp)))).mono ?_
                  rintro e w9 ⟨rfl, b9⟩
                  go_wp2_with fail
                  go_ret2
                  exact ⟨by rw [Hf.out]; rfl, hbel.trans (b9.mono hbel.size)⟩
                | false =>
                  go_wp2_with fail
                  refine (l1Has_any b a[k] _ Hq.out wr S (fun x hx => Nat.lt_of_lt_of_le (hS x hx) hbel.size) A' nb c' (hl1.keep (fun p hp => hbel.cell (hS _ hp)))).mono ?_
                  rintro e w9 ⟨rfl, b9⟩
                  go_wp2_with fail
                  go_roundw
                  case rel => exact ⟨k + 1, by omega, by go_num, by rw [Hs.out, Hpre.out, Hq.out]; rfl, hbel.trans (b9.mono hbel.size)⟩
                  case measure => simp [intOf]; omega
              · have Hf := Lib.hid (show meets a b = false by rw [← Hpre.out, List.take_of_length_le (by have := Hn.out; omega)])
                go_wp2_with fail
                go_ret2
                exact ⟨by rw [Hf.out]; rfl, hbel⟩

theorem impl_IsOverlap_any (n : Int) (hn64 : I64 n) (a b : List Int) (w : World) (S : Nat → Prop) (hS : ∀ b, S b → b < w.heap.size) (A A' : Option Addr) (na c nb c' : Nat) (hl0 : RepL w S a A na c) (hl1 : RepL w S b A' nb c') (hsm : na ≤ 1048576) (hsm' : nb ≤ 1048576) :
    Calls Try.prog 17 #[.int .i64 n, .slice A na c, .slice A' nb c'] w fun x w' => x = .returned (.tuple #[.bool (ovOk n a b && meets a b), .bool (ovOk n a b)]) ∧ Below w.heap.size w w' := by
  obtain ⟨hnl, hnh⟩ := hn64
  have hbd := hl0.bd
  have hbd' := hl1.bd
  obtain ⟨hn, -⟩ := id hl0
  obtain ⟨hn', -⟩ := id hl1
  obtain ⟨h, hh⟩ : ∃ h, n / 2 = h := ⟨_, rfl⟩
  obtain ⟨r0, hr0⟩ : ∃ r, decide (1 ≤ n ∧ n ≤ 5) = r := ⟨_, rfl⟩
  obtain ⟨r1, hr1⟩ : ∃ r, rising (n - 1) a = r := ⟨_, rfl⟩
  obtain ⟨r2, hr2⟩ : ∃ r, rising (n - 1) b = r := ⟨_, rfl⟩
  obtain ⟨r3, hr3⟩ : ∃ r, decide (h < (na : Int)) = r := ⟨_, rfl⟩
  obtain ⟨r4, hr4⟩ : ∃ r, decide (h < (nb : Int)) = r := ⟨_, rfl⟩
  have Hok0 := Lib.hid (show ovOk n a b = (r0 && (r1 && (r2 && (r3 && r4)))) by unfold ovOk; rw [hr0, hr1, hr2, ← hn, ← hn', hh, hr3, hr4])
  have Hn := Lib.hid hn
  have Hn' := Lib.hid hn'
  have R0 := Lib.hid hr0
  have R1 := Lib.hid hr1
  have R2 := Lib.hid hr2
  have R3 := Lib.hid hr3
  have R4 := Lib.hid hr4
  have hh0 : 1 ≤ n → n ≤ 5 → 0 ≤ h ∧ h ≤ 2 := fun h1 h2 => by omega
  clear hn hn' hr0 hr1 hr2 hr3 hr4
  cases r0 with
  | false =>
    have Hok := Lib.hid (show ovOk n a b = false by rw [Hok0.out]; rfl)
    go_enter Try.func17, Try.ntmps17
    go_wp2_with fail
    refine (within_any _ _ _ _ R0.out w).mono ?_
    rintro e w1 ⟨rfl, b1⟩
    have BB1 := b1
    go_wp2_with fail
    go_ret2
    exact ⟨by rw [Hok.out]; rfl, BB1⟩
  | true =>
    have hN : 1 ≤ n ∧ n ≤ 5 := of_decide_eq_true R0.out
    obtain ⟨hN1, hN2⟩ := hN
    obtain ⟨hh1, hh2⟩ := hh0 hN1 hN2
    clear hh0
    cases r1 with
    | false =>
      have Hok := Lib.hid (show ovOk n a b = false by rw [Hok0.out]; rfl)
      go_enter Try.func17, Try.ntmps17
      go_wp2_with fail
      refine (within_any _ _ _ _ R0.out w).mono ?_
      rintro e w1 ⟨rfl, b1⟩
      have BB1 := b1
      go_wp2_with fail
      refine (areNodes_any n hN1 (by omega) a _ R1.out w1 S (fun x hx => Nat.lt_of_lt_of_le (hS x hx) BB1.size) A na c (hl0.keep (fun p hp => BB1.cell (hS _ hp)))).mono ?_
      rintro e w2 ⟨rfl, b2⟩
      have BB2 := bnext BB1 b2
      go_wp2_with fail
      go_ret2
      exact ⟨by rw [Hok.out]; rfl, BB2⟩
    | true =>
      cases r2 with
      | false =>
        have Hok := Lib.hid (show ovOk n a b = false by rw [Hok0.out]; rfl)
        go_enter Try.func17, Try.ntmps17
        go_wp2_with fail
        refine (within_any _ _ _ _ R0.out w).mono ?_
        rintro e w1 ⟨rfl, b1⟩
        have BB1 := b1
        go_wp2_with fail
        refine (areNodes_any n hN1 (by omega) a _ R1.out w1 S (fun x hx => Nat.lt_of_lt_of_le (hS x hx) BB1.size) A na c (hl0.keep (fun p hp => BB1.cell (hS _ hp)))).mono ?_
        rintro e w2 ⟨rfl, b2⟩
        have BB2 := bnext BB1 b2
        go_wp2_with fail
        refine (areNodes_any n hN1 (by omega) b _ R2.out w2 S (fun x hx => Nat.lt_of_lt_of_le (hS x hx) BB2.size) A' nb c' (hl1.keep (fun p hp => BB2.cell (hS _ hp)))).mono ?_
        rintro e w3 ⟨rfl, b3⟩
        have BB3 := bnext BB2 b3
        go_wp2_with fail
        go_ret2
        exact ⟨by rw [Hok.out]; rfl, BB3⟩
      | true =>
        cases r3 with
        | false =>
          have d3 : decide ((na : Int) ≤ h) = true := decide_eq_true (by have := of_decide_eq_false R3.out; omega)
          have Hok := Lib.hid (show ovOk n a b = false by rw [Hok0.out]; rfl)
          go_enter Try.func17, Try.ntmps17
          go_wp2_with fail
          refine (within_any _ _ _ _ R0.out w).mono ?_
          rintro e w1 ⟨rfl, b1⟩
          have BB1 := b1
          go_wp2_with fail
          refine (areNodes_any n hN1 (by omega) a _ R1.out w1 S (fun x hx => Nat.lt_of_lt_of_le (hS x hx) BB1.size) A na c (hl0.keep (fun p hp => BB1.cell (hS _ hp)))).mono ?_
          rintro e w2 ⟨rfl, b2⟩
          have BB2 := bnext BB1 b2
          go_wp2_with fail
          refine (areNodes_any n hN1 (by omega) b _ R2.out w2 S (fun x hx => Nat.lt_of_lt_of_le (hS x hx) BB2.size) A' nb c' (hl1.keep (fun p hp => BB2.cell (hS _ hp)))).mono ?_
          rintro e w3 ⟨rfl, b3⟩
          have BB3 := bnext BB2 b3
          go_wp2_with fail
          go_ret2
          exact ⟨by rw [Hok.out]; rfl, BB3⟩
        | true =>
          have d3 : decide ((na : Int) ≤ h) = false := decide_eq_false (by have := of_decide_eq_true R3.out; omega)
          cases r4 with
          | false =>
            have d4 : decide ((nb : Int) ≤ h) = true := decide_eq_true (by have := of_decide_eq_false R4.out; omega)
            have Hok := Lib.hid (show ovOk n a b = false by rw [Hok0.out]; rfl)
            go_enter Try.func17, Try.ntmps17
            go_wp2_with fail
            refine (within_any _ _ _ _ R0.out w).mono ?_
            rintro e w1 ⟨rfl, b1⟩
            have BB1 := b1
            go_wp2_with fail
            refine (areNodes_any n hN1 (by omega) a _ R1.out w1 S (fun x hx => Nat.lt_of_lt_of_le (hS x hx) BB1.size) A na c (hl0.keep (fun p hp => BB1.cell (hS _ hp)))).mono ?_
            rintro e w2 ⟨rfl, b2⟩
            have BB2 := bnext BB1 b2
            go_wp2_with fail
            refine (areNodes_any n hN1 (by omega) b _ R2.out w2 S (fun x hx => Nat.lt_of_lt_of_le (hS x hx) BB2.size) A' nb c' (hl1.keep (fun p hp => BB2.cell (hS _ hp)))).mono ?_
            rintro e w3 ⟨rfl, b3⟩
            have BB3 := bnext BB2 b3
            go_wp2_with fail
            go_ret2
            exact ⟨by rw [Hok.out]; rfl, BB3⟩
          | true =>
            have d4 : decide ((nb : Int) ≤ h) = false := decide_eq_false (by have := of_decide_eq_true R4.out; omega)
            have Hok := Lib.hid (show ovOk n a b = true by rw [Hok0.out]; rfl)
            rw [Hok.out, Bool.true_and]
            go_enter Try.func17, Try.ntmps17
            go_wp2_with fail
            refine (within_any _ _ _ _ R0.out w).mono ?_
            rintro e w1 ⟨rfl, b1⟩
            have BB1 := b1
            go_wp2_with fail
            refine (areNodes_any n hN1 (by omega) a _ R1.out w1 S (fun x hx => Nat.lt_of_lt_of_le (hS x hx) BB1.size) A na c (hl0.keep (fun p hp => BB1.cell (hS _ hp)))).mono ?_
            rintro e w2 ⟨rfl, b2⟩
            have BB2 := bnext BB1 b2
            go_wp2_with fail
            refine (areNodes_any n hN1 (by omega) b _ R2.out w2 S (fun x hx => Nat.lt_of_lt_of_le (hS x hx) BB2.size) A' nb c' (hl1.keep (fun p hp => BB2.cell (hS _ hp)))).mono ?_
            rintro e w3 ⟨rfl, b3⟩
            have BB3 := bnext BB2 b3
            go_wp2_with fail
            refine (meet_any a b w3 S (fun x hx => Nat.lt_of_lt_of_le (hS x hx) BB3.size) A A' na c nb c' (by omega) (hl0.keep (fun p hp => BB3.cell (hS _ hp))) (hl1.keep (fun p hp => BB3.cell (hS _ hp)))).mono ?_
            rintro e w9 ⟨A2, m, c2, rfl, hm, hm2, b9⟩
            go_wp2_with fail
            go_ret2
            exact ⟨by rw [← hm]; rfl, bnext BB3 b9⟩

end Go.Proofs.Yticinemcmgggpab
