/-
  Contracts: FindPart of the reference and of the program.
-/
import Derived.Test.YtgcliipdkoefaaaFpS
import Derived.Test.YtgcliipdkoefaaaFpF
import Derived.Test.YtgcliipdkoefaaaFpG
import Derived.Test.YtgcliipdkoefaaaMlS
namespace Go.Proofs.Ytgcliipdkoefaaa
open Go.ChangeShapes Go.WideShapes Go.ChangeAt Go.RowKit Go.BigFrame Go.Deep
set_option linter.unusedVariables false

set_option maxHeartbeats 4000000
/-- What FindPart answers. -/
noncomputable def fpOk (l : List IS) (st : List P2) (e : Int) : Bool := goodEn l && goodSt st e
noncomputable def fpAns (l : List IS) (st : List P2) (e : Int) : Int × Int := if fpOk l st e then findL l st e else (0, 0)
theorem fpAns_no {l : List IS} {st : List P2} {e : Int} (h : fpOk l st e = false) : fpAns l st e = (0, 0) := by unfold fpAns; rw [h]; rfl
theorem fpAns_yes {l : List IS} {st : List P2} {e : Int} (h : fpOk l st e = true) : fpAns l st e = findL l st e := by unfold fpAns; rw [h]; rfl

theorem spec_FindPart_any (l : List IS) (st : List P2) (e : Int) (he : I64 e) (w : World) (S : Nat → Prop) (hS : ∀ b, S b → b < w.heap.size) (A A' : Option Addr) (n c n' c' : Nat) (hl0 : RepL w S l A n c) (hl1 : RepL w S st A' n' c') :
    Calls Try.prog 21 #[.slice A n c, .slice A' n' c', .int .i64 e] w fun x w' => x = .returned (.tuple #[.int .i64 (fpAns l st e).1, .int .i64 (fpAns l st e).2, .bool (fpOk l st e)]) ∧ Below w.heap.size w w' := by
  obtain ⟨r, hr⟩ : ∃ r, goodEn l = r := ⟨_, rfl⟩
  obtain ⟨r', hr'⟩ : ∃ r, goodSt st e = r := ⟨_, rfl⟩
  have C1 := Lib.hid (fun w S hS h => spec_GoodEntries_any l w S hS A n c h)
  have C2 := Lib.hid (fun w S hS h => l7GoodStarts_any st e he w S hS A' n' c' h)
  have Hok := Lib.hid (show fpOk l st e = (r && r') by unfold fpOk; rw [hr, hr'])
  rw [hr] at C1
  rw [hr'] at C2
  have Hr := Lib.hid hr
  have Hr' := Lib.hid hr'
  clear hr hr'
  cases r with
  | false =>
    go_enter Try.func21, Try.ntmps21
    go_wp2_with fail
    refine (C1.out w S hS hl0).mono ?_
    rintro e w1 ⟨rfl, b1⟩
    go_wp2_with fail
    go_ret3
    exact ⟨by rw [fpAns_no Hok.out, Hok.out]; rfl, b1⟩
  | true =>
    cases r' with
    | false =>
      go_enter Try.func21, Try.ntmps21
      go_wp2_with fail
      refine (C1.out w S hS hl0).mono ?_
      rintro e w1 ⟨rfl, b1⟩
      go_wp2_with fail
      refine (C2.out w1 S (fun b hb => Nat.lt_of_lt_of_le (hS b hb) b1.size) (hl1.keep (fun p hp => b1.cell (hS _ hp)))).mono ?_
      rintro e w2 ⟨rfl, b2⟩
      go_wp2_with fail
      go_ret3
      exact ⟨by rw [fpAns_no Hok.out, Hok.out]; rfl, bnext b1 b2⟩
    | true =>
      go_enter Try.func21, Try.ntmps21
      go_wp2_with fail
      refine (C1.out w S hS hl0).mono ?_
      rintro e w1 ⟨rfl, b1⟩
      go_wp2_with fail
      refine (C2.out w1 S (fun b hb => Nat.lt_of_lt_of_le (hS b hb) b1.size) (hl1.keep (fun p hp => b1.cell (hS _ hp)))).mono ?_
      rintro e w2 ⟨rfl, b2⟩
      have B2 := bnext b1 b2
      go_wp2_with fail
      refine (l7Find_any l (goodEn_len Hr.out) st e he w2 S (fun b hb => Nat.lt_of_lt_of_le (hS b hb) B2.size) A A' n c n' c' (hl0.keep (fun p hp => B2.cell (hS _ hp))) (hl1.keep (fun p hp => B2.cell (hS _ hp)))).mono ?_
      rintro e w3 ⟨rfl, b3⟩
      go_wp2_with fail
      go_ret3
      exact ⟨by rw [fpAns_yes Hok.out, Hok.out]; rfl, bnext B2 b3⟩

theorem impl_FindPart_any (l : List IS) (st : List P2) (e : Int) (he : I64 e) (w : World) (S : Nat → Prop) (hS : ∀ b, S b → b < w.heap.size) (A A' : Option Addr) (n c n' c' : Nat) (hl0 : RepL w S l A n c) (hl1 : RepL w S st A' n' c') :
    Calls Try.prog 23 #[.slice A n c, .slice A' n' c', .int .i64 e] w fun x w' => x = .returned (.tuple #[.int .i64 (fpAns l st e).1, .int .i64 (fpAns l st e).2, .bool (fpOk l st e)]) ∧ Below w.heap.size w w' := by
  obtain ⟨r, hr⟩ : ∃ r, goodEn l = r := ⟨_, rfl⟩
  obtain ⟨r', hr'⟩ : ∃ r, goodSt st e = r := ⟨_, rfl⟩
  have C1 := Lib.hid (fun w S hS h => areEntries_any l w S hS A n c h)
  have C2 := Lib.hid (fun w S hS h => areStarts_any st e he w S hS A' n' c' h)
  have Hok := Lib.hid (show fpOk l st e = (r && r') by unfold fpOk; rw [hr, hr'])
  rw [hr] at C1
  rw [hr'] at C2
  have Hr := Lib.hid hr
  have Hr' := Lib.hid hr'
  clear hr hr'
  cases r with
  | false =>
    go_enter Try.func23, Try.ntmps23
    go_wp2_with fail
    refine (C1.out w S hS hl0).mono ?_
    rintro e w1 ⟨rfl, b1⟩
    go_wp2_with fail
    go_ret3
    exact ⟨by rw [fpAns_no Hok.out, Hok.out]; rfl, b1⟩
  | true =>
    cases r' with
    | false =>
      go_enter Try.func23, Try.ntmps23
      go_wp2_with fail
      refine (C1.out w S hS hl0).mono ?_
      rintro e w1 ⟨rfl, b1⟩
      go_wp2_with fail
      refine (C2.out w1 S (fun b hb => Nat.lt_of_lt_of_le (hS b hb) b1.size) (hl1.keep (fun p hp => b1.cell (hS _ hp)))).mono ?_
      rintro e w2 ⟨rfl, b2⟩
      go_wp2_with fail
      go_ret3
      exact ⟨by rw [fpAns_no Hok.out, Hok.out]; rfl, bnext b1 b2⟩
    | true =>
      go_enter Try.func23, Try.ntmps23
      go_wp2_with fail
      refine (C1.out w S hS hl0).mono ?_
      rintro e w1 ⟨rfl, b1⟩
      go_wp2_with fail
      refine (C2.out w1 S (fun b hb => Nat.lt_of_lt_of_le (hS b hb) b1.size) (hl1.keep (fun p hp => b1.cell (hS _ hp)))).mono ?_
      rintro e w2 ⟨rfl, b2⟩
      have B2 := bnext b1 b2
      go_wp2_with fail
      refine (findPart_any l Hr.out (goodEn_len Hr.out) st e he w2 S (fun b hb => Nat.lt_of_lt_of_le (hS b hb) B2.size) A A' n c n' c' (hl0.keep (fun p hp => B2.cell (hS _ hp))) (hl1.keep (fun p hp => B2.cell (hS _ hp)))).mono ?_
      rintro e w3 ⟨rfl, b3⟩
      go_wp2_with fail
      go_ret3
      exact ⟨by rw [fpAns_yes Hok.out, Hok.out]; rfl, bnext B2 b3⟩
end Go.Proofs.Ytgcliipdkoefaaa
