/-
  Contracts: l7Both, l7Part, PartAt of the reference; partAt, GoodEntries, PartAt of the program.
-/
import Derived.Test.YtgcliipdkoefaaaEnB
namespace Go.Proofs.Ytgcliipdkoefaaa
open Go.ChangeShapes Go.WideShapes Go.ChangeAt Go.RowKit Go.BigFrame
set_option linter.unusedVariables false

theorem eqGuardEntry : Try.prog.eqGuardType Try.prog.depth 52 = false := by kernel_rfl
theorem equalEntry (e f : IS) (r : Bool) (hr : decide (e = f) = r) (w : World) :
    (Op.equalIn 10000 52 (.agg #[.int .i64 e.n, .string e.s]) (.agg #[.int .i64 f.n, .string f.s])).run Try.prog w = .ok r w := by
  subst hr
  have u3 := Try.underlying3
  have a3 := Try.isAgg3
  have z3 := Try.sizeOf3
  have u9 := Try.underlying9
  have a9 := Try.isAgg9
  have z9 := Try.sizeOf9
  have hS : Try.prog.underlying 52 = some (.struct (Try.prog.fieldsOf 52)) := by kernel_rfl
  have hp : Try.prog.stoodInHeld 52 = false := by kernel_rfl
  rw [show (10000 : Nat) = 9999 + 1 from rfl, run_equalIn_agg w 9999 52 _ _ hS hp]
  simp only [Program.fieldsOf, Try.underlying52]
  obtain ⟨n, s⟩ := e
  obtain ⟨m, t⟩ := f
  go_simp
  by_cases h1 : n = m <;> by_cases h2 : s = t <;> simp [h1, h2, ba_inj]

/-- How far two lists agree. -/
def pre {α : Type} [DecidableEq α] : List α → List α → Nat
  | x :: xs, y :: ys => if x = y then pre xs ys + 1 else 0
  | _, _ => 0
theorem pre_le {α : Type} [DecidableEq α] : ∀ a b : List α, pre a b ≤ a.length ∧ pre a b ≤ b.length
  | [], _ => by simp [pre]
  | _ :: _, [] => by simp [pre]
  | x :: xs, y :: ys => by
    have := pre_le xs ys
    simp only [pre]
    split <;> simp <;> omega
theorem pre_eq {α : Type} [DecidableEq α] : ∀ (k : Nat) (a b : List α), a.take k = b.take k → k ≤ a.length → k ≤ b.length → (k = a.length ∨ k = b.length ∨ a[k]? ≠ b[k]?) → pre a b = k
  | 0, [], _, _, _, _, _ => by simp [pre]
  | 0, _ :: _, [], _, _, _, _ => by simp [pre]
  | 0, x :: xs, y :: ys, _, _, _, h => by
    simp at h
    simp [pre, h]
  | k + 1, x :: xs, y :: ys, h, h1, h2, h3 => by
    simp only [List.take_succ_cons, List.cons.injEq] at h
    obtain ⟨rfl, h⟩ := h
    have := pre_eq k xs ys h (by simpa using h1) (by simpa using h2) (by simpa using h3)
    simp [pre, this]
  | k + 1, [], _, _, h1, _, _ => absurd h1 (by simp)
  | k + 1, _ :: _, [], _, _, h2, _ => absurd h2 (by simp)

theorem l7Part_any (l l' : List IS) (w : World) (S : Nat → Prop) (hS : ∀ b, S b → b < w.heap.size) (A A' : Option Addr) (n c n' c' : Nat) (hl0 : RepL w S l A n c) (hl1 : RepL w S l' A' n' c') :
    Calls Try.prog 43 #[.slice A n c, .slice A' n' c'] w fun x w' => x = .returned (.int .i64 (pre l l')) ∧ Below w.heap.size w w' := by
  have hbd := hl0.bd
  have hbd' := hl1.bd
  have hg := eqGuardEntry
  obtain ⟨hn, -⟩ := id hl0
  obtain ⟨hn', -⟩ := id hl1
  have Hn := Lib.hid hn
  have Hn' := Lib.hid hn'
  clear hn hn'
  go_enter Try.func43, Try.ntmps43
  go_wp2
  go_loopw [5] (fun i wr => ∃ k : Nat, k ≤ n ∧ k ≤ n' ∧ i = .int .i64 k ∧ l.take k = l'.take k ∧ Below w.heap.size w wr) (fun i _ => n - (intOf i).toNat)
  case atStart => exact ⟨0, Nat.zero_le _, Nat.zero_le _, rfl, rfl, Below.refl _ _⟩
  case round =>
    obtain ⟨k, hk, hk', rfl, hpre, hbel⟩ := hrel
    have Hpre := Lib.hid hpre
    clear hpre
    have hI0 : (0 : Int) ≤ (k : Int) := by omega
    by_cases hlt : k < n
    · have hd1 : decide (k < n) = true := decide_eq_true (by omega)
      by_cases hlt' : k < n'
      · have hd2 : decide (k < n') = true := decide_eq_true (by omega)
        have hI1 : (k : Int) < (n : Int) := by omega
        have hI2 : (k : Int) < (n' : Int) := by omega
        have hk1 : k < l.length := by have := Hn.out; omega
        have hk2 : k < l'.length := by have := Hn'.out; omega
        obtain ⟨b, off, xs, rfl, hSb, hc, rfl, hi1, hi2⟩ := hl0.at_ hk1
        obtain ⟨b', off', xs', rfl, hSb', hc', rfl, hi1', hi2'⟩ := hl1.at_ hk2
        have hc0 : ∀ p : Aft wr, p.world.cell? ⟨b, off + k * 2, none⟩ = some (.int .i64 l[k].n) := Aft.cell ((hbel.cell (hS _ hSb)).trans (hc 0 _ rfl))
        have hc1 : ∀ p : Aft wr, p.world.cell? ⟨b, off + k * 2 + 1, none⟩ = some (.string l[k].s) := Aft.cell ((hbel.cell (hS _ hSb)).trans (hc 1 _ rfl))
        have hd0 : ∀ p : Aft wr, p.world.cell? ⟨b', off' + k * 2, none⟩ = some (.int .i64 l'[k].n) := Aft.cell ((hbel.cell (hS _ hSb')).trans (hc' 0 _ rfl))
        have hd1 : ∀ p : Aft wr, p.world.cell? ⟨b', off' + k * 2 + 1, none⟩ = some (.string l'[k].s) := Aft.cell ((hbel.cell (hS _ hSb')).trans (hc' 1 _ rfl))
        clear hc hc' hi1 hi2 hi1' hi2'
        by_cases he : l[k] = l'[k]
        · have heq := equalEntry l[k] l'[k] true (decide_eq_true he)
          have He := Lib.hid he
          clear he
          go_wp2_with fail
          refine wp_region_aft (by kernel_rfl) (by kernel_rfl) ?_
          repeat (go_big_quiet_step (fail))
          refine wpQuiet_nil ?_
          rintro _ ⟨p, rfl⟩
          have hb2 : Below w.heap.size w p.world := hbel.trans (p.below.mono hbel.size)
          go_wp2
          go_roundw
          case rel => exact ⟨k + 1, by omega, by omega, by go_num, by rw [List.take_succ_eq_append_getElem hk1, List.take_succ_eq_append_getElem hk2, Hpre.out, He.out], hb2⟩
          case measure => simp [intOf]; omega
        · have heq := equalEntry l[k] l'[k] false (decide_eq_false he)
          have Hfin := Lib.hid (pre_eq k l l' Hpre.out (by omega) (by omega) (.inr (.inr (by rw [List.getElem?_eq_getElem hk1, List.getElem?_eq_getElem hk2]; simpa using he))))
          clear he
          go_wp2_with fail
          refine wp_region_aft (by kernel_rfl) (by kernel_rfl) ?_
          repeat (go_big_quiet_step (fail))
          refine wpQuiet_nil ?_
          rintro _ ⟨p, rfl⟩
          have hb2 : Below w.heap.size w p.world := hbel.trans (p.below.mono hbel.size)
          go_wp2
          go_ret
          exact ⟨by rw [Hfin.out]; rfl, hb2⟩
      · have hd2 : decide (k < n') = false := decide_eq_false (by omega)
        have Hfin := Lib.hid (pre_eq k l l' Hpre.out (by have := Hn.out; omega) (by have := Hn'.out; omega) (.inr (.inl (by have := Hn'.out; omega))))
        go_wp2_with fail
        refine wp_region_aft (by kernel_rfl) (by kernel_rfl) ?_
        repeat (go_big_quiet_step (fail))
        refine wpQuiet_nil ?_
        rintro _ ⟨p, rfl⟩
        have hb2 : Below w.heap.size w p.world := hbel.trans (p.below.mono hbel.size)
        go_wp2
        go_ret
        exact ⟨by rw [Hfin.out]; rfl, hb2⟩
    · have hd1 : decide (k < n) = false := decide_eq_false (by omega)
      have Hfin := Lib.hid (pre_eq k l l' Hpre.out (by have := Hn.out; omega) (by have := Hn'.out; omega) (.inl (by have := Hn.out; omega)))
      go_wp2_with fail
      refine wp_region_aft (by kernel_rfl) (by kernel_rfl) ?_
      repeat (go_big_quiet_step (fail))
      refine wpQuiet_nil ?_
      rintro _ ⟨p, rfl⟩
      have hb2 : Below w.heap.size w p.world := hbel.trans (p.below.mono hbel.size)
      go_wp2
      go_ret
      exact ⟨by rw [Hfin.out]; rfl, hb2⟩

theorem partAt_any (l l' : List IS) (w : World) (S : Nat → Prop) (hS : ∀ b, S b → b < w.heap.size) (A A' : Option Addr) (n c n' c' : Nat) (hl0 : RepL w S l A n c) (hl1 : RepL w S l' A' n' c') :
    Calls Try.prog 61 #[.slice A n c, .slice A' n' c'] w fun x w' => x = .returned (.int .i64 (pre l l')) ∧ Below w.heap.size w w' := by
  have hbd := hl0.bd
  have hbd' := hl1.bd
  have hg := eqGuardEntry
  obtain ⟨hn, -⟩ := id hl0
  obtain ⟨hn', -⟩ := id hl1
  have Hn := Lib.hid hn
  have Hn' := Lib.hid hn'
  clear hn hn'
  go_enter Try.func61, Try.ntmps61
  go_wp2
  go_loopw [5] (fun i wr => ∃ k : Nat, k ≤ n ∧ k ≤ n' ∧ i = .int .i64 k ∧ l.take k = l'.take k ∧ Below w.heap.size w wr) (fun i _ => n - (intOf i).toNat)
  case atStart => exact ⟨0, Nat.zero_le _, Nat.zero_le _, rfl, rfl, Below.refl _ _⟩
  case round =>
    obtain ⟨k, hk, hk', rfl, hpre, hbel⟩ := hrel
    have Hpre := Lib.hid hpre
    clear hpre
    have hI0 : (0 : Int) ≤ (k : Int) := by omega
    by_cases hlt : k < n
    · have hd1 : decide (k < n) = true := decide_eq_true (by omega)
      by_cases hlt' : k < n'
      · have hd2 : decide (k < n') = true := decide_eq_true (by omega)
        have hI1 : (k : Int) < (n : Int) := by omega
        have hI2 : (k : Int) < (n' : Int) := by omega
        have hk1 : k < l.length := by have := Hn.out; omega
        have hk2 : k < l'.length := by have := Hn'.out; omega
        obtain ⟨b, off, xs, rfl, hSb, hc, rfl, hi1, hi2⟩ := hl0.at_ hk1
        obtain ⟨b', off', xs', rfl, hSb', hc', rfl, hi1', hi2'⟩ := hl1.at_ hk2
        have hc0 : ∀ p : Aft wr, p.world.cell? ⟨b, off + k * 2, none⟩ = some (.int .i64 l[k].n) := Aft.cell ((hbel.cell (hS _ hSb)).trans (hc 0 _ rfl))
        have hc1 : ∀ p : Aft wr, p.world.cell? ⟨b, off + k * 2 + 1, none⟩ = some (.string l[k].s) := Aft.cell ((hbel.cell (hS _ hSb)).trans (hc 1 _ rfl))
        have hd0 : ∀ p : Aft wr, p.world.cell? ⟨b', off' + k * 2, none⟩ = some (.int .i64 l'[k].n) := Aft.cell ((hbel.cell (hS _ hSb')).trans (hc' 0 _ rfl))
        have hd1 : ∀ p : Aft wr, p.world.cell? ⟨b', off' + k * 2 + 1, none⟩ = some (.string l'[k].s) := Aft.cell ((hbel.cell (hS _ hSb')).trans (hc' 1 _ rfl))
        clear hc hc' hi1 hi2 hi1' hi2'
        obtain ⟨m, hm⟩ : ∃ m : Int, (if n' < n then (n' : Int) else (n : Int)) = m := ⟨_, rfl⟩
        have hmn : decide ((k : Int) < m) = true := decide_eq_true (by rw [← hm]; split <;> omega)
        by_cases he : l[k] = l'[k]
        · have heq := equalEntry l[k] l'[k] true (decide_eq_true he)
          have He := Lib.hid he
          clear he
          go_wp2_with fail
          refine wp_region_aft (by kernel_rfl) (by kernel_rfl) ?_
          repeat (go_big_quiet_step (fail))
          refine wpQuiet_nil ?_
          rintro _ ⟨p, rfl⟩
          have hb2 : Below w.heap.size w p.world := hbel.trans (p.below.mono hbel.size)
          go_wp2
          go_roundw
          case rel => exact ⟨k + 1, by omega, by omega, by go_num, by rw [List.take_succ_eq_append_getElem hk1, List.take_succ_eq_append_getElem hk2, Hpre.out, He.out], hb2⟩
          case measure => simp [intOf]; omega
        · have heq := equalEntry l[k] l'[k] false (decide_eq_false he)
          have Hfin := Lib.hid (pre_eq k l l' Hpre.out (by omega) (by omega) (.inr (.inr (by rw [List.getElem?_eq_getElem hk1, List.getElem?_eq_getElem hk2]; simpa using he))))
          clear he
          go_wp2_with fail
          refine wp_region_aft (by kernel_rfl) (by kernel_rfl) ?_
          repeat (go_big_quiet_step (fail))
          refine wpQuiet_nil ?_
          rintro _ ⟨p, rfl⟩
          have hb2 : Below w.heap.size w p.world := hbel.trans (p.below.mono hbel.size)
          go_wp2
          go_ret
          exact ⟨by rw [Hfin.out]; rfl, hb2⟩
      · have hd2 : decide (k < n') = false := decide_eq_false (by omega)
        obtain ⟨m, hm⟩ : ∃ m : Int, (if n' < n then (n' : Int) else (n : Int)) = m := ⟨_, rfl⟩
        have hmn : decide ((k : Int) < m) = false := decide_eq_false (by rw [← hm]; split <;> omega)
        have Hfin := Lib.hid (pre_eq k l l' Hpre.out (by have := Hn.out; omega) (by have := Hn'.out; omega) (.inr (.inl (by have := Hn'.out; omega))))
        go_wp2_with fail
        refine wp_region_aft (by kernel_rfl) (by kernel_rfl) ?_
        repeat (go_big_quiet_step (fail))
        refine wpQuiet_nil ?_
        rintro _ ⟨p, rfl⟩
        have hb2 : Below w.heap.size w p.world := hbel.trans (p.below.mono hbel.size)
        go_wp2
        go_ret
        exact ⟨by rw [Hfin.out]; rfl, hb2⟩
    · have hd1 : decide (k < n) = false := decide_eq_false (by omega)
      obtain ⟨m, hm⟩ : ∃ m : Int, (if n' < n then (n' : Int) else (n : Int)) = m := ⟨_, rfl⟩
      have hmn : decide ((k : Int) < m) = false := decide_eq_false (by rw [← hm]; split <;> omega)
      have Hfin := Lib.hid (pre_eq k l l' Hpre.out (by have := Hn.out; omega) (by have := Hn'.out; omega) (.inl (by have := Hn.out; omega)))
      go_wp2_with fail
      refine wp_region_aft (by kernel_rfl) (by kernel_rfl) ?_
      repeat (go_big_quiet_step (fail))
      refine wpQuiet_nil ?_
      rintro _ ⟨p, rfl⟩
      have hb2 : Below w.heap.size w p.world := hbel.trans (p.below.mono hbel.size)
      go_wp2
      go_ret
      exact ⟨by rw [Hfin.out]; rfl, hb2⟩

/-- What PartAt answers. -/
noncomputable def partInt (l l' : List IS) : Int := if goodEn l && goodEn l' then pre l l' else 0

theorem spec_PartAt_any (l l' : List IS) (w : World) (S : Nat → Prop) (hS : ∀ b, S b → b < w.heap.size) (A A' : Option Addr) (n c n' c' : Nat) (hl0 : RepL w S l A n c) (hl1 : RepL w S l' A' n' c') :
    Calls Try.prog 29 #[.slice A n c, .slice A' n' c'] w fun x w' => x = .returned (.tuple #[.int .i64 (partInt l l'), .bool (goodEn l && goodEn l')]) ∧ Below w.heap.size w w' := by
  have C1 := Lib.hid (l7Both_any l l' w S hS A A' n c n' c' hl0 hl1)
  obtain ⟨r, hr⟩ : ∃ r, (goodEn l && goodEn l') = r := ⟨_, rfl⟩
  rw [hr] at C1 ⊢
  have Hr := Lib.hid hr
  clear hr
  cases r with
  | true =>
    have Hf := Lib.hid (show partInt l l' = pre l l' by unfold partInt; rw [Hr.out]; rfl)
    go_enter Try.func29, Try.ntmps29
    go_wp2_with fail
    refine C1.out.mono ?_
    rintro e w1 ⟨rfl, b1⟩
    go_wp2_with fail
    refine (l7Part_any l l' w1 S (fun b hb => Nat.lt_of_lt_of_le (hS b hb) b1.size) A A' n c n' c' (hl0.keep (fun p hp => b1.cell (hS _ hp))) (hl1.keep (fun p hp => b1.cell (hS _ hp)))).mono ?_
    rintro e w2 ⟨rfl, b2⟩
    go_wp2_with fail
    go_ret2
    exact ⟨by rw [Hf.out]; rfl, bnext b1 b2⟩
  | false =>
    have Hf := Lib.hid (show partInt l l' = 0 by unfold partInt; rw [Hr.out]; rfl)
    go_enter Try.func29, Try.ntmps29
    go_wp2_with fail
    refine C1.out.mono ?_
    rintro e w1 ⟨rfl, b1⟩
    go_wp2_with fail
    go_ret2
    exact ⟨by rw [Hf.out]; rfl, b1⟩

theorem impl_PartAt_any (l l' : List IS) (w : World) (S : Nat → Prop) (hS : ∀ b, S b → b < w.heap.size) (A A' : Option Addr) (n c n' c' : Nat) (hl0 : RepL w S l A n c) (hl1 : RepL w S l' A' n' c') :
    Calls Try.prog 28 #[.slice A n c, .slice A' n' c'] w fun x w' => x = .returned (.tuple #[.int .i64 (partInt l l'), .bool (goodEn l && goodEn l')]) ∧ Below w.heap.size w w' := by
  have C1 := Lib.hid (areEntries_any l w S hS A n c hl0)
  obtain ⟨r, hr⟩ : ∃ r, goodEn l = r := ⟨_, rfl⟩
  obtain ⟨q, hq⟩ : ∃ q, goodEn l' = q := ⟨_, rfl⟩
  rw [hr] at C1 ⊢
  rw [hq]
  have Hr := Lib.hid hr
  have Hq := Lib.hid hq
  clear hr hq
  cases r with
  | true =>
    cases q with
    | true =>
      have Hf := Lib.hid (show partInt l l' = pre l l' by unfold partInt; rw [Hr.out, Hq.out]; rfl)
      go_enter Try.func28, Try.ntmps28
      go_wp2_with fail
      refine C1.out.mono ?_
      rintro e w1 ⟨rfl, b1⟩
      have h1 := hl1.keep (w' := w1) (fun p hp => b1.cell (hS _ hp))
      have h0 := hl0.keep (w' := w1) (fun p hp => b1.cell (hS _ hp))
      go_wp2_with fail
      refine (areEntries_any l' w1 S (fun b hb => Nat.lt_of_lt_of_le (hS b hb) b1.size) A' n' c' h1).mono ?_
      rintro e w2 ⟨rfl, b2⟩
      rw [Hq.out]
      have b12 := bnext b1 b2
      go_wp2_with fail
      refine (partAt_any l l' w2 S (fun b hb => Nat.lt_of_lt_of_le (hS b hb) b12.size) A A' n c n' c' (hl0.keep (fun p hp => b12.cell (hS _ hp))) (hl1.keep (fun p hp => b12.cell (hS _ hp)))).mono ?_
      rintro e w3 ⟨rfl, b3⟩
      go_wp2_with fail
      go_ret2
      exact ⟨by rw [Hf.out]; rfl, bnext b12 b3⟩
    | false =>
      have Hf := Lib.hid (show partInt l l' = 0 by unfold partInt; rw [Hr.out, Hq.out]; rfl)
      go_enter Try.func28, Try.ntmps28
      go_wp2_with fail
      refine C1.out.mono ?_
      rintro e w1 ⟨rfl, b1⟩
      have h1 := hl1.keep (w' := w1) (fun p hp => b1.cell (hS _ hp))
      go_wp2_with fail
      refine (areEntries_any l' w1 S (fun b hb => Nat.lt_of_lt_of_le (hS b hb) b1.size) A' n' c' h1).mono ?_
      rintro e w2 ⟨rfl, b2⟩
      rw [Hq.out]
      go_wp2_with fail
      go_ret2
      exact ⟨by rw [Hf.out]; rfl, bnext b1 b2⟩
  | false =>
    have Hf := Lib.hid (show partInt l l' = 0 by unfold partInt; rw [Hr.out]; rfl)
    go_enter Try.func28, Try.ntmps28
    go_wp2_with fail
    refine C1.out.mono ?_
    rintro e w1 ⟨rfl, b1⟩
    go_wp2_with fail
    go_ret2
    exact ⟨by rw [Hf.out]; rfl, b1⟩

end Go.Proofs.Ytgcliipdkoefaaa
