/-
  Contracts: l8Rising of the reference, areNodes of the program.
-/
import Derived.Test.YticinemcmgggpabWi
namespace Go.Proofs.Yticinemcmgggpab
open Go.ChangeShapes Go.WideShapes Go.ChangeAt Go.RowKit Go.BigFrame
set_option linter.unusedVariables false

/-- Number i of a rising list of nodes. -/
def riseOk (m : Int) (l : List Int) (i : Nat) : Prop := ∀ x, l[i]? = some x → 0 ≤ x ∧ x ≤ m ∧ (0 < i → ∀ y, l[i - 1]? = some y → y < x)
open Classical in
noncomputable def rising (m : Int) (l : List Int) : Bool := decide (∀ i, i < l.length → riseOk m l i)
theorem riseOk_succ {m : Int} {l : List Int} {k : Nat} {x : Int} (h : ∀ i, i < k → riseOk m l i) (he : l[k]? = some x) (h1 : 0 ≤ x) (h2 : x ≤ m) (h4 : 0 < k → ∀ y, l[k - 1]? = some y → y < x) : ∀ i, i < k + 1 → riseOk m l i := by
  intro i hi
  by_cases hik : i = k
  · subst hik
    intro e he'
    rw [he] at he'
    obtain rfl := Option.some.inj he'
    exact ⟨h1, h2, h4⟩
  · exact h i (by omega)
open Classical in
theorem rising_bad {m : Int} {l : List Int} {k : Nat} (hk : k < l.length) (h : ¬ riseOk m l k) : rising m l = false := by
  unfold rising
  rw [decide_eq_false]
  exact fun hh => h (hh k hk)
open Classical in
theorem rising_yes {m : Int} {l : List Int} {n : Nat} (hn : n = l.length) (h : ∀ i, i < n → riseOk m l i) : rising m l = true := by
  unfold rising
  rw [decide_eq_true]
  subst hn
  exact h

theorem l8Rising_any (many : Int) (hm1 : 1 ≤ many) (hm2 : many ≤ 1000000) (l : List Int) (r : Bool) (hr : rising (many - 1) l = r) (w : World) (S : Nat → Prop) (hS : ∀ b, S b → b < w.heap.size) (A : Option Addr) (n c : Nat) (hl0 : RepL w S l A n c) :
    Calls Try.prog 37 #[.slice A n c, .int .i64 many] w fun x w' => x = .returned (.bool r) ∧ Below w.heap.size w w' := by
  have hbd := hl0.bd
  obtain ⟨hn, -⟩ := id hl0
  obtain ⟨m, hm'⟩ : ∃ m, many - 1 = m := ⟨_, rfl⟩
  rw [hm'] at hr
  have hmm : IntKind.i64.wrap (many - 1) = m := by rw [IntKind.wrap_i64]; omega
  have Hn := Lib.hid hn
  have Hr := Lib.hid hr
  clear hn hr
  go_enter Try.func37, Try.ntmps37
  go_wp2_with fail
  go_loopw [9] (fun i wr => ∃ k : Nat, k ≤ n ∧ i = .int .i64 k ∧ (∀ i, i < k → riseOk m l i) ∧ Below w.heap.size w wr) (fun i _ => n - (intOf i).toNat)
  case atStart => exact ⟨0, Nat.zero_le _, rfl, fun i hi => absurd hi (by omega), Below.refl _ _⟩
  case round =>
    obtain ⟨k, hk, rfl, hpre, hbel⟩ := hrel
    have Hpre := Lib.hid hpre
    clear hpre
    by_cases hlt : k < n
    · have hl1 : k < l.length := by have := Hn.out; omega
      obtain ⟨b, off, rfl, hSb, hc, hok⟩ := hl0.at1 rfl hl1
      have hc0 := hc _ rfl
      have Hek0 := Lib.hid (show l[k]? = some l[k] from List.getElem?_eq_getElem hl1)
      generalize l[k] = x at hc0 Hek0
      have Hek := Hek0
      have hc0' : wr.cell? ⟨b, off + k, none⟩ = some (.int .i64 x) := (hbel.cell (hS _ hSb)).trans hc0
      clear hc hok hc0
      by_cases hA : 0 ≤ x ∧ x ≤ m
      · have Hd := Lib.hid (decide_eq_true hA)
        by_cases hz : k = 0
        · have hgt : decide (0 < k) = false := decide_eq_false (by omega)
          have Hz := Lib.hid hz
          clear hz
          go_wp2_with (go_at_call 27; refine (l1In_any _ _ _ _ Hd.out _).mono ?_; rintro e w1 ⟨rfl, hb1⟩)
          go_roundw
          case rel => exact ⟨k + 1, by omega, by go_num, riseOk_succ Hpre.out Hek.out hA.1 hA.2 (fun h => absurd Hz.out (by omega)), hbel.trans (hb1.mono hbel.size)⟩
          case measure => simp [intOf]; omega
        · obtain ⟨j, hj⟩ : ∃ j, k = j + 1 := ⟨k - 1, by omega⟩
          have hgt : decide (0 < k) = true := decide_eq_true (by omega)
          have hl2 : j < l.length := by omega
          obtain ⟨b', off', e, hSb', hc, hok⟩ := hl0.at1 rfl hl2
          obtain ⟨rfl, rfl⟩ : b = b' ∧ off = off' := by simpa using e
          have hcj := hc _ rfl
          have Hj0 := Lib.hid (show l[k - 1]? = some l[j] by rw [hj]; exact List.getElem?_eq_getElem hl2)
          generalize l[j] = y at hcj Hj0
          have Hj := Hj0
          have hcW : ∀ W, Below wr.heap.size wr W → W.cell? ⟨b, off + j, none⟩ = some (.int .i64 y) := fun W hW => (hW.cell (Nat.lt_of_lt_of_le (hS _ hSb) hbel.size)).trans ((hbel.cell (hS _ hSb)).trans hcj)
          have HcW := Lib.hid hcW
          have hsub : IntKind.i64.wrap ((k : Int) - 1) = (j : Int) := by rw [IntKind.wrap_i64]; omega
          have hsub' : (k : Int) - 1 = (j : Int) := by omega
          have hsub1 : j < n := by omega
          have Hkj := Lib.hid hj
          clear hc e hok hj hz hcj hcW
          by_cases hD : x ≤ y
          · have hDd : decide (x ≤ y) = true := decide_eq_true hD
            have Hf := Lib.hid (show r = false by rw [← Hr.out]; exact rising_bad hl1 (fun hh => by have := (hh _ Hek.out).2.2 (by have := Hkj.out; omega) y Hj.out; omega))
            go_wp2_with (go_at_call 27; refine (l1In_any _ _ _ _ Hd.out _).mono ?_; rintro e w1 ⟨rfl, hb1⟩; have hcell := HcW.out _ hb1)
            go_ret
            exact ⟨by rw [Hf.out]; rfl, hbel.trans (hb1.mono hbel.size)⟩
          · have hDd : decide (x ≤ y) = false := decide_eq_false hD
            go_wp2_with (go_at_call 27; refine (l1In_any _ _ _ _ Hd.out _).mono ?_; rintro e w1 ⟨rfl, hb1⟩; have hcell := HcW.out _ hb1)
            go_roundw
            case rel => exact ⟨k + 1, by omega, by go_num, riseOk_succ Hpre.out Hek.out hA.1 hA.2 (fun _ f hf => by rw [Hj.out] at hf; obtain rfl := Option.some.inj hf; omega), hbel.trans (hb1.mono hbel.size)⟩
            case measure => simp [intOf]; omega
      · have Hd := Lib.hid (decide_eq_false hA)
        have Hf := Lib.hid (show r = false by rw [← Hr.out]; exact rising_bad hl1 (fun hh => hA ⟨(hh _ Hek.out).1, (hh _ Hek.out).2.1⟩))
        go_wp2_with (go_at_call 27; refine (l1In_any _ _ _ _ Hd.out _).mono ?_; rintro e w1 ⟨rfl, hb1⟩)
        go_ret
        exact ⟨by rw [Hf.out]; rfl, hbel.trans (hb1.mono hbel.size)⟩
    · have Hf := Lib.hid (show r = true by rw [← Hr.out]; exact rising_yes (show k = l.length by have := Hn.out; omega) Hpre.out)
      go_wp2_with fail
      go_ret
      exact ⟨by rw [Hf.out]; rfl, hbel⟩

theorem areNodes_any (many : Int) (hm1 : 1 ≤ many) (hm2 : many ≤ 1000000) (l : List Int) (r : Bool) (hr : rising (many - 1) l = r) (w : World) (S : Nat → Prop) (hS : ∀ b, S b → b < w.heap.size) (A : Option Addr) (n c : Nat) (hl0 : RepL w S l A n c) :
    Calls Try.prog 40 #[.int .i64 many, .slice A n c] w fun x w' => x = .returned (.bool r) ∧ Below w.heap.size w w' := by
  have hbd := hl0.bd
  obtain ⟨hn, -⟩ := id hl0
  obtain ⟨m, hm'⟩ : ∃ m, many - 1 = m := ⟨_, rfl⟩
  rw [hm'] at hr
  have hmm : IntKind.i64.wrap (many - 1) = m := by rw [IntKind.wrap_i64]; omega
  have Hn := Lib.hid hn
  have Hr := Lib.hid hr
  clear hn hr
  go_enter Try.func40, Try.ntmps40
  go_wp2_with fail
  go_loopw [9] (fun i wr => ∃ k : Nat, k ≤ n ∧ i = .int .i64 k ∧ (∀ i, i < k → riseOk m l i) ∧ Below w.heap.size w wr) (fun i _ => n - (intOf i).toNat)
  case atStart => exact ⟨0, Nat.zero_le _, rfl, fun i hi => absurd hi (by omega), Below.refl _ _⟩
  case round =>
    obtain ⟨k, hk, rfl, hpre, hbel⟩ := hrel
    have Hpre := Lib.hid hpre
    clear hpre
    by_cases hlt : k < n
    · have hl1 : k < l.length := by have := Hn.out; omega
      obtain ⟨b, off, rfl, hSb, hc, hok⟩ := hl0.at1 rfl hl1
      have hc0 := hc _ rfl
      have Hek0 := Lib.hid (show l[k]? = some l[k] from List.getElem?_eq_getElem hl1)
      generalize l[k] = x at hc0 Hek0
      have Hek := Hek0
      have hc0' : wr.cell? ⟨b, off + k, none⟩ = some (.int .i64 x) := (hbel.cell (hS _ hSb)).trans hc0
      clear hc hok hc0
      by_cases hA : 0 ≤ x ∧ x ≤ m
      · have Hd := Lib.hid (decide_eq_true hA)
        by_cases hz : k = 0
        · have hgt : decide (0 < k) = false := decide_eq_false (by omega)
          have Hz := Lib.hid hz
          clear hz
          go_wp2_with (go_at_call 31; refine (within_any _ _ _ _ Hd.out _).mono ?_; rintro e w1 ⟨rfl, hb1⟩)
          go_roundw
          case rel => exact ⟨k + 1, by omega, by go_num, riseOk_succ Hpre.out Hek.out hA.1 hA.2 (fun h => absurd Hz.out (by omega)), hbel.trans (hb1.mono hbel.size)⟩
          case measure => simp [intOf]; omega
        · obtain ⟨j, hj⟩ : ∃ j, k = j + 1 := ⟨k - 1, by omega⟩
          have hgt : decide (0 < k) = true := decide_eq_true (by omega)
          have hl2 : j < l.length := by omega
          obtain ⟨b', off', e, hSb', hc, hok⟩ := hl0.at1 rfl hl2
          obtain ⟨rfl, rfl⟩ : b = b' ∧ off = off' := by simpa using e
          have hcj := hc _ rfl
          have Hj0 := Lib.hid (show l[k - 1]? = some l[j] by rw [hj]; exact List.getElem?_eq_getElem hl2)
          generalize l[j] = y at hcj Hj0
          have Hj := Hj0
          have hcW : ∀ W, Below wr.heap.size wr W → W.cell? ⟨b, off + j, none⟩ = some (.int .i64 y) := fun W hW => (hW.cell (Nat.lt_of_lt_of_le (hS _ hSb) hbel.size)).trans ((hbel.cell (hS _ hSb)).trans hcj)
          have HcW := Lib.hid hcW
          have hsub : IntKind.i64.wrap ((k : Int) - 1) = (j : Int) := by rw [IntKind.wrap_i64]; omega
          have hsub' : (k : Int) - 1 = (j : Int) := by omega
          have hsub1 : j < n := by omega
          have Hkj := Lib.hid hj
          clear hc e hok hj hz hcj hcW
          by_cases hD : x ≤ y
          · have hDd : decide (x ≤ y) = true := decide_eq_true hD
            have Hf := Lib.hid (show r = false by rw [← Hr.out]; exact rising_bad hl1 (fun hh => by have := (hh _ Hek.out).2.2 (by have := Hkj.out; omega) y Hj.out; omega))
            go_wp2_with (go_at_call 31; refine (within_any _ _ _ _ Hd.out _).mono ?_; rintro e w1 ⟨rfl, hb1⟩; have hcell := HcW.out _ hb1)
            go_ret
            exact ⟨by rw [Hf.out]; rfl, hbel.trans (hb1.mono hbel.size)⟩
          · have hDd : decide (x ≤ y) = false := decide_eq_false hD
            go_wp2_with (go_at_call 31; refine (within_any _ _ _ _ Hd.out _).mono ?_; rintro e w1 ⟨rfl, hb1⟩; have hcell := HcW.out _ hb1)
            go_roundw
            case rel => exact ⟨k + 1, by omega, by go_num, riseOk_succ Hpre.out Hek.out hA.1 hA.2 (fun _ f hf => by rw [Hj.out] at hf; obtain rfl := Option.some.inj hf; omega), hbel.trans (hb1.mono hbel.size)⟩
            case measure => simp [intOf]; omega
      · have Hd := Lib.hid (decide_eq_false hA)
        have Hf := Lib.hid (show r = false by rw [← Hr.out]; exact rising_bad hl1 (fun hh => hA ⟨(hh _ Hek.out).1, (hh _ Hek.out).2.1⟩))
        go_wp2_with (go_at_call 31; refine (within_any _ _ _ _ Hd.out _).mono ?_; rintro e w1 ⟨rfl, hb1⟩)
        go_ret
        exact ⟨by rw [Hf.out]; rfl, hbel.trans (hb1.mono hbel.size)⟩
    · have Hf := Lib.hid (show r = true by rw [← Hr.out]; exact rising_yes (show k = l.length by have := Hn.out; omega) Hpre.out)
      go_wp2_with fail
      go_ret
      exact ⟨by rw [Hf.out]; rfl, hbel⟩

end Go.Proofs.Yticinemcmgggpab
