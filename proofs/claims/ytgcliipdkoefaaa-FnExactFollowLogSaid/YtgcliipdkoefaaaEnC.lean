/-
  Contracts: GoodEntries of the reference and areEntries, GoodEntries of the program: each answers 'goodEn'.
-/
import Derived.Test.YtgcliipdkoefaaaEnA
import Derived.Test.YtgcliipdkoefaaaWi
namespace Go.Proofs.Ytgcliipdkoefaaa
open Go.ChangeShapes Go.WideShapes Go.ChangeAt Go.RowKit Go.BigFrame
set_option linter.unusedVariables false

/-- Entry number i is as the document asks. -/
def enOk (l : List IS) (i : Nat) : Prop :=
  ∀ e, l[i]? = some e → 1 ≤ e.n ∧ e.n ≤ 1000 ∧ e.s.size ≤ 20 ∧ (0 < i → ∀ f, l[i - 1]? = some f → f.n ≤ e.n)
open Classical in
noncomputable def goodEn (l : List IS) : Bool := decide (l.length ≤ 40 ∧ ∀ i, i < l.length → enOk l i)

theorem enOk_succ {l : List IS} {k : Nat} {x : Int} {s : ByteArray} (h : ∀ i, i < k → enOk l i) (he : l[k]? = some ⟨x, s⟩) (h1 : 1 ≤ x) (h2 : x ≤ 1000) (h3 : s.size ≤ 20)
    (h4 : 0 < k → ∀ f, l[k - 1]? = some f → f.n ≤ x) : ∀ i, i < k + 1 → enOk l i := by
  intro i hi
  by_cases hik : i = k
  · subst hik
    intro e he'
    rw [he] at he'
    obtain rfl := Option.some.inj he'
    exact ⟨h1, h2, h3, h4⟩
  · exact h i (by omega)
theorem enOk_not_A {l : List IS} {k : Nat} {x : Int} {s : ByteArray} (he : l[k]? = some ⟨x, s⟩) (h : ¬ (1 ≤ x ∧ x ≤ 1000)) : ¬ enOk l k := fun hh => h ⟨(hh _ he).1, (hh _ he).2.1⟩
theorem enOk_not_B {l : List IS} {k : Nat} {x : Int} {s : ByteArray} (he : l[k]? = some ⟨x, s⟩) (h : ¬ s.size ≤ 20) : ¬ enOk l k := fun hh => h (hh _ he).2.2.1
theorem enOk_not_D {l : List IS} {k : Nat} {x : Int} {s : ByteArray} {f : IS} (he : l[k]? = some ⟨x, s⟩) (hk : 0 < k) (hf : l[k - 1]? = some f) (h : x < f.n) : ¬ enOk l k := fun hh => by
  have := (hh _ he).2.2.2 hk f hf
  simp only at this
  omega
open Classical in
theorem goodEn_bad {l : List IS} {k : Nat} (hk : k < l.length) (h : ¬ enOk l k) : goodEn l = false := by
  unfold goodEn
  rw [decide_eq_false]
  exact fun hh => h (hh.2 k hk)
open Classical in
theorem goodEn_long {l : List IS} (h : ¬ l.length ≤ 40) : goodEn l = false := by
  unfold goodEn
  rw [decide_eq_false]
  exact fun hh => h hh.1
open Classical in
theorem goodEn_yes {l : List IS} {n : Nat} (hn : n = l.length) (hL : n ≤ 40) (h : ∀ i, i < n → enOk l i) : goodEn l = true := by
  unfold goodEn
  rw [decide_eq_true]
  subst hn
  exact ⟨hL, h⟩

theorem spec_GoodEntries_any (l : List IS) (w : World) (S : Nat → Prop) (hS : ∀ b, S b → b < w.heap.size) (A : Option Addr) (n c : Nat) (hl0 : RepL w S l A n c) :
    Calls Try.prog 33 #[.slice A n c] w fun x w' => x = .returned (.bool (goodEn l)) ∧ Below w.heap.size w w' := by
  have hbd := hl0.bd
  obtain ⟨hn, -⟩ := id hl0
  have Hn := Lib.hid hn
  clear hn
  go_enter Try.func33, Try.ntmps33
  go_wp2
  go_loopw [7] (fun i wr => ∃ k : Nat, k ≤ n ∧ i = .int .i64 k ∧ (∀ i, i < k → enOk l i) ∧ Below w.heap.size w wr) (fun i _ => n - (intOf i).toNat)
  case atStart => exact ⟨0, Nat.zero_le _, rfl, fun i hi => absurd hi (by omega), Below.refl _ _⟩
  case round =>
    obtain ⟨k, hk, rfl, hpre, hbel⟩ := hrel
    have Hpre := Lib.hid hpre
    clear hpre
    by_cases hlt : k < n
    · have hl1 : k < l.length := by have := Hn.out; omega
      obtain ⟨b, off, xs, rfl, hSb, hc, rfl, hi1, hi2⟩ := hl0.at_ hl1
      have hc0 := hc 0 _ rfl
      have hc1 := hc 1 _ rfl
      clear hc
      generalize hek : l[k] = ek at hc0 hc1 hi1 hi2
      obtain ⟨x, s⟩ := ek
      have Hek := Lib.hid (show l[k]? = some ⟨x, s⟩ by rw [List.getElem?_eq_getElem hl1, hek])
      clear hek
      have hc0' : wr.cell? ⟨b, off + k * 2, none⟩ = some (.int .i64 x) := (hbel.cell (hS _ hSb)).trans hc0
      have hc1' : wr.cell? ⟨b, off + k * 2 + 1, none⟩ = some (.string s) := (hbel.cell (hS _ hSb)).trans hc1
      clear hc0 hc1
      obtain ⟨hx1, hx2⟩ : I64 x := hi1
      have hs2 : s.size ≤ 9223372036854775807 := by have : s.size ≤ maxLen := hi2; unfold maxLen at this; exact this
      clear hi2
      have hI : (k : Int) < (n : Int) := by omega
      have hI0 : (0 : Int) ≤ (k : Int) := by omega
      obtain ⟨W, hW⟩ : ∃ W, W = wr.alloc (.cells #[.int .i64 x, .string s] 52) := ⟨_, rfl⟩
      have hbW : Below w.heap.size w W := by subst hW; exact hbel.alloc hbel.size _
      have e0 : ∀ p : Aft W, p.world.cell? ⟨wr.heap.size, 0, none⟩ = some (.int .i64 x) := Aft.cell (by subst hW; simp)
      have e1 : ∀ p : Aft W, p.world.cell? ⟨wr.heap.size, 1, none⟩ = some (.string s) := Aft.cell (by subst hW; simp)
      have HW := Lib.hid hW
      clear hW
      go_wp2_with fail
      rw [← HW.out]
      by_cases hA : 1 ≤ x ∧ x ≤ 1000
      · have Hd := Lib.hid (decide_eq_true hA)
        by_cases hB : s.size ≤ 20
        · have hBd : decide ((20 : Int) < (s.size : Int)) = false := decide_eq_false (by omega)
          by_cases hz : k = 0
          · have hgt : decide (0 < k) = false := decide_eq_false (by omega)
            have Hz := Lib.hid hz
            clear hz
            refine wp_region_aft (by kernel_rfl) (by kernel_rfl) ?_
            repeat (go_big_quiet_step ((go_at_call 64; exact Calls.aft (l1In_any _ _ _ _ Hd.out _))))
            refine wpQuiet_nil ?_
            rintro _ ⟨p, rfl⟩
            have hb2 : Below w.heap.size w p.world := hbW.trans (p.below.mono hbW.size)
            go_wp2
            go_roundw
            case rel => exact ⟨k + 1, by omega, by go_num, enOk_succ Hpre.out Hek.out hA.1 hA.2 hB (fun h => absurd Hz.out (by omega)), hb2⟩
            case measure => simp [intOf]; omega
          · obtain ⟨j, hj⟩ : ∃ j, k = j + 1 := ⟨k - 1, by omega⟩
            have hgt : decide (0 < k) = true := decide_eq_true (by omega)
            have hl2 : j < l.length := by omega
            obtain ⟨b', off', xs', e, hSb', hc, rfl, hj1, hj2⟩ := hl0.at_ hl2
            obtain ⟨rfl, rfl⟩ : b = b' ∧ off = off' := by simpa using e
            have e2 : ∀ p : Aft W, p.world.cell? ⟨b, off + j * 2, none⟩ = some (.int .i64 l[j].n) := Aft.cell ((hbW.cell (hS _ hSb)).trans (hc 0 _ rfl))
            have Hj := Lib.hid (show l[k - 1]? = some l[j] by rw [hj]; exact List.getElem?_eq_getElem hl2)
            have hsub : IntKind.i64.wrap ((k : Int) - 1) = (j : Int) := by rw [IntKind.wrap_i64]; omega
            have hsub0 : (0 : Int) ≤ (j : Int) := by omega
            have hsub1 : (j : Int) < (n : Int) := by omega
            have Hkj := Lib.hid hj
            clear hc e hj1 hj2 hj hz
            by_cases hD : x < l[j].n
            · have hDd : decide (x < l[j].n) = true := decide_eq_true hD
              refine wp_region_aft (by kernel_rfl) (by kernel_rfl) ?_
              repeat (go_big_quiet_step ((go_at_call 64; exact Calls.aft (l1In_any _ _ _ _ Hd.out _))))
              refine wpQuiet_nil ?_
              rintro _ ⟨p, rfl⟩
              have hb2 : Below w.heap.size w p.world := hbW.trans (p.below.mono hbW.size)
              go_wp2
              go_ret
              exact ⟨by rw [goodEn_bad hl1 (enOk_not_D Hek.out (by have := Hkj.out; omega) Hj.out hD)]; rfl, hb2⟩
            · have hDd : decide (x < l[j].n) = false := decide_eq_false hD
              refine wp_region_aft (by kernel_rfl) (by kernel_rfl) ?_
              repeat (go_big_quiet_step ((go_at_call 64; exact Calls.aft (l1In_any _ _ _ _ Hd.out _))))
              refine wpQuiet_nil ?_
              rintro _ ⟨p, rfl⟩
              have hb2 : Below w.heap.size w p.world := hbW.trans (p.below.mono hbW.size)
              go_wp2
              go_roundw
              case rel => exact ⟨k + 1, by omega, by go_num, enOk_succ Hpre.out Hek.out hA.1 hA.2 hB (fun _ f hf => by rw [Hj.out] at hf; obtain rfl := Option.some.inj hf; omega), hb2⟩
              case measure => simp [intOf]; omega
        · have hBd : decide ((20 : Int) < (s.size : Int)) = true := decide_eq_true (by omega)
          refine wp_region_aft (by kernel_rfl) (by kernel_rfl) ?_
          repeat (go_big_quiet_step ((go_at_call 64; exact Calls.aft (l1In_any _ _ _ _ Hd.out _))))
          refine wpQuiet_nil ?_
          rintro _ ⟨p, rfl⟩
          have hb2 : Below w.heap.size w p.world := hbW.trans (p.below.mono hbW.size)
          go_wp2
          go_ret
          exact ⟨by rw [goodEn_bad hl1 (enOk_not_B Hek.out hB)]; rfl, hb2⟩
      · have Hd := Lib.hid (decide_eq_false hA)
        refine wp_region_aft (by kernel_rfl) (by kernel_rfl) ?_
        repeat (go_big_quiet_step ((go_at_call 64; exact Calls.aft (l1In_any _ _ _ _ Hd.out _))))
        refine wpQuiet_nil ?_
        rintro _ ⟨p, rfl⟩
        have hb2 : Below w.heap.size w p.world := hbW.trans (p.below.mono hbW.size)
        go_wp2
        go_ret
        exact ⟨by rw [goodEn_bad hl1 (enOk_not_A Hek.out hA)]; rfl, hb2⟩
    · obtain rfl : k = n := by omega
      by_cases hL : k ≤ 40
      · have hLd : decide ((k : Int) ≤ 40) = true := decide_eq_true (by omega)
        go_wp2
        go_ret
        exact ⟨by rw [goodEn_yes Hn.out hL Hpre.out]; rfl, hbel⟩
      · have hLd : decide ((k : Int) ≤ 40) = false := decide_eq_false (by omega)
        go_wp2
        go_ret
        exact ⟨by rw [goodEn_long (Hn.out ▸ hL)]; rfl, hbel⟩

theorem areEntries_any (l : List IS) (w : World) (S : Nat → Prop) (hS : ∀ b, S b → b < w.heap.size) (A : Option Addr) (n c : Nat) (hl0 : RepL w S l A n c) :
    Calls Try.prog 46 #[.slice A n c] w fun x w' => x = .returned (.bool (goodEn l)) ∧ Below w.heap.size w w' := by
  have hbd := hl0.bd
  obtain ⟨hn, -⟩ := id hl0
  have Hn := Lib.hid hn
  clear hn
  go_enter Try.func46, Try.ntmps46
  go_wp2
  go_loopw [7] (fun i wr => ∃ k : Nat, k ≤ n ∧ i = .int .i64 k ∧ (∀ i, i < k → enOk l i) ∧ Below w.heap.size w wr) (fun i _ => n - (intOf i).toNat)
  case atStart => exact ⟨0, Nat.zero_le _, rfl, fun i hi => absurd hi (by omega), Below.refl _ _⟩
  case round =>
    obtain ⟨k, hk, rfl, hpre, hbel⟩ := hrel
    have Hpre := Lib.hid hpre
    clear hpre
    by_cases hlt : k < n
    · have hl1 : k < l.length := by have := Hn.out; omega
      obtain ⟨b, off, xs, rfl, hSb, hc, rfl, hi1, hi2⟩ := hl0.at_ hl1
      have hc0 := hc 0 _ rfl
      have hc1 := hc 1 _ rfl
      clear hc
      generalize hek : l[k] = ek at hc0 hc1 hi1 hi2
      obtain ⟨x, s⟩ := ek
      have Hek := Lib.hid (show l[k]? = some ⟨x, s⟩ by rw [List.getElem?_eq_getElem hl1, hek])
      clear hek
      have hc0' : wr.cell? ⟨b, off + k * 2, none⟩ = some (.int .i64 x) := (hbel.cell (hS _ hSb)).trans hc0
      have hc1' : wr.cell? ⟨b, off + k * 2 + 1, none⟩ = some (.string s) := (hbel.cell (hS _ hSb)).trans hc1
      clear hc0 hc1
      obtain ⟨hx1, hx2⟩ : I64 x := hi1
      have hs2 : s.size ≤ 9223372036854775807 := by have : s.size ≤ maxLen := hi2; unfold maxLen at this; exact this
      clear hi2
      have hI : (k : Int) < (n : Int) := by omega
      have hI0 : (0 : Int) ≤ (k : Int) := by omega
      obtain ⟨W, hW⟩ : ∃ W, W = wr.alloc (.cells #[.int .i64 x, .string s] 52) := ⟨_, rfl⟩
      have hbW : Below w.heap.size w W := by subst hW; exact hbel.alloc hbel.size _
      have e0 : ∀ p : Aft W, p.world.cell? ⟨wr.heap.size, 0, none⟩ = some (.int .i64 x) := Aft.cell (by subst hW; simp)
      have e1 : ∀ p : Aft W, p.world.cell? ⟨wr.heap.size, 1, none⟩ = some (.string s) := Aft.cell (by subst hW; simp)
      have HW := Lib.hid hW
      clear hW
      go_wp2_with fail
      rw [← HW.out]
      by_cases hA : 1 ≤ x ∧ x ≤ 1000
      · have Hd := Lib.hid (decide_eq_true hA)
        by_cases hB : s.size ≤ 20
        · have hBd : decide ((20 : Int) < (s.size : Int)) = false := decide_eq_false (by omega)
          by_cases hz : k = 0
          · have hgt : decide (0 < k) = false := decide_eq_false (by omega)
            have Hz := Lib.hid hz
            clear hz
            refine wp_region_aft (by kernel_rfl) (by kernel_rfl) ?_
            repeat (go_big_quiet_step ((go_at_call 66; exact Calls.aft (within_any _ _ _ _ Hd.out _))))
            refine wpQuiet_nil ?_
            rintro _ ⟨p, rfl⟩
            have hb2 : Below w.heap.size w p.world := hbW.trans (p.below.mono hbW.size)
            go_wp2
            go_roundw
            case rel => exact ⟨k + 1, by omega, by go_num, enOk_succ Hpre.out Hek.out hA.1 hA.2 hB (fun h => absurd Hz.out (by omega)), hb2⟩
            case measure => simp [intOf]; omega
          · obtain ⟨j, hj⟩ : ∃ j, k = j + 1 := ⟨k - 1, by omega⟩
            have hgt : decide (0 < k) = true := decide_eq_true (by omega)
            have hl2 : j < l.length := by omega
            obtain ⟨b', off', xs', e, hSb', hc, rfl, hj1, hj2⟩ := hl0.at_ hl2
            obtain ⟨rfl, rfl⟩ : b = b' ∧ off = off' := by simpa using e
            have e2 : ∀ p : Aft W, p.world.cell? ⟨b, off + j * 2, none⟩ = some (.int .i64 l[j].n) := Aft.cell ((hbW.cell (hS _ hSb)).trans (hc 0 _ rfl))
            have Hj := Lib.hid (show l[k - 1]? = some l[j] by rw [hj]; exact List.getElem?_eq_getElem hl2)
            have hsub : IntKind.i64.wrap ((k : Int) - 1) = (j : Int) := by rw [IntKind.wrap_i64]; omega
            have hsub0 : (0 : Int) ≤ (j : Int) := by omega
            have hsub1 : (j : Int) < (n : Int) := by omega
            have Hkj := Lib.hid hj
            clear hc e hj1 hj2 hj hz
            by_cases hD : x < l[j].n
            · have hDd : decide (x < l[j].n) = true := decide_eq_true hD
              refine wp_region_aft (by kernel_rfl) (by kernel_rfl) ?_
              repeat (go_big_quiet_step ((go_at_call 66; exact Calls.aft (within_any _ _ _ _ Hd.out _))))
              refine wpQuiet_nil ?_
              rintro _ ⟨p, rfl⟩
              have hb2 : Below w.heap.size w p.world := hbW.trans (p.below.mono hbW.size)
              go_wp2
              go_ret
              exact ⟨by rw [goodEn_bad hl1 (enOk_not_D Hek.out (by have := Hkj.out; omega) Hj.out hD)]; rfl, hb2⟩
            · have hDd : decide (x < l[j].n) = false := decide_eq_false hD
              refine wp_region_aft (by kernel_rfl) (by kernel_rfl) ?_
              repeat (go_big_quiet_step ((go_at_call 66; exact Calls.aft (within_any _ _ _ _ Hd.out _))))
              refine wpQuiet_nil ?_
              rintro _ ⟨p, rfl⟩
              have hb2 : Below w.heap.size w p.world := hbW.trans (p.below.mono hbW.size)
              go_wp2
              go_roundw
              case rel => exact ⟨k + 1, by omega, by go_num, enOk_succ Hpre.out Hek.out hA.1 hA.2 hB (fun _ f hf => by rw [Hj.out] at hf; obtain rfl := Option.some.inj hf; omega), hb2⟩
              case measure => simp [intOf]; omega
        · have hBd : decide ((20 : Int) < (s.size : Int)) = true := decide_eq_true (by omega)
          refine wp_region_aft (by kernel_rfl) (by kernel_rfl) ?_
          repeat (go_big_quiet_step ((go_at_call 66; exact Calls.aft (within_any _ _ _ _ Hd.out _))))
          refine wpQuiet_nil ?_
          rintro _ ⟨p, rfl⟩
          have hb2 : Below w.heap.size w p.world := hbW.trans (p.below.mono hbW.size)
          go_wp2
          go_ret
          exact ⟨by rw [goodEn_bad hl1 (enOk_not_B Hek.out hB)]; rfl, hb2⟩
      · have Hd := Lib.hid (decide_eq_false hA)
        refine wp_region_aft (by kernel_rfl) (by kernel_rfl) ?_
        repeat (go_big_quiet_step ((go_at_call 66; exact Calls.aft (within_any _ _ _ _ Hd.out _))))
        refine wpQuiet_nil ?_
        rintro _ ⟨p, rfl⟩
        have hb2 : Below w.heap.size w p.world := hbW.trans (p.below.mono hbW.size)
        go_wp2
        go_ret
        exact ⟨by rw [goodEn_bad hl1 (enOk_not_A Hek.out hA)]; rfl, hb2⟩
    · obtain rfl : k = n := by omega
      by_cases hL : k ≤ 40
      · have hLd : decide ((k : Int) ≤ 40) = true := decide_eq_true (by omega)
        go_wp2
        go_ret
        exact ⟨by rw [goodEn_yes Hn.out hL Hpre.out]; rfl, hbel⟩
      · have hLd : decide ((k : Int) ≤ 40) = false := decide_eq_false (by omega)
        go_wp2
        go_ret
        exact ⟨by rw [goodEn_long (Hn.out ▸ hL)]; rfl, hbel⟩

end Go.Proofs.Ytgcliipdkoefaaa
