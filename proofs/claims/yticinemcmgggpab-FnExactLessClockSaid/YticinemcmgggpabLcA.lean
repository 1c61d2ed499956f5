/-
  Contracts: LessClock of the reference and of the program.
-/
import Derived.Test.YticinemcmgggpabCkA
import Derived.Test.YticinemcmgggpabInE
namespace Go.Proofs.Yticinemcmgggpab
open Go.ChangeShapes Go.WideShapes Go.ChangeAt Go.RowKit Go.BigFrame
set_option linter.unusedVariables false

/-- No number of the first is greater. -/
def leAll (a b : List Int) : Bool := (a.zip b).all fun p => decide (p.1 ≤ p.2)
theorem leAll_take {a b : List Int} {k : Nat} (ha : k < a.length) (hb : k < b.length) (h : leAll (a.take k) (b.take k) = true) (hk : a[k] ≤ b[k]) : leAll (a.take (k + 1)) (b.take (k + 1)) = true := by
  unfold leAll at *
  rw [List.take_succ_eq_append_getElem ha, List.take_succ_eq_append_getElem hb, List.zip_append (by simp; omega), List.all_append, h]
  simp [hk]
theorem leAll_not {a b : List Int} {k : Nat} (ha : k < a.length) (hb : k < b.length) (hk : b[k] < a[k]) : leAll a b = false := by
  unfold leAll
  rw [List.all_eq_false]
  refine ⟨(a[k], b[k]), ?_, by simpa using hk⟩
  have : (a.zip b)[k]'(by simp; omega) = (a[k], b[k]) := by simp
  rw [← this]
  exact List.getElem_mem _
/-- What LessClock answers. -/
def lessB (a b : List Int) : Bool := okCk a b && (leAll a b && !decide (a = b))
theorem okCk_len {a b : List Int} (h : okCk a b = true) : a.length = b.length := by
  unfold okCk at h
  simp only [Bool.and_eq_true, decide_eq_true_eq] at h
  exact h.2.1

theorem spec_LessClock_any (a b : List Int) (w : World) (S : Nat → Prop) (hS : ∀ b, S b → b < w.heap.size) (A A' : Option Addr) (n c n' c' : Nat) (hl0 : RepL w S a A n c) (hl1 : RepL w S b A' n' c') :
    Calls Try.prog 19 #[.slice A n c, .slice A' n' c'] w fun x w' => x = .returned (.tuple #[.bool (lessB a b), .bool (okCk a b)]) ∧ Below w.heap.size w w' := by
  have hbd := hl0.bd
  have hbd' := hl1.bd
  obtain ⟨hn, -⟩ := id hl0
  obtain ⟨hn', -⟩ := id hl1
  have Hn := Lib.hid hn
  have Hn' := Lib.hid hn'
  clear hn hn'
  obtain ⟨r1, hr1⟩ : ∃ r, clockOk a = r := ⟨_, rfl⟩
  obtain ⟨r2, hr2⟩ : ∃ r, clockOk b = r := ⟨_, rfl⟩
  have Hok0 := Lib.hid (show okCk a b = (r1 && (r2 && decide (n = n'))) by rw [okCk_spec, hr1, hr2, Hn.out, Hn'.out])
  have H1 := Lib.hid hr1
  have H2 := Lib.hid hr2
  clear hr1 hr2
  cases r1 with
  | false =>
    have Hok := Lib.hid (show okCk a b = false by rw [Hok0.out]; rfl)
    have Hf := Lib.hid (show lessB a b = false by unfold lessB; rw [Hok.out]; rfl)
    go_enter Try.func19, Try.ntmps19
    go_wp2_with fail
    refine (l11Clock_any a _ H1.out w S hS A n c hl0).mono ?_
    rintro e w1 ⟨rfl, b1⟩
    go_wp2_with fail
    go_ret2
    exact ⟨by rw [Hf.out, Hok.out]; rfl, b1⟩
  | true =>
    cases r2 with
    | false =>
      have Hok := Lib.hid (show okCk a b = false by rw [Hok0.out]; rfl)
      have Hf := Lib.hid (show lessB a b = false by unfold lessB; rw [Hok.out]; rfl)
      go_enter Try.func19, Try.ntmps19
      go_wp2_with fail
      refine (l11Clock_any a _ H1.out w S hS A n c hl0).mono ?_
      rintro e w1 ⟨rfl, b1⟩
      go_wp2_with fail
      refine (l11Clock_any b _ H2.out w1 S (fun x hx => Nat.lt_of_lt_of_le (hS x hx) b1.size) A' n' c' (hl1.keep (fun p hp => b1.cell (hS _ hp)))).mono ?_
      rintro e w2 ⟨rfl, b2⟩
      go_wp2_with fail
      go_ret2
      exact ⟨by rw [Hf.out, Hok.out]; rfl, bnext b1 b2⟩
    | true =>
      by_cases hne : n = n'
      · have hd2 : ((n : Int) != (n' : Int)) = false := by simp [hne]
        have Hok := Lib.hid (show okCk a b = true by rw [Hok0.out, decide_eq_true hne]; rfl)
        have Hne := Lib.hid hne
        rw [Hok.out]
        clear hne
        go_enter Try.func19, Try.ntmps19
        go_wp2_with fail
        refine (l11Clock_any a _ H1.out w S hS A n c hl0).mono ?_
        rintro e w1 ⟨rfl, b1⟩
        go_wp2_with fail
        refine (l11Clock_any b _ H2.out w1 S (fun x hx => Nat.lt_of_lt_of_le (hS x hx) b1.size) A' n' c' (hl1.keep (fun p hp => b1.cell (hS _ hp)))).mono ?_
        rintro e w2 ⟨rfl, b2⟩
        have b12 := bnext b1 b2
        go_wp2_with fail
        go_loopw [24] (fun i wr => ∃ k : Nat, k ≤ n ∧ i = .int .i64 k ∧ leAll (a.take k) (b.take k) = true ∧ Below w.heap.size w wr) (fun i _ => n - (intOf i).toNat)
        case atStart => exact ⟨0, Nat.zero_le _, rfl, rfl, b12⟩
        case round =>
          obtain ⟨k, hk, rfl, hpre, hbel⟩ := hrel
          have Hpre := Lib.hid hpre
          clear hpre
          by_cases hlt : k < n
          · have hk1 : k < a.length := by have := Hn.out; omega
            have hk2 : k < b.length := by have := Hn'.out; have := Hne.out; omega
            have hlt' : k < n' := by have := Hne.out; omega
            have hI : (k : Int) < (n : Int) := by omega
            have hI' : (k : Int) < (n' : Int) := by omega
            have hI0 : (0 : Int) ≤ (k : Int) := by omega
            obtain ⟨ba, off, rfl, hSb, hc, hi1⟩ := hl0.at1 rfl hk1
            obtain ⟨bb, off', rfl, hSb', hc', hi1'⟩ := hl1.at1 rfl hk2
            have hc0 : ∀ p : Aft wr, p.world.cell? ⟨ba, off + k, none⟩ = some (.int .i64 a[k]) := Aft.cell ((hbel.cell (hS _ hSb)).trans (hc _ rfl))
            have hd0 : ∀ p : Aft wr, p.world.cell? ⟨bb, off' + k, none⟩ = some (.int .i64 b[k]) := Aft.cell ((hbel.cell (hS _ hSb')).trans (hc' _ rfl))
            clear hc hc' hi1 hi1'
            by_cases hgt : b[k] < a[k]
            · have hd : decide (b[k] < a[k]) = true := decide_eq_true hgt
              have Hf := Lib.hid (show lessB a b = false by unfold lessB; rw [leAll_not hk1 hk2 hgt]; simp)
              go_wp2_with fail
              refine wp_region_aft (by kernel_rfl) (by kernel_rfl) ?_
              repeat (go_big_quiet_step (fail))
              refine wpQuiet_nil ?_
              rintro _ ⟨p, rfl⟩
              have hb2 : Below w.heap.size w p.world := hbel.trans (p.below.mono hbel.size)
              go_wp2_with fail
              go_ret2
              exact ⟨by rw [Hf.out]; rfl, hb2⟩
            · have hd : decide (b[k] < a[k]) = false := decide_eq_false hgt
              have Hs := Lib.hid (leAll_take hk1 hk2 Hpre.out (by omega))
              go_wp2_with fail
              refine wp_region_aft (by kernel_rfl) (by kernel_rfl) ?_
              repeat (go_big_quiet_step (fail))
              refine wpQuiet_nil ?_
              rintro _ ⟨p, rfl⟩
              have hb2 : Below w.heap.size w p.world := hbel.trans (p.below.mono hbel.size)
              go_wp2_with fail
              go_roundw
              case rel => exact ⟨k + 1, by omega, by go_num, Hs.out, hb2⟩
              case measure => simp [intOf]; omega
          · obtain ⟨q, hq⟩ : ∃ q, decide (a = b) = q := ⟨_, rfl⟩
            have Hf := Lib.hid (show lessB a b = !q by
              have h1 := Hpre.out
              rw [List.take_of_length_le (by have := Hn.out; omega), List.take_of_length_le (by have := Hn'.out; have := Hne.out; omega)] at h1
              unfold lessB
              rw [Hok.out, h1, hq]
              rfl)
            have Hq := Lib.hid hq
            clear hq
            go_wp2_with fail
            refine (l1Same_any a b wr S (fun x hx => Nat.lt_of_lt_of_le (hS x hx) hbel.size) A A' n c n' c' (hl0.keep (fun p hp => hbel.cell (hS _ hp))) (hl1.keep (fun p hp => hbel.cell (hS _ hp)))).mono ?_
            rintro e w9 ⟨rfl, b9⟩
            rw [Hq.out]
            go_wp2_with fail
            go_ret2
            exact ⟨by rw [Hf.out]; rfl, hbel.trans (b9.mono hbel.size)⟩
      · have hd2 : ((n : Int) != (n' : Int)) = true := by simp; omega
        have Hok := Lib.hid (show okCk a b = false by rw [Hok0.out, decide_eq_false hne]; rfl)
        have Hf := Lib.hid (show lessB a b = false by unfold lessB; rw [Hok.out]; rfl)
        go_enter Try.func19, Try.ntmps19
        go_wp2_with fail
        refine (l11Clock_any a _ H1.out w S hS A n c hl0).mono ?_
        rintro e w1 ⟨rfl, b1⟩
        go_wp2_with fail
        refine (l11Clock_any b _ H2.out w1 S (fun x hx => Nat.lt_of_lt_of_le (hS x hx) b1.size) A' n' c' (hl1.keep (fun p hp => b1.cell (hS _ hp)))).mono ?_
        rintro e w2 ⟨rfl, b2⟩
        go_wp2_with fail
        go_ret2
        exact ⟨by rw [Hf.out, Hok.out]; rfl, bnext b1 b2⟩

theorem impl_LessClock_any (a b : List Int) (w : World) (S : Nat → Prop) (hS : ∀ b, S b → b < w.heap.size) (A A' : Option Addr) (n c n' c' : Nat) (hl0 : RepL w S a A n c) (hl1 : RepL w S b A' n' c') :
    Calls Try.prog 20 #[.slice A n c, .slice A' n' c'] w fun x w' => x = .returned (.tuple #[.bool (lessB a b), .bool (okCk a b)]) ∧ Below w.heap.size w w' := by
  have hbd := hl0.bd
  have hbd' := hl1.bd
  obtain ⟨hn, -⟩ := id hl0
  obtain ⟨hn', -⟩ := id hl1
  have Hn := Lib.hid hn
  have Hn' := Lib.hid hn'
  clear hn hn'
  obtain ⟨r1, hr1⟩ : ∃ r, okCk a b = r := ⟨_, rfl⟩
  have Hok := Lib.hid hr1
  clear hr1
  cases r1 with
  | false =>
    have Hf := Lib.hid (show lessB a b = false by unfold lessB; rw [Hok.out]; rfl)
    go_enter Try.func20, Try.ntmps20
    go_wp2_with fail
    refine (areClocks_any a b _ Hok.out w S hS A A' n c n' c' hl0 hl1).mono ?_
    rintro e w1 ⟨rfl, b1⟩
    go_wp2_with fail
    go_ret2
    exact ⟨by rw [Hf.out, Hok.out]; rfl, b1⟩
  | true =>
    have Hne := Lib.hid (show n = n' by rw [Hn.out, Hn'.out]; exact okCk_len Hok.out)
    rw [Hok.out]
    go_enter Try.func20, Try.ntmps20
    go_wp2_with fail
    refine (areClocks_any a b _ Hok.out w S hS A A' n c n' c' hl0 hl1).mono ?_
    rintro e w1 ⟨rfl, b12⟩
    go_wp2_with fail
    go_loopw [14] (fun i wr => ∃ k : Nat, k ≤ n ∧ i = .int .i64 k ∧ leAll (a.take k) (b.take k) = true ∧ Below w.heap.size w wr) (fun i _ => n - (intOf i).toNat)
    case atStart => exact ⟨0, Nat.zero_le _, rfl, rfl, b12⟩
    case round =>
      obtain ⟨k, hk, rfl, hpre, hbel⟩ := hrel
      have Hpre := Lib.hid hpre
      clear hpre
      by_cases hlt : k < n
      · have hk1 : k < a.length := by have := Hn.out; omega
        have hk2 : k < b.length := by have := Hn'.out; have := Hne.out; omega
        have hlt' : k < n' := by have := Hne.out; omega
        have hI : (k : Int) < (n : Int) := by omega
        have hI' : (k : Int) < (n' : Int) := by omega
        have hI0 : (0 : Int) ≤ (k : Int) := by omega
        obtain ⟨ba, off, rfl, hSb, hc, hi1⟩ := hl0.at1 rfl hk1
        obtain ⟨bb, off', rfl, hSb', hc', hi1'⟩ := hl1.at1 rfl hk2
        have hc0 : wr.cell? ⟨ba, off + k, none⟩ = some (.int .i64 a[k]) := (hbel.cell (hS _ hSb)).trans (hc _ rfl)
        have hd0 : wr.cell? ⟨bb, off' + k, none⟩ = some (.int .i64 b[k]) := (hbel.cell (hS _ hSb')).trans (hc' _ rfl)
        clear hc hc' hi1 hi1'
        by_cases hgt : b[k] < a[k]
        · have hd : decide (b[k] < a[k]) = true := decide_eq_true hgt
          have Hf := Lib.hid (show lessB a b = false by unfold lessB; rw [leAll_not hk1 hk2 hgt]; simp)
          have hb2 := hbel
          go_wp2_with fail
          go_ret2
          exact ⟨by rw [Hf.out]; rfl, hb2⟩
        · have hd : decide (b[k] < a[k]) = false := decide_eq_false hgt
          have Hs := Lib.hid (leAll_take hk1 hk2 Hpre.out (by omega))
          have hb2 := hbel
          go_wp2_with fail
          go_roundw
          case rel => exact ⟨k + 1, by omega, by go_num, Hs.out, hb2⟩
          case measure => simp [intOf]; omega
      · obtain ⟨q, hq⟩ : ∃ q, decide (a = b) = q := ⟨_, rfl⟩
        have Hf := Lib.hid (show lessB a b = !q by
          have h1 := Hpre.out
          rw [List.take_of_length_le (by have := Hn.out; omega), List.take_of_length_le (by have := Hn'.out; have := Hne.out; omega)] at h1
          unfold lessB
          rw [Hok.out, h1, hq]
          rfl)
        have Hq := Lib.hid hq
        clear hq
        go_wp2_with fail
        refine (slicesEqual_any a b wr S (fun x hx => Nat.lt_of_lt_of_le (hS x hx) hbel.size) A A' n c n' c' (hl0.keep (fun p hp => hbel.cell (hS _ hp))) (hl1.keep (fun p hp => hbel.cell (hS _ hp)))).mono ?_
        rintro e w9 ⟨rfl, b9⟩
        rw [Hq.out]
        go_wp2_with fail
        go_ret2
        exact ⟨by rw [Hf.out]; rfl, hbel.trans (b9.mono hbel.size)⟩

end Go.Proofs.Yticinemcmgggpab
