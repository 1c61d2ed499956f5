/-
  Contracts: EndOfEpoch of the reference and of the program.
-/
import Derived.Test.YtgcliipdkoefaaaEnC
namespace Go.Proofs.Ytgcliipdkoefaaa
open Go.ChangeShapes Go.WideShapes Go.ChangeAt Go.RowKit Go.BigFrame
set_option linter.unusedVariables false

/-- How many entries have an epoch that is m or less. -/
def cntLe (m : Int) (l : List IS) : Nat := (l.filter fun e => decide (e.n ≤ m)).length
theorem cntLe_snoc (m : Int) (l : List IS) (e : IS) : cntLe m (l ++ [e]) = cntLe m l + if e.n ≤ m then 1 else 0 := by
  unfold cntLe
  rw [List.filter_append]
  by_cases h : e.n ≤ m <;> simp [h]
theorem cntLe_le (m : Int) (l : List IS) : cntLe m l ≤ l.length := List.length_filter_le _ _
theorem goodEn_spec {l : List IS} (h : goodEn l = true) : l.length ≤ 40 ∧ ∀ i, i < l.length → enOk l i := by
  classical
  unfold goodEn at h
  simpa using h
/-- The epochs of good entries rise. -/
theorem rises {l : List IS} (h : ∀ i, i < l.length → enOk l i) : ∀ (j i : Nat) (x y : IS), i ≤ j → l[i]? = some x → l[j]? = some y → x.n ≤ y.n := by
  intro j
  induction j with
  | zero =>
    intro i x y hij hx hy
    obtain rfl : i = 0 := by omega
    rw [hx] at hy
    obtain rfl := Option.some.inj hy
    exact Int.le_refl _
  | succ j ih =>
    intro i x y hij hx hy
    by_cases hi : i = j + 1
    · subst hi
      rw [hx] at hy
      obtain rfl := Option.some.inj hy
      exact Int.le_refl _
    · have hj : j + 1 < l.length := (List.getElem?_eq_some_iff.1 hy).1
      have hz : l[j]? = some l[j] := List.getElem?_eq_getElem (by omega)
      have h1 := ih i x l[j] (by omega) hx hz
      have h2 := (h (j + 1) hj y hy).2.2.2 (by omega) l[j] (by simp)
      omega
theorem cntLe_split {l : List IS} (h : ∀ i, i < l.length → enOk l i) {m : Int} {k : Nat} (hk : k ≤ l.length) (h1 : ∀ i e, i < k → l[i]? = some e → e.n ≤ m) (h2 : ∀ e, l[k]? = some e → ¬ e.n ≤ m) : cntLe m l = k := by
  unfold cntLe
  conv => lhs; rw [← List.take_append_drop k l]
  rw [List.filter_append, List.length_append]
  have e1 : (l.take k).filter (fun e => decide (e.n ≤ m)) = l.take k := by
    rw [List.filter_eq_self]
    intro a ha
    obtain ⟨i, hi, rfl⟩ := List.mem_iff_getElem.1 ha
    simp only [List.length_take] at hi
    have := h1 i l[i] (by omega) (List.getElem?_eq_getElem (by omega))
    simpa using this
  have e2 : (l.drop k).filter (fun e => decide (e.n ≤ m)) = [] := by
    rw [List.filter_eq_nil_iff]
    intro a ha
    obtain ⟨i, hi, rfl⟩ := List.mem_iff_getElem.1 ha
    simp only [List.length_drop] at hi
    have hk' : k < l.length := by omega
    have h3 := h2 l[k] (List.getElem?_eq_getElem hk')
    have h4 := rises h (k + i) k l[k] l[k + i] (by omega) (List.getElem?_eq_getElem hk') (List.getElem?_eq_getElem (by omega))
    simp only [List.getElem_drop, decide_eq_true_eq]
    omega
  rw [e1, e2, List.length_take]
  simp
  omega

theorem l7End_any (l : List IS) (m : Int) (hm : I64 m) (w : World) (S : Nat → Prop) (hS : ∀ b, S b → b < w.heap.size) (A : Option Addr) (n c : Nat) (hl0 : RepL w S l A n c) :
    Calls Try.prog 70 #[.slice A n c, .int .i64 m] w fun x w' => x = .returned (.int .i64 (cntLe m l)) ∧ Below w.heap.size w w' := by
  have hbd := hl0.bd
  obtain ⟨hm1, hm2⟩ := hm
  obtain ⟨hn, -⟩ := id hl0
  have Hn := Lib.hid hn
  clear hn
  go_enter Try.func70, Try.ntmps70
  go_wp2
  go_loopw [5, 10] (fun q i wr => ∃ k c : Nat, k ≤ n ∧ i = .int .i64 k ∧ q = .int .i64 c ∧ c = cntLe m (l.take k) ∧ c ≤ k ∧ Below w.heap.size w wr) (fun _ i _ => n - (intOf i).toNat)
  case atStart => exact ⟨0, 0, Nat.zero_le _, rfl, rfl, by simp [cntLe], Nat.le_refl _, Below.refl _ _⟩
  case round =>
    obtain ⟨k, q, hk, rfl, rfl, hq, hqk, hbel⟩ := hrel
    have Hq := Lib.hid hq
    clear hq
    by_cases hlt : k < n
    · have hl1 : k < l.length := by have := Hn.out; omega
      obtain ⟨b, off, xs, rfl, hSb, hc, rfl, hi1, hi2⟩ := hl0.at_ hl1
      have hc0 : wr.cell? ⟨b, off + k * 2, none⟩ = some (.int .i64 l[k].n) := (hbel.cell (hS _ hSb)).trans (hc 0 _ rfl)
      have hc1 : wr.cell? ⟨b, off + k * 2 + 1, none⟩ = some (.string l[k].s) := (hbel.cell (hS _ hSb)).trans (hc 1 _ rfl)
      clear hc hi1 hi2
      have Hs := Lib.hid (show cntLe m (l.take (k + 1)) = cntLe m (l.take k) + if l[k].n ≤ m then 1 else 0 by rw [List.take_succ_eq_append_getElem hl1, cntLe_snoc])
      by_cases hle : l[k].n ≤ m
      · go_wp2
        go_roundw
        case rel => exact ⟨k + 1, q + 1, by omega, by go_num, by go_num, by rw [Hs.out, if_pos hle, ← Hq.out], by omega, hbel.alloc hbel.size _⟩
        case measure => simp [intOf]; omega
      · go_wp2
        go_roundw
        case rel => exact ⟨k + 1, q, by omega, by go_num, rfl, by rw [Hs.out, if_neg hle, ← Hq.out]; rfl, by omega, hbel.alloc hbel.size _⟩
        case measure => simp [intOf]; omega
    · have Hf := Lib.hid (show cntLe m l = q by have e := Hq.out; rw [List.take_of_length_le (by have := Hn.out; omega)] at e; exact e.symm)
      go_wp2
      go_ret
      exact ⟨by rw [Hf.out]; rfl, hbel⟩

theorem endOfEpoch_any (l : List IS) (hg : goodEn l = true) (m : Int) (hm : I64 m) (w : World) (S : Nat → Prop) (hS : ∀ b, S b → b < w.heap.size) (A : Option Addr) (n c : Nat) (hl0 : RepL w S l A n c) :
    Calls Try.prog 67 #[.slice A n c, .int .i64 m] w fun x w' => x = .returned (.int .i64 (cntLe m l)) ∧ Below w.heap.size w w' := by
  have hbd := hl0.bd
  have Hg := Lib.hid (goodEn_spec hg).2
  clear hg
  obtain ⟨hm1, hm2⟩ := hm
  obtain ⟨hn, -⟩ := id hl0
  have Hn := Lib.hid hn
  clear hn
  go_enter Try.func67, Try.ntmps67
  go_wp2
  go_loopw [5] (fun i wr => ∃ k : Nat, k ≤ n ∧ i = .int .i64 k ∧ (∀ i e, i < k → l[i]? = some e → e.n ≤ m) ∧ Below w.heap.size w wr) (fun i _ => n - (intOf i).toNat)
  case atStart => exact ⟨0, Nat.zero_le _, rfl, fun i e hi => absurd hi (by omega), Below.refl _ _⟩
  case round =>
    obtain ⟨k, hk, rfl, hpre, hbel⟩ := hrel
    have Hpre := Lib.hid hpre
    clear hpre
    by_cases hlt : k < n
    · have hd : decide (k < n) = true := decide_eq_true hlt
      have hl1 : k < l.length := by have := Hn.out; omega
      obtain ⟨b, off, xs, rfl, hSb, hc, rfl, hi1, hi2⟩ := hl0.at_ hl1
      have hc0 : wr.cell? ⟨b, off + k * 2, none⟩ = some (.int .i64 l[k].n) := (hbel.cell (hS _ hSb)).trans (hc 0 _ rfl)
      clear hc hi1 hi2
      by_cases hle : l[k].n ≤ m
      · have hd2 : decide (l[k].n ≤ m) = true := decide_eq_true hle
        go_wp2
        go_roundw
        case rel =>
          refine ⟨k + 1, by omega, by go_num, fun i e hi he => ?_, hbel⟩
          by_cases hik : i = k
          · subst hik
            rw [List.getElem?_eq_getElem hl1] at he
            obtain rfl := Option.some.inj he
            exact hle
          · exact Hpre.out i e (by omega) he
        case measure => simp [intOf]; omega
      · have hd2 : decide (l[k].n ≤ m) = false := decide_eq_false hle
        have Hf := Lib.hid (cntLe_split Hg.out (by omega) Hpre.out (fun e he => by rw [List.getElem?_eq_getElem hl1] at he; obtain rfl := Option.some.inj he; exact hle))
        go_wp2
        go_ret
        exact ⟨by rw [Hf.out]; rfl, hbel⟩
    · have hd : decide (k < n) = false := decide_eq_false hlt
      have Hf := Lib.hid (cntLe_split Hg.out (by have := Hn.out; omega) Hpre.out (fun e he => by rw [List.getElem?_eq_none (by have := Hn.out; omega)] at he; cases he))
      go_wp2
      go_ret
      exact ⟨by rw [Hf.out]; rfl, hbel⟩

noncomputable def endOk (l : List IS) (m : Int) : Bool := goodEn l && decide (0 ≤ m ∧ m ≤ 1000)
noncomputable def endInt (l : List IS) (m : Int) : Int := if endOk l m then cntLe m l else 0

theorem spec_EndOfEpoch_any (l : List IS) (m : Int) (hm : I64 m) (w : World) (S : Nat → Prop) (hS : ∀ b, S b → b < w.heap.size) (A : Option Addr) (n c : Nat) (hl0 : RepL w S l A n c) :
    Calls Try.prog 38 #[.slice A n c, .int .i64 m] w fun x w' => x = .returned (.tuple #[.int .i64 (endInt l m), .bool (endOk l m)]) ∧ Below w.heap.size w w' := by
  have C1 := Lib.hid (spec_GoodEntries_any l w S hS A n c hl0)
  obtain ⟨r, hr⟩ : ∃ r, goodEn l = r := ⟨_, rfl⟩
  obtain ⟨q, hq⟩ : ∃ q, decide (0 ≤ m ∧ m ≤ 1000) = q := ⟨_, rfl⟩
  rw [hr] at C1
  have Hr := Lib.hid hr
  have Hq := Lib.hid hq
  clear hr hq
  cases r with
  | true =>
    cases q with
    | true =>
      have Hk := Lib.hid (show endOk l m = true by unfold endOk; rw [Hr.out, Hq.out]; rfl)
      have Hf := Lib.hid (show endInt l m = cntLe m l by unfold endInt; rw [Hk.out]; rfl)
      go_enter Try.func38, Try.ntmps38
      go_wp2_with fail
      refine C1.out.mono ?_
      rintro e w1 ⟨rfl, b1⟩
      go_wp2_with fail
      refine (l1In_any _ _ _ _ Hq.out _).mono ?_
      rintro e w2 ⟨rfl, b2⟩
      have b12 := bnext b1 b2
      go_wp2_with fail
      refine (l7End_any l m hm w2 S (fun b hb => Nat.lt_of_lt_of_le (hS b hb) b12.size) A n c (hl0.keep (fun p hp => b12.cell (hS _ hp)))).mono ?_
      rintro e w3 ⟨rfl, b3⟩
      go_wp2_with fail
      go_ret2
      exact ⟨by rw [Hf.out, Hk.out]; rfl, bnext b12 b3⟩
    | false =>
      have Hk := Lib.hid (show endOk l m = false by unfold endOk; rw [Hr.out, Hq.out]; rfl)
      have Hf := Lib.hid (show endInt l m = 0 by unfold endInt; rw [Hk.out]; rfl)
      go_enter Try.func38, Try.ntmps38
      go_wp2_with fail
      refine C1.out.mono ?_
      rintro e w1 ⟨rfl, b1⟩
      go_wp2_with fail
      refine (l1In_any _ _ _ _ Hq.out _).mono ?_
      rintro e w2 ⟨rfl, b2⟩
      go_wp2_with fail
      go_ret2
      exact ⟨by rw [Hf.out, Hk.out]; rfl, bnext b1 b2⟩
  | false =>
    have Hk := Lib.hid (show endOk l m = false by unfold endOk; rw [Hr.out]; rfl)
    have Hf := Lib.hid (show endInt l m = 0 by unfold endInt; rw [Hk.out]; rfl)
    go_enter Try.func38, Try.ntmps38
    go_wp2_with fail
    refine C1.out.mono ?_
    rintro e w1 ⟨rfl, b1⟩
    go_wp2_with fail
    go_ret2
    exact ⟨by rw [Hf.out, Hk.out]; rfl, b1⟩

theorem impl_EndOfEpoch_any (l : List IS) (m : Int) (hm : I64 m) (w : World) (S : Nat → Prop) (hS : ∀ b, S b → b < w.heap.size) (A : Option Addr) (n c : Nat) (hl0 : RepL w S l A n c) :
    Calls Try.prog 36 #[.slice A n c, .int .i64 m] w fun x w' => x = .returned (.tuple #[.int .i64 (endInt l m), .bool (endOk l m)]) ∧ Below w.heap.size w w' := by
  have C1 := Lib.hid (areEntries_any l w S hS A n c hl0)
  obtain ⟨r, hr⟩ : ∃ r, goodEn l = r := ⟨_, rfl⟩
  obtain ⟨q, hq⟩ : ∃ q, decide (0 ≤ m ∧ m ≤ 1000) = q := ⟨_, rfl⟩
  rw [hr] at C1
  have Hr := Lib.hid hr
  have Hq := Lib.hid hq
  clear hr hq
  cases r with
  | true =>
    cases q with
    | true =>
      have Hk := Lib.hid (show endOk l m = true by unfold endOk; rw [Hr.out, Hq.out]; rfl)
      have Hf := Lib.hid (show endInt l m = cntLe m l by unfold endInt; rw [Hk.out]; rfl)
      go_enter Try.func36, Try.ntmps36
      go_wp2_with fail
      refine C1.out.mono ?_
      rintro e w1 ⟨rfl, b1⟩
      go_wp2_with fail
      refine (within_any _ _ _ _ Hq.out _).mono ?_
      rintro e w2 ⟨rfl, b2⟩
      have b12 := bnext b1 b2
      go_wp2_with fail
      refine (endOfEpoch_any l Hr.out m hm w2 S (fun b hb => Nat.lt_of_lt_of_le (hS b hb) b12.size) A n c (hl0.keep (fun p hp => b12.cell (hS _ hp)))).mono ?_
      rintro e w3 ⟨rfl, b3⟩
      go_wp2_with fail
      go_ret2
      exact ⟨by rw [Hf.out, Hk.out]; rfl, bnext b12 b3⟩
    | false =>
      have Hk := Lib.hid (show endOk l m = false by unfold endOk; rw [Hr.out, Hq.out]; rfl)
      have Hf := Lib.hid (show endInt l m = 0 by unfold endInt; rw [Hk.out]; rfl)
      go_enter Try.func36, Try.ntmps36
      go_wp2_with fail
      refine C1.out.mono ?_
      rintro e w1 ⟨rfl, b1⟩
      go_wp2_with fail
      refine (within_any _ _ _ _ Hq.out _).mono ?_
      rintro e w2 ⟨rfl, b2⟩
      go_wp2_with fail
      go_ret2
      exact ⟨by rw [Hf.out, Hk.out]; rfl, bnext b1 b2⟩
  | false =>
    have Hk := Lib.hid (show endOk l m = false by unfold endOk; rw [Hr.out]; rfl)
    have Hf := Lib.hid (show endInt l m = 0 by unfold endInt; rw [Hk.out]; rfl)
    go_enter Try.func36, Try.ntmps36
    go_wp2_with fail
    refine C1.out.mono ?_
    rintro e w1 ⟨rfl, b1⟩
    go_wp2_with fail
    go_ret2
    exact ⟨by rw [Hf.out, Hk.out]; rfl, b1⟩

end Go.Proofs.Ytgcliipdkoefaaa
