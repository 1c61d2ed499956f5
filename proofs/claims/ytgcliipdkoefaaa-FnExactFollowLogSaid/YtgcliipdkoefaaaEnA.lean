/-
  Contracts of the laws' own helpers over entries: to, eq, sz.
-/
import Derived.Test.YtgcliipdkoefaaaKit
namespace Go.Proofs.Ytgcliipdkoefaaa
open Go.ChangeShapes Go.WideShapes Go.ChangeAt Go.RowKit Go.BigFrame Go.Deep
set_option linter.unusedVariables false

theorem toEntry_any (e : IS) (w : World) :
    Calls Try.prog 45 #[.agg #[.int .i64 e.n, .string e.s]] w fun x w' => x = .returned (.agg #[.int .i64 e.n, .string e.s]) ∧ Below w.heap.size w w' := by
  go_enter Try.func45, Try.ntmps45
  go_wp2
  refine bodyPost_ret (v := .agg #[.int .i64 e.n, .string e.s]) (by simp [results, Try.results45, go_sem]) rfl ⟨rfl, ?_⟩
  repeat first | exact Below.refl _ _ | apply Below.drew | refine Below.alloc ?_ (by simp <;> omega) _ | refine Below.setCell ?_ (by simp) _

theorem infoEntry : (Try.prog.info? 52).map (fun i => (i.zero, i.size, i.bytes)) = some (some (.agg #[.int .i64 0, .string ByteArray.empty]), 2, 24) := by kernel_rfl

theorem toEntryS_any (l : List IS) (w : World) (S : Nat → Prop) (hS : ∀ b, S b → b < w.heap.size) (A : Option Addr) (n c : Nat) (h : RepL w S l A n c) (hn : n ≤ 1048576) :
    Calls Try.prog 11 #[.slice A n c] w fun e w' => ∃ A' c', e = .returned (.slice A' n c') ∧ w'.ownsRow w.heap.size 52 2 (.slice A' n c') n (encs l) ∧ RepL w' (fun b => w.heap.size ≤ b ∧ b < w'.heap.size) l A' n c' ∧ Below w.heap.size w w' := by
  obtain ⟨i0, hi, hz0, hz1, hz2⟩ := info_parts infoEntry
  have hbd := h.bd
  have hmk := fun W => run_make_rowN (P := Try.prog) 26 52 i0 _ Try.underlying26 hi hz0 .i64 .i64 n n (Nat.le_refl _) (by rw [hz2]; omega) (by omega) W
  go_enter Try.func11, Try.ntmps11
  go_wp2
  go_loopw [4] (fun i wr => ∃ k : Nat, k ≤ n ∧ i = .int .i64 k ∧ wr.ownsRow w.heap.size 52 2 (.slice (some ⟨w.heap.size, 0, none⟩) n n) n (fill l k) ∧ Below w.heap.size w wr) (fun i _ => n - (intOf i).toNat)
  case atStart => exact ⟨0, Nat.zero_le _, rfl, own_made w _ _ l rfl rfl h.1 (by omega), (Below.refl _ _).alloc (Nat.le_refl _) _⟩
  case round =>
    obtain ⟨k, hk, rfl, hown, hbel⟩ := hrel
    obtain ⟨rfl, -⟩ := id h
    by_cases hlt : k < l.length
    · obtain ⟨b, off, xs, rfl, hSb, hc, rfl, hi1⟩ := h.at_ hlt
      have hc0 : wr.cell? ⟨b, off + k * 2, none⟩ = some (.int .i64 l[k].n) := (hbel.cell (hS _ hSb)).trans (hc 0 _ rfl)
      have hc1 : wr.cell? ⟨b, off + k * 2 + 1, none⟩ = some (.string l[k].s) := (hbel.cell (hS _ hSb)).trans (hc 1 _ rfl)
      clear hc
      go_wp2_with (go_at_call 45; refine (toEntry_any l[k] _).mono ?_; rintro e w1 ⟨rfl, hb1⟩; (have hown1 := own_below hown hb1); (obtain ⟨u0, hu0⟩ := own_cell hown1 (j := k * 2) (by omega)); (obtain ⟨u1, hu1⟩ := own_cell hown1 (j := k * 2 + 1) (by omega)); (have hf0 := hown1.frozenAt (k * 2)); (have hf1 := hown1.frozenAt (k * 2 + 1)))
      go_roundw
      case rel =>
        have h2 := ((hown1.stored (k * 2) (.int .i64 l[k].n)).1.stored (k * 2 + 1) (.string l[k].s)).1
        refine ⟨k + 1, by omega, by go_num, ?_, ?_⟩
        · rw [← fill_step l k hlt]; exact h2
        · exact (((hbel.trans (hb1.mono hbel.size)).setCell (Nat.le_refl _) _).setCell (Nat.le_refl _) _)
      case measure => simp [intOf]; omega
    · go_wp2
      go_ret
      obtain rfl : k = l.length := by omega
      rw [fill_all] at hown
      obtain ⟨A', c', e, hr⟩ := RepL.of_own rfl hown h.ok
      simp only [Value.slice.injEq] at e
      obtain ⟨rfl, -, rfl⟩ := e
      exact ⟨_, _, rfl, hown, hr, hbel⟩

theorem eqEntry_any (e f : IS) (r : Bool) (hr : decide (e = f) = r) (w : World) :
    Calls Try.prog 48 #[.agg #[.int .i64 e.n, .string e.s], .agg #[.int .i64 f.n, .string f.s]] w fun x w' => x = .returned (.bool r) ∧ Below w.heap.size w w' := by
  obtain ⟨n0, s0⟩ := e
  obtain ⟨n1, s1⟩ := f
  subst hr
  go_enter Try.func48, Try.ntmps48
  go_wp2
  all_goals
    go_ret
    refine ⟨by simp_all [IS.mk.injEq, ba_inj], ?_⟩
    repeat first | exact Below.refl _ _ | apply Below.drew | refine Below.alloc ?_ (by simp <;> omega) _ | refine Below.setCell ?_ (by simp) _

theorem eqEntryS_any (l l' : List IS) (w : World) (S : Nat → Prop) (hS : ∀ b, S b → b < w.heap.size) (A A' : Option Addr) (n c n' c' : Nat) (h : RepL w S l A n c) (h' : RepL w S l' A' n' c') :
    Calls Try.prog 13 #[.slice A n c, .slice A' n' c'] w fun e w' => e = .returned (.bool (decide (l = l'))) ∧ Below w.heap.size w w' := by
  have hbd := h.bd
  have hbd' := h'.bd
  obtain ⟨hn, -⟩ := id h
  obtain ⟨hn', -⟩ := id h'
  by_cases hne : n = n'
  · have hne1 : ((n : Int) != (n' : Int)) = false := by simp [hne]
    have Hne := Lib.hid hne
    have Hn := Lib.hid hn
    have Hn' := Lib.hid hn'
    clear hne hn hn'
    go_enter Try.func13, Try.ntmps13
    go_wp2
    go_loopw [5] (fun i wr => ∃ k : Nat, k ≤ n ∧ i = .int .i64 k ∧ l.take k = l'.take k ∧ Below w.heap.size w wr) (fun i _ => n - (intOf i).toNat)
    case atStart => exact ⟨0, Nat.zero_le _, rfl, rfl, Below.refl _ _⟩
    case round =>
      obtain ⟨k, hk, rfl, hpre, hbel⟩ := hrel
      have Hpre := Lib.hid hpre
      clear hpre
      by_cases hlt : k < n
      · have hl1 : k < l.length := by have := Hn.out; omega
        have hl2 : k < l'.length := by have := Hn'.out; have := Hne.out; omega
        have hlt' : k < n' := by have := Hne.out; omega
        have hI : (k : Int) < (n : Int) := by omega
        have hI' : (k : Int) < (n' : Int) := by omega
        have hI0 : (0 : Int) ≤ (k : Int) := by omega
        obtain ⟨b, off, xs, rfl, hSb, hc, rfl, hi1⟩ := h.at_ hl1
        obtain ⟨b', off', xs', rfl, hSb', hc', rfl, hi1'⟩ := h'.at_ hl2
        have hc0 : ∀ p : Aft wr, p.world.cell? ⟨b, off + k * 2, none⟩ = some (.int .i64 l[k].n) := Aft.cell ((hbel.cell (hS _ hSb)).trans (hc 0 _ rfl))
        have hd0 : ∀ p : Aft wr, p.world.cell? ⟨b', off' + k * 2, none⟩ = some (.int .i64 l'[k].n) := Aft.cell ((hbel.cell (hS _ hSb')).trans (hc' 0 _ rfl))
        have hc1 : ∀ p : Aft wr, p.world.cell? ⟨b, off + k * 2 + 1, none⟩ = some (.string l[k].s) := Aft.cell ((hbel.cell (hS _ hSb)).trans (hc 1 _ rfl))
        have hd1 : ∀ p : Aft wr, p.world.cell? ⟨b', off' + k * 2 + 1, none⟩ = some (.string l'[k].s) := Aft.cell ((hbel.cell (hS _ hSb')).trans (hc' 1 _ rfl))
        clear hc hc' hi1 hi1'
        by_cases he : l[k] = l'[k]
        · have Hd := Lib.hid (decide_eq_true he)
          have He := Lib.hid he
          clear he
          go_wp2_with fail
          refine wp_region_aft (by kernel_rfl) (by kernel_rfl) ?_
          repeat (go_big_quiet_step ((go_at_call 48; exact Calls.aft (eqEntry_any _ _ _ Hd.out _))))
          refine wpQuiet_nil ?_
          rintro _ ⟨p, rfl⟩
          have hb2 : Below w.heap.size w p.world := hbel.trans (p.below.mono hbel.size)
          go_wp2
          go_roundw
          case rel => exact ⟨k + 1, by omega, by go_num, by rw [List.take_succ_eq_append_getElem hl1, List.take_succ_eq_append_getElem hl2, Hpre.out, He.out], hb2⟩
          case measure => simp [intOf]; omega
        · have Hd := Lib.hid (decide_eq_false he)
          have Hfin := Lib.hid (show decide (l = l') = false from decide_eq_false fun e => he (by subst e; rfl))
          clear he
          go_wp2_with fail
          refine wp_region_aft (by kernel_rfl) (by kernel_rfl) ?_
          repeat (go_big_quiet_step ((go_at_call 48; exact Calls.aft (eqEntry_any _ _ _ Hd.out _))))
          refine wpQuiet_nil ?_
          rintro _ ⟨p, rfl⟩
          have hb2 : Below w.heap.size w p.world := hbel.trans (p.below.mono hbel.size)
          go_wp2
          go_ret
          exact ⟨by rw [Hfin.out]; rfl, hb2⟩
      · go_wp2
        go_ret
        have e1 := Hn.out
        have e2 := Hn'.out
        have e3 := Hne.out
        have e4 := Hpre.out
        rw [List.take_of_length_le (by omega), List.take_of_length_le (by omega)] at e4
        exact ⟨by rw [decide_eq_true e4]; rfl, hbel⟩
  · have hne1 : ((n : Int) != (n' : Int)) = true := by simp; omega
    have Hfin := Lib.hid (show decide (l = l') = false from decide_eq_false fun e => hne (by rw [hn, hn', e]))
    clear hn hn' hne
    go_enter Try.func13, Try.ntmps13
    go_wp2
    go_ret
    exact ⟨by rw [Hfin.out]; rfl, Below.refl _ _⟩

theorem szEntry_any (e : IS) (left : Int) (w : World) (h1 : 0 ≤ left) (h2 : left ≤ 1048576) (hs0 : e.s.size ≤ maxLen) :
    Calls Try.prog 41 #[.agg #[.int .i64 e.n, .string e.s], .int .i64 left] w fun x w' => ∃ r : Int, x = .returned (.int .i64 r) ∧ -1 ≤ r ∧ r ≤ left ∧ (0 ≤ r → (e.s.size : Int) + r = left) ∧ Below w.heap.size w w' := by
  unfold maxLen at hs0
  go_enter Try.func41, Try.ntmps41
  go_wp2
  all_goals
    go_ret
    refine ⟨_, rfl, by omega, by omega, by omega, ?_⟩
    repeat first | exact Below.refl _ _ | apply Below.drew | refine Below.alloc ?_ (by simp <;> omega) _ | refine Below.setCell ?_ (by simp) _

/-- The letters of a list. -/
def lettersEntry (l : List IS) : Nat := (l.map fun e => e.s.size).sum
theorem szEntryS_any (l : List IS) (w : World) (S : Nat → Prop) (hS : ∀ b, S b → b < w.heap.size) (A : Option Addr) (n c : Nat) (left : Int) (h : RepL w S l A n c) (h1 : 0 ≤ left) (h2 : left ≤ 1048576) :
    Calls Try.prog 9 #[.slice A n c, .int .i64 left] w fun e w' => ∃ r : Int, e = .returned (.int .i64 r) ∧ -1 ≤ r ∧ r ≤ left ∧ (0 ≤ r → (n : Int) + (lettersEntry l : Int) + r = left) ∧ Below w.heap.size w w' := by
  have hbd := h.bd
  obtain ⟨hn, -⟩ := id h
  have Hn := Lib.hid hn
  clear hn
  go_enter Try.func9, Try.ntmps9
  by_cases hbig : left - n < 0
  · go_wp2
    go_ret
    exact ⟨_, rfl, by omega, by omega, by omega, Below.refl _ _⟩
  · go_wp2
    go_loopw [1, 5] (fun r i wr => ∃ (k : Nat) (q : Int), k ≤ n ∧ i = .int .i64 k ∧ r = .int .i64 q ∧ 0 ≤ q ∧ (n : Int) + (lettersEntry (l.take k) : Int) + q = left ∧ Below w.heap.size w wr) (fun _ i _ => n - (intOf i).toNat)
    case atStart => exact ⟨0, _, Nat.zero_le _, rfl, rfl, by omega, by simp [lettersEntry]; omega, Below.refl _ _⟩
    case round =>
      obtain ⟨k, q, hk, rfl, rfl, hq, hsum, hbel⟩ := hrel
      have hq2 : q ≤ 1048576 := by omega
      have Hsum := Lib.hid hsum
      clear hsum
      by_cases hlt : k < n
      · have hl1 : k < l.length := by have := Hn.out; omega
        obtain ⟨b, off, xs, rfl, hSb, hc, rfl, hi1⟩ := h.at_ hl1
        have hc0 : wr.cell? ⟨b, off + k * 2, none⟩ = some (.int .i64 l[k].n) := (hbel.cell (hS _ hSb)).trans (hc 0 _ rfl)
        have hc1 : wr.cell? ⟨b, off + k * 2 + 1, none⟩ = some (.string l[k].s) := (hbel.cell (hS _ hSb)).trans (hc 1 _ rfl)
        clear hc
        have hs0 : l[k].s.size ≤ maxLen := hi1.2
        clear hi1
        have Hst := Lib.hid (show lettersEntry (l.take (k + 1)) = lettersEntry (l.take k) + (l[k].s.size) by unfold lettersEntry; rw [List.take_succ_eq_append_getElem hl1, List.map_append, List.sum_append]; simp only [List.map_cons, List.map_nil, List.sum_cons, List.sum_nil, Nat.add_zero])
        go_wp2_with (go_at_call 41; refine (szEntry_any l[k] _ _ hq hq2 hs0).mono ?_; rintro e w1 ⟨r, rfl, hr1, hr2, hr3, hb1⟩)
        · go_ret
          exact ⟨_, rfl, by omega, by omega, by omega, hbel.trans (hb1.mono hbel.size)⟩
        · go_roundw
          case rel =>
            have e1 := Hst.out
            have e2 := Hsum.out
            have e3 := hr3 (by omega)
            exact ⟨k + 1, r, by omega, by go_num, rfl, by omega, by rw [e1]; omega, hbel.trans (hb1.mono hbel.size)⟩
          case measure => simp [intOf]; omega
      · go_wp2
        go_ret
        have e1 := Hn.out
        have e2 := Hsum.out
        rw [List.take_of_length_le (by omega)] at e2
        exact ⟨_, rfl, by omega, by omega, fun _ => e2, hbel⟩

end Go.Proofs.Ytgcliipdkoefaaa
