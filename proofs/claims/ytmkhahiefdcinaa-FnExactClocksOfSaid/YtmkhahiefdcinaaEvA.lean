/-
  Contracts of the laws' own helpers over events: to, eq, sz.
-/
import Derived.Test.YtmkhahiefdcinaaKit
namespace Go.Proofs.Ytmkhahiefdcinaa
open Go.ChangeShapes Go.WideShapes Go.ChangeAt Go.RowKit Go.BigFrame Go.Deep
set_option linter.unusedVariables false

theorem toEvent_any (e : P2) (w : World) :
    Calls Try.prog 47 #[.agg #[.int .i64 e.a, .int .i64 e.b]] w fun x w' => x = .returned (.agg #[.int .i64 e.a, .int .i64 e.b]) ∧ Below w.heap.size w w' := by
  go_enter Try.func47, Try.ntmps47
  go_wp2
  refine bodyPost_ret (v := .agg #[.int .i64 e.a, .int .i64 e.b]) (by simp [results, Try.results47, go_sem]) rfl ⟨rfl, ?_⟩
  repeat first | exact Below.refl _ _ | apply Below.drew | refine Below.alloc ?_ (by simp <;> omega) _ | refine Below.setCell ?_ (by simp) _

theorem infoEvent : (Try.prog.info? 64).map (fun i => (i.zero, i.size, i.bytes)) = some (some (.agg #[.int .i64 0, .int .i64 0]), 2, 16) := by kernel_rfl

theorem toEventS_any (l : List P2) (w : World) (S : Nat → Prop) (hS : ∀ b, S b → b < w.heap.size) (A : Option Addr) (n c : Nat) (h : RepL w S l A n c) (hn : n ≤ 1048576) :
    Calls Try.prog 12 #[.slice A n c] w fun e w' => ∃ A' c', e = .returned (.slice A' n c') ∧ w'.ownsRow w.heap.size 64 2 (.slice A' n c') n (encs l) ∧ RepL w' (fun b => w.heap.size ≤ b ∧ b < w'.heap.size) l A' n c' ∧ Below w.heap.size w w' := by
  obtain ⟨i0, hi, hz0, hz1, hz2⟩ := info_parts infoEvent
  have hbd := h.bd
  have hmk := fun W => run_make_rowN (P := Try.prog) 26 64 i0 _ Try.underlying26 hi hz0 .i64 .i64 n n (Nat.le_refl _) (by rw [hz2]; omega) (by omega) W
  go_enter Try.func12, Try.ntmps12
  go_wp2
  go_loopw [4] (fun i wr => ∃ k : Nat, k ≤ n ∧ i = .int .i64 k ∧ wr.ownsRow w.heap.size 64 2 (.slice (some ⟨w.heap.size, 0, none⟩) n n) n (fill l k) ∧ Below w.heap.size w wr) (fun i _ => n - (intOf i).toNat)
  case atStart => exact ⟨0, Nat.zero_le _, rfl, own_made w _ _ l rfl rfl h.1 (by omega), (Below.refl _ _).alloc (Nat.le_refl _) _⟩
  case round =>
    obtain ⟨k, hk, rfl, hown, hbel⟩ := hrel
    obtain ⟨rfl, -⟩ := id h
    by_cases hlt : k < l.length
    · obtain ⟨b, off, xs, rfl, hSb, hc, rfl, hi1⟩ := h.at_ hlt
      have hc0 : wr.cell? ⟨b, off + k * 2, none⟩ = some (.int .i64 l[k].a) := (hbel.cell (hS _ hSb)).trans (hc 0 _ rfl)
      have hc1 : wr.cell? ⟨b, off + k * 2 + 1, none⟩ = some (.int .i64 l[k].b) := (hbel.cell (hS _ hSb)).trans (hc 1 _ rfl)
      clear hc
      go_wp2_with (go_at_call 47; refine (toEvent_any l[k] _).mono ?_; rintro e w1 ⟨rfl, hb1⟩; (have hown1 := own_below hown hb1); (obtain ⟨u0, hu0⟩ := own_cell hown1 (j := k * 2) (by omega)); (obtain ⟨u1, hu1⟩ := own_cell hown1 (j := k * 2 + 1) (by omega)); (have hf0 := hown1.frozenAt (k * 2)); (have hf1 := hown1.frozenAt (k * 2 + 1)))
      go_roundw
      case rel =>
        have h2 := ((hown1.stored (k * 2) (.int .i64 l[k].a)).1.stored (k * 2 + 1) (.int .i64 l[k].b)).1
        refine ⟨k + 1, by omega, by go_num, ?_, ?_⟩
        · rw [← fill_step l k hlt]; exact h2
        · exact (((hbel.trans (hb1.mono hbel.size)).setCell (Nat.le_refl _) _).setCell (Nat.le_refl _) _)
      case measure => simp [intOf]; omega
    · go_wp2
      go_ret
      obtain rfl : k = l.length := by omega
      rw [fill_all] at hown
      obtain ⟨A', c', e, hr⟩ := RepL.of_own rfl hown h.ok
      simp only [Value.slice.injEq] at e
      obtain ⟨rfl, -, rfl⟩ := e
      exact ⟨_, _, rfl, hown, hr, hbel⟩

theorem eqEvent_any (e f : P2) (r : Bool) (hr : decide (e = f) = r) (w : World) :
    Calls Try.prog 51 #[.agg #[.int .i64 e.a, .int .i64 e.b], .agg #[.int .i64 f.a, .int .i64 f.b]] w fun x w' => x = .returned (.bool r) ∧ Below w.heap.size w w' := by
  obtain ⟨a0, b0⟩ := e
  obtain ⟨a1, b1⟩ := f
  subst hr
  go_enter Try.func51, Try.ntmps51
  go_wp2
  all_goals
    go_ret
    refine ⟨by simp_all [P2.mk.injEq], ?_⟩
    repeat first | exact Below.refl _ _ | apply Below.drew | refine Below.alloc ?_ (by simp <;> omega) _ | refine Below.setCell ?_ (by simp) _

theorem eqEventS_any (l l' : List P2) (w : World) (S : Nat → Prop) (hS : ∀ b, S b → b < w.heap.size) (A A' : Option Addr) (n c n' c' : Nat) (h : RepL w S l A n c) (h' : RepL w S l' A' n' c') :
    Calls Try.prog 14 #[.slice A n c, .slice A' n' c'] w fun e w' => e = .returned (.bool (decide (l = l'))) ∧ Below w.heap.size w w' := by
  have hbd := h.bd
  have hbd' := h'.bd
  obtain ⟨hn, -⟩ := id h
  obtain ⟨hn', -⟩ := id h'
  by_cases hne : n = n'
  · have hne1 : ((n : Int) != (n' : Int)) = false := by simp [hne]
    have Hne := Lib.hid hne
    have Hn := Lib.hid hn
    have Hn' := Lib.hid hn'
    clear hne hn hn'
    go_enter Try.func14, Try.ntmps14
    go_wp2
    go_loopw [5] (fun i wr => ∃ k : Nat, k ≤ n ∧ i = .int .i64 k ∧ l.take k = l'.take k ∧ Below w.heap.size w wr) (fun i _ => n - (intOf i).toNat)
    case atStart => exact ⟨0, Nat.zero_le _, rfl, rfl, Below.refl _ _⟩
    case round =>
      obtain ⟨k, hk, rfl, hpre, hbel⟩ := hrel
      have Hpre := Lib.hid hpre
      clear hpre
      by_cases hlt : k < n
      · have hl1 : k < l.length := by have := Hn.out; omega
        have hl2 : k < l'.length := by have := Hn'.out; have := Hne.out; omega
        have hlt' : k < n' := by have := Hne.out; omega
        have hI : (k : Int) < (n : Int) := by omega
        have hI' : (k : Int) < (n' : Int) := by omega
        have hI0 : (0 : Int) ≤ (k : Int) := by omega
        obtain ⟨b, off, xs, rfl, hSb, hc, rfl, hi1⟩ := h.at_ hl1
        obtain ⟨b', off', xs', rfl, hSb', hc', rfl, hi1'⟩ := h'.at_ hl2
        have hc0 : ∀ p : Aft wr, p.world.cell? ⟨b, off + k * 2, none⟩ = some (.int .i64 l[k].a) := Aft.cell ((hbel.cell (hS _ hSb)).trans (hc 0 _ rfl))
        have hd0 : ∀ p : Aft wr, p.world.cell? ⟨b', off' + k * 2, none⟩ = some (.int .i64 l'[k].a) := Aft.cell ((hbel.cell (hS _ hSb')).trans (hc' 0 _ rfl))
        have hc1 : ∀ p : Aft wr, p.world.cell? ⟨b, off + k * 2 + 1, none⟩ = some (.int .i64 l[k].b) := Aft.cell ((hbel.cell (hS _ hSb)).trans (hc 1 _ rfl))
        have hd1 : ∀ p : Aft wr, p.world.cell? ⟨b', off' + k * 2 + 1, none⟩ = some (.int .i64 l'[k].b) := Aft.cell ((hbel.cell (hS _ hSb')).trans (hc' 1 _ rfl))
        clear hc hc' hi1 hi1'
        by_cases he : l[k] = l'[k]
        · have Hd := Lib.hid (decide_eq_true he)
          have He := Lib.hid he
          clear he
          go_wp2_with fail
          refine wp_region_aft (by kernel_rfl) (by kernel_rfl) ?_
          repeat (go_big_quiet_step ((go_at_call 51; exact Calls.aft (eqEvent_any _ _ _ Hd.out _))))
          refine wpQuiet_nil ?_
          rintro _ ⟨p, rfl⟩
          have hb2 : Below w.heap.size w p.world := hbel.trans (p.below.mono hbel.size)
          go_wp2
          go_roundw
          case rel => exact ⟨k + 1, by omega, by go_num, by rw [List.take_succ_eq_append_getElem hl1, List.take_succ_eq_append_getElem hl2, Hpre.out, He.out], hb2⟩
          case measure => simp [intOf]; omega
        · have Hd := Lib.hid (decide_eq_false he)
          have Hfin := Lib.hid (show decide (l = l') = false from decide_eq_false fun e => he (by subst e; rfl))
          clear he
          go_wp2_with fail
          refine wp_region_aft (by kernel_rfl) (by kernel_rfl) ?_
          repeat (go_big_quiet_step ((go_at_call 51; exact Calls.aft (eqEvent_any _ _ _ Hd.out _))))
          refine wpQuiet_nil ?_
          rintro _ ⟨p, rfl⟩
          have hb2 : Below w.heap.size w p.world := hbel.trans (p.below.mono hbel.size)
          go_wp2
          go_ret
          exact ⟨by rw [Hfin.out]; rfl, hb2⟩
      · go_wp2
        go_ret
        have e1 := Hn.out
        have e2 := Hn'.out
        have e3 := Hne.out
        have e4 := Hpre.out
        rw [List.take_of_length_le (by omega), List.take_of_length_le (by omega)] at e4
        exact ⟨by rw [decide_eq_true e4]; rfl, hbel⟩
  · have hne1 : ((n : Int) != (n' : Int)) = true := by simp; omega
    have Hfin := Lib.hid (show decide (l = l') = false from decide_eq_false fun e => hne (by rw [hn, hn', e]))
    clear hn hn' hne
    go_enter Try.func14, Try.ntmps14
    go_wp2
    go_ret
    exact ⟨by rw [Hfin.out]; rfl, Below.refl _ _⟩

theorem szEventS_any (A : Option Addr) (n c : Nat) (left : Int) (w : World) (hn : n ≤ 9223372036854775807) (h1 : 0 ≤ left) (h2 : left ≤ 1048576) :
    Calls Try.prog 10 #[.slice A n c, .int .i64 left] w fun e w' => ∃ r : Int, e = .returned (.int .i64 r) ∧ -1 ≤ r ∧ r ≤ left ∧ (0 ≤ r → (n : Int) + r = left) ∧ w = w' := by
  go_enter Try.func10, Try.ntmps10
  go_wp2
  all_goals
    go_ret
    refine ⟨_, rfl, by omega, by omega, by omega, rfl⟩

end Go.Proofs.Ytmkhahiefdcinaa
