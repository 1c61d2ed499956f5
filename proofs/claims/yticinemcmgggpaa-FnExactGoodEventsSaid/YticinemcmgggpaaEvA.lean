/-
  Contracts of the laws' own helpers over events: toEvent, eqEvent, szEventS.
-/
import Derived.Test.YticinemcmgggpaaKit
namespace Go.Proofs.Yticinemcmgggpaa
open Go.ChangeShapes Go.WideShapes Go.ChangeAt Go.RowKit

theorem toEvent_any (x y : Int) (w : World) :
    Calls Try.prog 32 #[.agg #[.int .i64 x, .int .i64 y]] w fun e w' => e = .returned (.agg #[.int .i64 x, .int .i64 y]) ∧ Below w.heap.size w w' := by
  go_enter Try.func32, Try.ntmps32
  go_wp2
  refine bodyPost_ret (v := .agg #[.int .i64 x, .int .i64 y]) (by simp [results, Try.results32, go_sem]) rfl ⟨rfl, ?_⟩
  repeat first | exact Below.refl _ _ | apply Below.drew | refine Below.alloc ?_ (by simp <;> omega) _ | refine Below.setCell ?_ (by simp) _

theorem eqEvent_any (e f : P2) (r : Bool) (hr : decide (e = f) = r) (w : World) :
    Calls Try.prog 34 #[.agg #[.int .i64 e.a, .int .i64 e.b], .agg #[.int .i64 f.a, .int .i64 f.b]] w fun x w' => x = .returned (.bool r) ∧ Below w.heap.size w w' := by
  obtain ⟨x, y⟩ := e
  obtain ⟨u, v⟩ := f
  subst hr
  go_enter Try.func34, Try.ntmps34
  go_wp2
  all_goals
    go_ret
    refine ⟨by simp_all [P2.mk.injEq], ?_⟩
    repeat first | exact Below.refl _ _ | apply Below.drew | refine Below.alloc ?_ (by simp <;> omega) _ | refine Below.setCell ?_ (by simp) _

theorem szEventS_any (A : Option Addr) (n c : Nat) (left : Int) (w : World) (hn : n ≤ 9223372036854775807) (h1 : -1 ≤ left) (h2 : left ≤ 1048576) :
    Calls Try.prog 15 #[.slice A n c, .int .i64 left] w fun e w' => e = .returned (.int .i64 (if left - n < 0 then -1 else left - n)) ∧ w = w' := by
  go_enter Try.func15, Try.ntmps15
  go_wp2
  all_goals
    go_ret
    exact ⟨rfl, rfl⟩

theorem infoEvent : (Try.prog.info? 48).map (fun i => (i.zero, i.size, i.bytes)) = some (some (.agg #[.int .i64 0, .int .i64 0]), 2, 16) := by kernel_rfl

theorem toEventS_any (l : List P2) (w : World) (S : Nat → Prop) (hS : ∀ b, S b → b < w.heap.size) (A : Option Addr) (n c : Nat) (h : RepL w S l A n c) (hn : n ≤ 1048576) :
    Calls Try.prog 17 #[.slice A n c] w fun e w' => ∃ A' c', e = .returned (.slice A' n c') ∧ w'.ownsRow w.heap.size 48 2 (.slice A' n c') n (encs l) ∧ RepL w' (fun b => w.heap.size ≤ b ∧ b < w'.heap.size) l A' n c' ∧ Below w.heap.size w w' := by
  obtain ⟨i0, hi, hz0, hz1, hz2⟩ := info_parts infoEvent
  have hbd := h.bd
  have hmk := fun W => run_make_rowN (P := Try.prog) 32 48 i0 _ Try.underlying32 hi hz0 .i64 .i64 n n (Nat.le_refl _) (by rw [hz2]; omega) (by omega) W
  go_enter Try.func17, Try.ntmps17
  go_wp2
  go_loopw [4] (fun i wr => ∃ k : Nat, k ≤ n ∧ i = .int .i64 k ∧ wr.ownsRow w.heap.size 48 2 (.slice (some ⟨w.heap.size, 0, none⟩) n n) n (fill l k) ∧ Below w.heap.size w wr) (fun i _ => n - (intOf i).toNat)
  case atStart => exact ⟨0, Nat.zero_le _, rfl, own_made w _ _ l rfl rfl h.1 (by omega), (Below.refl _ _).alloc (Nat.le_refl _) _⟩
  case round =>
    obtain ⟨k, hk, rfl, hown, hbel⟩ := hrel
    obtain ⟨rfl, -⟩ := id h
    by_cases hlt : k < l.length
    · obtain ⟨b, off, xs, rfl, hSb, hc, rfl, hi1, hi2⟩ := h.at_ hlt
      have hc0 : wr.cell? ⟨b, off + k * 2, none⟩ = some (.int .i64 l[k].a) := (hbel.cell (hS _ hSb)).trans (hc 0 _ rfl)
      have hc1 : wr.cell? ⟨b, off + k * 2 + 1, none⟩ = some (.int .i64 l[k].b) := (hbel.cell (hS _ hSb)).trans (hc 1 _ rfl)
      clear hc
      go_wp2_with (go_at_call 32; refine (toEvent_any _ _ _).mono ?_; rintro e w1 ⟨rfl, hb1⟩; (have hown1 := own_below hown hb1); (obtain ⟨u0, hu0⟩ := own_cell hown1 (j := k * 2) (by omega)); (obtain ⟨u1, hu1⟩ := own_cell hown1 (j := k * 2 + 1) (by omega)); (have hf0 := hown1.frozenAt (k * 2)); (have hf1 := hown1.frozenAt (k * 2 + 1)))
      go_roundw
      case rel =>
        have h2 := ((hown1.stored (k * 2) (.int .i64 l[k].a)).1.stored (k * 2 + 1) (.int .i64 l[k].b)).1
        refine ⟨k + 1, by omega, by go_num, ?_, ?_⟩
        · rw [← fill_step l k hlt]; exact h2
        · exact ((hbel.trans (hb1.mono hbel.size)).setCell (Nat.le_refl _) _).setCell (Nat.le_refl _) _
      case measure => simp [intOf]; omega
    · go_wp2
      go_ret
      obtain rfl : k = l.length := by omega
      rw [fill_all] at hown
      obtain ⟨A', c', e, hr⟩ := RepL.of_own rfl hown h.ok
      simp only [Value.slice.injEq] at e
      obtain ⟨rfl, -, rfl⟩ := e
      exact ⟨_, _, rfl, hown, hr, hbel⟩
end Go.Proofs.Yticinemcmgggpaa
