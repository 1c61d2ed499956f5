/-
  Contracts of the laws' own helpers over lists of integers: to, eq, mark, held.
-/
import Derived.Test.YtmkhahiefdcinaaKit
namespace Go.Proofs.Ytmkhahiefdcinaa
open Go.ChangeShapes Go.WideShapes Go.ChangeAt Go.RowKit Go.BigFrame
set_option linter.unusedVariables false

theorem infoInt : (Try.prog.info? 3).map (fun i => (i.zero, i.size, i.bytes)) = some (some (.int .i64 0), 1, 8) := by kernel_rfl

theorem toIntS_any (l : List Int) (w : World) (S : Nat → Prop) (hS : ∀ b, S b → b < w.heap.size) (A : Option Addr) (n c : Nat) (h : RepL w S l A n c) (hn : n ≤ 1048576) :
    Calls Try.prog 22 #[.slice A n c] w fun e w' => ∃ A' c', e = .returned (.slice A' n c') ∧ w'.ownsRow w.heap.size 3 1 (.slice A' n c') n (encs l) ∧ RepL w' (fun b => w.heap.size ≤ b ∧ b < w'.heap.size) l A' n c' ∧ Below w.heap.size w w' := by
  obtain ⟨i0, hi, hz0, hz1, hz2⟩ := info_parts infoInt
  have hbd := h.bd
  have hmk : ∀ W, (Instr.makeSlice 30 (.int .i64 (n : Int)) (.int .i64 (n : Int))).run Try.prog W = .ok (.slice (some ⟨W.heap.size, 0, none⟩) n n) (W.alloc (.cells (madeCells #[.int .i64 0] n) 3)) := fun W => by
    have := run_make_rowN (P := Try.prog) 30 3 i0 _ Try.underlying30 hi hz0 .i64 .i64 n n (Nat.le_refl _) (by rw [hz2]; omega) (by omega) W
    rw [hz1, Nat.mul_one] at this
    exact this
  go_enter Try.func22, Try.ntmps22
  go_wp2
  go_loopw [4] (fun i wr => ∃ k : Nat, k ≤ n ∧ i = .int .i64 k ∧ wr.ownsRow w.heap.size 3 1 (.slice (some ⟨w.heap.size, 0, none⟩) n n) n (fill l k) ∧ Below w.heap.size w wr) (fun i _ => n - (intOf i).toNat)
  case atStart =>
    have := own_made w #[.int .i64 0] 3 l (n := n) (s := 1) rfl rfl h.1 (by omega)
    rw [Nat.mul_one] at this
    exact ⟨0, Nat.zero_le _, rfl, this, (Below.refl _ _).alloc (Nat.le_refl _) _⟩
  case round =>
    obtain ⟨k, hk, rfl, hown, hbel⟩ := hrel
    obtain ⟨rfl, -⟩ := id h
    by_cases hlt : k < l.length
    · obtain ⟨b, off, rfl, hSb, hc, hi1⟩ := h.at1 rfl hlt
      have hc0 : wr.cell? ⟨b, off + k, none⟩ = some (.int .i64 l[k]) := (hbel.cell (hS _ hSb)).trans (hc _ rfl)
      clear hc
      obtain ⟨u0, hu0⟩ := own_cell hown (j := k) (by omega)
      have hf0 := hown.frozenAt k
      go_wp2
      go_roundw
      case rel =>
        have h2 := (hown.stored k (.int .i64 l[k])).1
        refine ⟨k + 1, by omega, by go_num, ?_, ?_⟩
        · rw [← fill_step l k hlt]
          have e : k * Flat.size Int = k := Nat.mul_one k
          rw [e]
          exact h2
        · exact hbel.setCell (Nat.le_refl _) _
      case measure => simp [intOf]; omega
    · go_wp2
      go_ret
      obtain rfl : k = l.length := by omega
      rw [fill_all] at hown
      exact ⟨_, _, rfl, hown, RepL.of_own' rfl rfl hown h.ok, hbel⟩

theorem eqIntS_any (l l' : List Int) (w : World) (S : Nat → Prop) (hS : ∀ b, S b → b < w.heap.size) (A A' : Option Addr) (n c n' c' : Nat) (h : RepL w S l A n c) (h' : RepL w S l' A' n' c') :
    Calls Try.prog 17 #[.slice A n c, .slice A' n' c'] w fun e w' => e = .returned (.bool (decide (l = l'))) ∧ Below w.heap.size w w' := by
  have hbd := h.bd
  have hbd' := h'.bd
  obtain ⟨hn, -⟩ := id h
  obtain ⟨hn', -⟩ := id h'
  by_cases hne : n = n'
  · have hne1 : ((n : Int) != (n' : Int)) = false := by simp [hne]
    have Hne := Lib.hid hne
    have Hn := Lib.hid hn
    have Hn' := Lib.hid hn'
    clear hne hn hn'
    go_enter Try.func17, Try.ntmps17
    go_wp2
    go_loopw [5] (fun i wr => ∃ k : Nat, k ≤ n ∧ i = .int .i64 k ∧ l.take k = l'.take k ∧ Below w.heap.size w wr) (fun i _ => n - (intOf i).toNat)
    case atStart => exact ⟨0, Nat.zero_le _, rfl, rfl, Below.refl _ _⟩
    case round =>
      obtain ⟨k, hk, rfl, hpre, hbel⟩ := hrel
      have Hpre := Lib.hid hpre
      clear hpre
      by_cases hlt : k < n
      · have hl1 : k < l.length := by have := Hn.out; omega
        have hl2 : k < l'.length := by have := Hn'.out; have := Hne.out; omega
        have hlt' : k < n' := by have := Hne.out; omega
        have hI : (k : Int) < (n : Int) := by omega
        have hI' : (k : Int) < (n' : Int) := by omega
        have hI0 : (0 : Int) ≤ (k : Int) := by omega
        obtain ⟨b, off, rfl, hSb, hc, hi1⟩ := h.at1 rfl hl1
        obtain ⟨b', off', rfl, hSb', hc', hi1'⟩ := h'.at1 rfl hl2
        have hc0 : ∀ p : Aft wr, p.world.cell? ⟨b, off + k, none⟩ = some (.int .i64 l[k]) := Aft.cell ((hbel.cell (hS _ hSb)).trans (hc _ rfl))
        have hd0 : ∀ p : Aft wr, p.world.cell? ⟨b', off' + k, none⟩ = some (.int .i64 l'[k]) := Aft.cell ((hbel.cell (hS _ hSb')).trans (hc' _ rfl))
        clear hc hc' hi1 hi1'
        by_cases he : l[k] = l'[k]
        · have Hd : ((l[k] : Int) != l'[k]) = false := by simp [he]
          have He := Lib.hid he
          clear he
          go_wp2_with fail
          refine wp_region_aft (by kernel_rfl) (by kernel_rfl) ?_
          repeat (go_big_quiet_step (fail))
          refine wpQuiet_nil ?_
          rintro _ ⟨p, rfl⟩
          have hb2 : Below w.heap.size w p.world := hbel.trans (p.below.mono hbel.size)
          go_wp2
          go_roundw
          case rel => exact ⟨k + 1, by omega, by go_num, by rw [List.take_succ_eq_append_getElem hl1, List.take_succ_eq_append_getElem hl2, Hpre.out, He.out], hb2⟩
          case measure => simp [intOf]; omega
        · have Hd : ((l[k] : Int) != l'[k]) = true := by simp [he]
          have Hfin := Lib.hid (show decide (l = l') = false from decide_eq_false fun e => he (by subst e; rfl))
          clear he
          go_wp2_with fail
          refine wp_region_aft (by kernel_rfl) (by kernel_rfl) ?_
          repeat (go_big_quiet_step (fail))
          refine wpQuiet_nil ?_
          rintro _ ⟨p, rfl⟩
          have hb2 : Below w.heap.size w p.world := hbel.trans (p.below.mono hbel.size)
          go_wp2
          go_ret
          exact ⟨by rw [Hfin.out]; rfl, hb2⟩
      · go_wp2
        go_ret
        have e1 := Hn.out
        have e2 := Hn'.out
        have e3 := Hne.out
        have e4 := Hpre.out
        rw [List.take_of_length_le (by omega), List.take_of_length_le (by omega)] at e4
        exact ⟨by rw [decide_eq_true e4]; rfl, hbel⟩
  · have hne1 : ((n : Int) != (n' : Int)) = true := by simp; omega
    have Hfin := Lib.hid (show decide (l = l') = false from decide_eq_false fun e => hne (by rw [hn, hn', e]))
    clear hn hn' hne
    go_enter Try.func17, Try.ntmps17
    go_wp2
    go_ret
    exact ⟨by rw [Hfin.out]; rfl, Below.refl _ _⟩

end Go.Proofs.Ytmkhahiefdcinaa
