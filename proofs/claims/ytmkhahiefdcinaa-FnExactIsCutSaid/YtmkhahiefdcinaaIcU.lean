/-
  Contracts: l11Upto of the reference, isCutOf of the program.
-/
import Derived.Test.YtmkhahiefdcinaaIcM
namespace Go.Proofs.Ytmkhahiefdcinaa
open Go.ChangeShapes Go.WideShapes Go.ChangeAt Go.RowKit Go.BigFrame
set_option linter.unusedVariables false


theorem l11Upto_any (N : Nat) (hN1 : 1 ≤ N) (hN2 : N ≤ 5) (l : List P2) (hev : ∀ i, i < l.length → evOk ((N : Int) - 1) l i) (hlen : l.length ≤ 40) (u : List Int) (w : World) (S : Nat → Prop) (hS : ∀ b, S b → b < w.heap.size) (A A' : Option Addr) (n c n' c' : Nat) (hl0 : RepL w S l A n c) (hl1 : RepL w S u A' n' c') :
    Calls Try.prog 53 #[.int .i64 N, .slice A n c, .slice A' n' c'] w fun x w' => x = .returned (.bool (uptoB N l u)) ∧ Below w.heap.size w w' := by
  obtain ⟨i0, hi, hz0, hz1, hz2⟩ := info_parts infoInt
  have hbd := hl0.bd
  have hbd' := hl1.bd
  obtain ⟨hn, -⟩ := id hl0
  obtain ⟨hn', -⟩ := id hl1
  have Hn := Lib.hid hn
  have Hn' := Lib.hid hn'
  have Hev := Lib.hid hev
  clear hn hn' hev
  by_cases hne : n' = N
  · have hd0 : ((n' : Int) != (N : Int)) = false := by simp [hne]
    have hmk : ∀ W, (Instr.makeSlice 30 (.int .i64 (N : Int)) (.int .i64 (N : Int))).run Try.prog W = .ok (.slice (some ⟨W.heap.size, 0, none⟩) N N) (W.alloc (.cells (madeCells #[.int .i64 0] N) 3)) := fun W => by
      have := run_make_rowN (P := Try.prog) 30 3 i0 _ Try.underlying30 hi hz0 .i64 .i64 N N (Nat.le_refl _) (by rw [hz2]; omega) (by omega) W
      rw [hz1, Nat.mul_one] at this
      exact this
    have Hne := Lib.hid hne
    clear hne
    go_enter Try.func53, Try.ntmps53
    go_wp2_with fail
    go_loopw [20] (fun i wr => ∃ k : Nat, k ≤ n ∧ i = .int .i64 k ∧ wr.ownsRow w.heap.size 3 1 (.slice (some ⟨w.heap.size, 0, none⟩) N N) N (encs (cntL N l k)) ∧ Below w.heap.size w wr) (fun i _ => n - (intOf i).toNat)
    case atStart => exact ⟨0, Nat.zero_le _, rfl, by rw [cntL_zero]; exact own_zeros w 3 N (by omega), (Below.refl _ _).alloc (Nat.le_refl _) _⟩
    case round =>
      obtain ⟨k, hk, rfl, hown, hbel⟩ := hrel
      by_cases hlt : k < n
      · have hl1' : k < l.length := by have := Hn.out; omega
        obtain ⟨b, off, xs, rfl, hSb, hc, rfl, hi1, hi2⟩ := hl0.at_ hl1'
        have hc0 := hc 0 _ rfl
        have hc1 := hc 1 _ rfl
        clear hc
        generalize hek : l[k] = ek at hc0 hc1 hi1 hi2
        obtain ⟨x, y⟩ := ek
        have hek' : l[k]? = some ⟨x, y⟩ := by rw [List.getElem?_eq_getElem hl1', hek]
        obtain ⟨hx1, hx2, -⟩ := Hev.out k hl1' _ hek'
        obtain ⟨j, rfl⟩ := Int.eq_ofNat_of_zero_le hx1
        have hj : j < N := by have : (j : Int) ≤ (N : Int) - 1 := hx2; omega
        have hc0' : wr.cell? ⟨b, off + k * 2, none⟩ = some (.int .i64 j) := (hbel.cell (hS _ hSb)).trans hc0
        have hc1' : wr.cell? ⟨b, off + k * 2 + 1, none⟩ = some (.int .i64 y) := (hbel.cell (hS _ hSb)).trans hc1
        have hcl := cnt_le l k j
        obtain ⟨q, hq⟩ : ∃ q, cnt l k j = q := ⟨_, rfl⟩
        have hownW := hown.alloc (.cells #[.int .i64 j, .int .i64 y] 64)
        have hu0 : (wr.alloc (.cells #[.int .i64 j, .int .i64 y] 64)).cell? ⟨w.heap.size, j, none⟩ = some (.int .i64 q) := by rw [hownW.cellAt j (by omega), getI _ _ _ (cntL_get l k hj), hq]
        have hf0 := hownW.frozenAt j
        have hww : IntKind.i64.wrap ((q : Int) + 1) = (q : Int) + 1 := by rw [IntKind.wrap_i64]; omega
        have hjI : (j : Int) < (N : Int) := by omega
        have Hs := Lib.hid (show cntL N l (k + 1) = (cntL N l k).set j ((q : Int) + 1) by rw [cntL_succ hek' hj, hq])
        have HO := Lib.hid hownW
        have Hb := Lib.hid (hbel.alloc hbel.size (.cells #[.int .i64 j, .int .i64 y] 64))
        clear hc0 hc1 hi1 hi2 hek hek' hx2 hq hcl hownW hown
        go_wp2_with fail
        go_roundw
        case rel => exact ⟨k + 1, by omega, by go_num, by rw [Hs.out, ← setI _ _ _ (by rw [cntL_len]; exact hj)]; exact (HO.out.stored j _).1, Hb.out.setCell (Nat.le_refl _) _⟩
        case measure => simp [intOf]; omega
      · obtain rfl : k = n := by omega
        obtain ⟨wa, hwa⟩ : ∃ x, x = wr := ⟨_, rfl⟩
        subst hwa
        have HO := Lib.hid (show wa.ownsRow w.heap.size 3 1 (.slice (some ⟨w.heap.size, 0, none⟩) N N) N (encs (cntL N l l.length)) by rw [← Hn.out]; exact hown)
        clear hown
        go_wp2_with fail
        go_loopw [34] (fun i wr => ∃ q : Nat, q ≤ n' ∧ i = .int .i64 q ∧ (∀ i, i < q → uptOk l u i) ∧ Below wa.heap.size wa wr) (fun i _ => n' - (intOf i).toNat)
        case atStart => exact ⟨0, Nat.zero_le _, rfl, fun i hi => absurd hi (by omega), Below.refl _ _⟩
        case round =>
          obtain ⟨q, hq, rfl, hpre, hbel2⟩ := hrel
          have Hpre := Lib.hid hpre
          clear hpre
          have hbel3 := bnext hbel hbel2
          by_cases hlt2 : q < n'
          · have hq1 : q < u.length := by have := Hn'.out; omega
            have hqN : q < N := by have := Hne.out; omega
            obtain ⟨bb, off', rfl, hSb', hc', hi1'⟩ := hl1.at1 rfl hq1
            have hd1 : wr.cell? ⟨bb, off' + q, none⟩ = some (.int .i64 u[q]) := (hbel3.cell (hS _ hSb')).trans (hc' _ rfl)
            have hown2 := own_below HO.out hbel2
            have hu0 : wr.cell? ⟨w.heap.size, q, none⟩ = some (.int .i64 (cnt l l.length q : Int)) := by rw [hown2.cellAt q (by omega)]; exact getI _ _ _ (cntL_get l _ hqN)
            have Hu := Lib.hid (show u[q]? = some u[q] from List.getElem?_eq_getElem hq1)
            have hqNI : (q : Int) < (N : Int) := by omega
            clear hc' hi1' hown2
            by_cases hA : 0 ≤ u[q] ∧ u[q] ≤ (cnt l l.length q : Int)
            · have Hd := Lib.hid (decide_eq_true hA)
              go_wp2_with fail
              refine (l1In_any _ _ _ _ Hd.out _).mono ?_
              rintro e w3 ⟨rfl, b3⟩
              go_wp2_with fail
              go_roundw
              case rel => exact ⟨q + 1, by omega, by go_num, uptOk_succ Hpre.out Hu.out hA, bnext hbel2 b3⟩
              case measure => simp [intOf]; omega
            · have Hd := Lib.hid (decide_eq_false hA)
              have HA := Lib.hid hA
              clear hA
              go_wp2_with fail
              refine (l1In_any _ _ _ _ Hd.out _).mono ?_
              rintro e w3 ⟨rfl, b3⟩
              go_wp2_with fail
              go_ret
              exact ⟨by rw [uptoB_bad Hu.out HA.out]; rfl, bnext hbel3 b3⟩
          · obtain rfl : q = n' := by omega
            go_wp2_with fail
            go_ret
            exact ⟨by rw [uptoB_yes (by rw [← Hn'.out]; exact Hne.out) Hn'.out Hpre.out]; rfl, hbel3⟩
  · have hd0 : ((n' : Int) != (N : Int)) = true := by simp; omega
    have Hne := Lib.hid (show uptoB N l u = false from uptoB_len (by have := Hn'.out; omega))
    go_enter Try.func53, Try.ntmps53
    go_wp2_with fail
    go_ret
    exact ⟨by rw [Hne.out]; rfl, Below.refl _ _⟩

theorem isCutOf_any (N : Nat) (hN1 : 1 ≤ N) (hN2 : N ≤ 5) (l : List P2) (hev : ∀ i, i < l.length → evOk ((N : Int) - 1) l i) (hlen : l.length ≤ 40) (u : List Int) (w : World) (S : Nat → Prop) (hS : ∀ b, S b → b < w.heap.size) (A A' : Option Addr) (n c n' c' : Nat) (hl0 : RepL w S l A n c) (hl1 : RepL w S u A' n' c') :
    Calls Try.prog 55 #[.int .i64 N, .slice A n c, .slice A' n' c'] w fun x w' => x = .returned (.bool (uptoB N l u)) ∧ Below w.heap.size w w' := by
  obtain ⟨i0, hi, hz0, hz1, hz2⟩ := info_parts infoInt
  have hbd := hl0.bd
  have hbd' := hl1.bd
  obtain ⟨hn, -⟩ := id hl0
  obtain ⟨hn', -⟩ := id hl1
  have Hn := Lib.hid hn
  have Hn' := Lib.hid hn'
  have Hev := Lib.hid hev
  clear hn hn' hev
  by_cases hne : n' = N
  · have hd0 : ((n' : Int) != (N : Int)) = false := by simp [hne]
    have hmk : ∀ W, (Instr.makeSlice 30 (.int .i64 (N : Int)) (.int .i64 (N : Int))).run Try.prog W = .ok (.slice (some ⟨W.heap.size, 0, none⟩) N N) (W.alloc (.cells (madeCells #[.int .i64 0] N) 3)) := fun W => by
      have := run_make_rowN (P := Try.prog) 30 3 i0 _ Try.underlying30 hi hz0 .i64 .i64 N N (Nat.le_refl _) (by rw [hz2]; omega) (by omega) W
      rw [hz1, Nat.mul_one] at this
      exact this
    have Hne := Lib.hid hne
    clear hne
    go_enter Try.func55, Try.ntmps55
    go_wp2_with fail
    go_loopw [20] (fun i wr => ∃ k : Nat, k ≤ n ∧ i = .int .i64 k ∧ wr.ownsRow w.heap.size 3 1 (.slice (some ⟨w.heap.size, 0, none⟩) N N) N (encs (cntL N l k)) ∧ Below w.heap.size w wr) (fun i _ => n - (intOf i).toNat)
    case atStart => exact ⟨0, Nat.zero_le _, rfl, by rw [cntL_zero]; exact own_zeros w 3 N (by omega), (Below.refl _ _).alloc (Nat.le_refl _) _⟩
    case round =>
      obtain ⟨k, hk, rfl, hown, hbel⟩ := hrel
      by_cases hlt : k < n
      · have hl1' : k < l.length := by have := Hn.out; omega
        obtain ⟨b, off, xs, rfl, hSb, hc, rfl, hi1, hi2⟩ := hl0.at_ hl1'
        have hc0 := hc 0 _ rfl
        have hc1 := hc 1 _ rfl
        clear hc
        generalize hek : l[k] = ek at hc0 hc1 hi1 hi2
        obtain ⟨x, y⟩ := ek
        have hek' : l[k]? = some ⟨x, y⟩ := by rw [List.getElem?_eq_getElem hl1', hek]
        obtain ⟨hx1, hx2, -⟩ := Hev.out k hl1' _ hek'
        obtain ⟨j, rfl⟩ := Int.eq_ofNat_of_zero_le hx1
        have hj : j < N := by have : (j : Int) ≤ (N : Int) - 1 := hx2; omega
        have hc0' : wr.cell? ⟨b, off + k * 2, none⟩ = some (.int .i64 j) := (hbel.cell (hS _ hSb)).trans hc0
        have hc1' : wr.cell? ⟨b, off + k * 2 + 1, none⟩ = some (.int .i64 y) := (hbel.cell (hS _ hSb)).trans hc1
        have hcl := cnt_le l k j
        obtain ⟨q, hq⟩ : ∃ q, cnt l k j = q := ⟨_, rfl⟩
        have hownW := hown.alloc (.cells #[.int .i64 j, .int .i64 y] 64)
        have hu0 : (wr.alloc (.cells #[.int .i64 j, .int .i64 y] 64)).cell? ⟨w.heap.size, j, none⟩ = some (.int .i64 q) := by rw [hownW.cellAt j (by omega), getI _ _ _ (cntL_get l k hj), hq]
        have hf0 := hownW.frozenAt j
        have hww : IntKind.i64.wrap ((q : Int) + 1) = (q : Int) + 1 := by rw [IntKind.wrap_i64]; omega
        have hjI : (j : Int) < (N : Int) := by omega
        have Hs := Lib.hid (show cntL N l (k + 1) = (cntL N l k).set j ((q : Int) + 1) by rw [cntL_succ hek' hj, hq])
        have HO := Lib.hid hownW
        have Hb := Lib.hid (hbel.alloc hbel.size (.cells #[.int .i64 j, .int .i64 y] 64))
        clear hc0 hc1 hi1 hi2 hek hek' hx2 hq hcl hownW hown
        go_wp2_with fail
        go_roundw
        case rel => exact ⟨k + 1, by omega, by go_num, by rw [Hs.out, ← setI _ _ _ (by rw [cntL_len]; exact hj)]; exact (HO.out.stored j _).1, Hb.out.setCell (Nat.le_refl _) _⟩
        case measure => simp [intOf]; omega
      · obtain rfl : k = n := by omega
        obtain ⟨wa, hwa⟩ : ∃ x, x = wr := ⟨_, rfl⟩
        subst hwa
        have HO := Lib.hid (show wa.ownsRow w.heap.size 3 1 (.slice (some ⟨w.heap.size, 0, none⟩) N N) N (encs (cntL N l l.length)) by rw [← Hn.out]; exact hown)
        clear hown
        go_wp2_with fail
        go_loopw [34] (fun i wr => ∃ q : Nat, q ≤ n' ∧ i = .int .i64 q ∧ (∀ i, i < q → uptOk l u i) ∧ Below wa.heap.size wa wr) (fun i _ => n' - (intOf i).toNat)
        case atStart => exact ⟨0, Nat.zero_le _, rfl, fun i hi => absurd hi (by omega), Below.refl _ _⟩
        case round =>
          obtain ⟨q, hq, rfl, hpre, hbel2⟩ := hrel
          have Hpre := Lib.hid hpre
          clear hpre
          have hbel3 := bnext hbel hbel2
          by_cases hlt2 : q < n'
          · have hq1 : q < u.length := by have := Hn'.out; omega
            have hqN : q < N := by have := Hne.out; omega
            obtain ⟨bb, off', rfl, hSb', hc', hi1'⟩ := hl1.at1 rfl hq1
            have hd1 : wr.cell? ⟨bb, off' + q, none⟩ = some (.int .i64 u[q]) := (hbel3.cell (hS _ hSb')).trans (hc' _ rfl)
            have hown2 := own_below HO.out hbel2
            have hu0 : wr.cell? ⟨w.heap.size, q, none⟩ = some (.int .i64 (cnt l l.length q : Int)) := by rw [hown2.cellAt q (by omega)]; exact getI _ _ _ (cntL_get l _ hqN)
            have Hu := Lib.hid (show u[q]? = some u[q] from List.getElem?_eq_getElem hq1)
            have hqNI : (q : Int) < (N : Int) := by omega
            clear hc' hi1' hown2
            by_cases hA : 0 ≤ u[q] ∧ u[q] ≤ (cnt l l.length q : Int)
            · have Hd := Lib.hid (decide_eq_true hA)
              go_wp2_with fail
              refine (within_any _ _ _ _ Hd.out _).mono ?_
              rintro e w3 ⟨rfl, b3⟩
              go_wp2_with fail
              go_roundw
              case rel => exact ⟨q + 1, by omega, by go_num, uptOk_succ Hpre.out Hu.out hA, bnext hbel2 b3⟩
              case measure => simp [intOf]; omega
            · have Hd := Lib.hid (decide_eq_false hA)
              have HA := Lib.hid hA
              clear hA
              go_wp2_with fail
              refine (within_any _ _ _ _ Hd.out _).mono ?_
              rintro e w3 ⟨rfl, b3⟩
              go_wp2_with fail
              go_ret
              exact ⟨by rw [uptoB_bad Hu.out HA.out]; rfl, bnext hbel3 b3⟩
          · obtain rfl : q = n' := by omega
            go_wp2_with fail
            go_ret
            exact ⟨by rw [uptoB_yes (by rw [← Hn'.out]; exact Hne.out) Hn'.out Hpre.out]; rfl, hbel3⟩
  · have hd0 : ((n' : Int) != (N : Int)) = true := by simp; omega
    have Hne := Lib.hid (show uptoB N l u = false from uptoB_len (by have := Hn'.out; omega))
    go_enter Try.func55, Try.ntmps55
    go_wp2_with fail
    go_ret
    exact ⟨by rw [Hne.out]; rfl, Below.refl _ _⟩

end Go.Proofs.Ytmkhahiefdcinaa
