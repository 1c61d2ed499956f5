/-
  Contract: StampsOf of the program.
-/
import Derived.Test.YtmkhahiefdcinaaStS
import Derived.Test.YtmkhahiefdcinaaStN
import Derived.Deep.RegionHeld3
namespace Go.Proofs.Ytmkhahiefdcinaa
open Go.ChangeShapes Go.WideShapes Go.ChangeAt Go.RowKit Go.BigFrame
set_option linter.unusedVariables false

set_option maxHeartbeats 4000000

theorem impl_StampsOf_any (nodes : Int) (hnodes : I64 nodes) (l : List P2) (w : World) (S : Nat → Prop) (hS : ∀ b, S b → b < w.heap.size) (A : Option Addr) (n c : Nat) (hl0 : RepL w S l A n c) :
    Calls Try.prog 16 #[.int .i64 nodes, .slice A n c] w fun x w' => ∃ A2 m c2, x = .returned (.tuple #[.slice A2 m c2, .bool (goodEv nodes l)]) ∧ m ≤ 40 ∧ Made w w' 3 (stOf nodes l) A2 m c2 ∧ Below w.heap.size w w' := by
  have hbd := hl0.bd
  obtain ⟨hn, -⟩ := id hl0
  obtain ⟨r0, hr0⟩ : ∃ r, goodEv nodes l = r := ⟨_, rfl⟩
  have Hn := Lib.hid hn
  have R0 := Lib.hid hr0
  clear hn hr0
  cases r0 with
  | false =>
    have Hf := Lib.hid (show stOf nodes l = [] by unfold stOf; rw [R0.out]; rfl)
    go_enter Try.func16, Try.ntmps16
    go_wp2_with fail
    refine (areEvents_any nodes hnodes l w S hS A n c hl0).mono ?_
    rintro e w1 ⟨rfl, b1⟩
    rw [R0.out]
    go_wp2_with fail
    go_ret2
    exact ⟨none, 0, 0, by rw [R0.out]; rfl, by omega, by rw [Hf.out]; exact Made.nil_ _ _ _, b1⟩
  | true =>
    obtain ⟨i0, hi, hz0, hz1, hz2⟩ := info_parts infoInt
    have Hf := Lib.hid (show stOf nodes l = stTo l l.length by unfold stOf; rw [R0.out]; rfl)
    obtain ⟨hg1, hg2, hg3, hg4⟩ := goodEv_get R0.out
    obtain ⟨N, rfl⟩ := Int.eq_ofNat_of_zero_le (show 0 ≤ nodes by omega)
    have Hev := Lib.hid hg4
    have hN1 : 1 ≤ N := by omega
    have hN2 : N ≤ 5 := by omega
    have hn40 : n ≤ 40 := by have := Hn.out; omega
    clear hg4
    have hmkf : ∀ (q : Nat), q ≤ 1000 → ∀ W, (Instr.makeSlice 30 (.int .i64 (q : Int)) (.int .i64 (q : Int))).run Try.prog W = .ok (.slice (some ⟨W.heap.size, 0, none⟩) q q) (W.alloc (.cells (madeCells #[.int .i64 0] q) 3)) := fun q hq W => by
      have := run_make_rowN (P := Try.prog) 30 3 i0 _ Try.underlying30 hi hz0 .i64 .i64 q q (Nat.le_refl _) (by rw [hz2]; omega) (by omega) W
      rw [hz1, Nat.mul_one] at this
      exact this
    have hmk1 := hmkf N (by omega)
    have hmk2 := hmkf n (by omega)
    clear hmkf
    go_enter Try.func16, Try.ntmps16
    go_wp2_with fail
    refine (areEvents_any (N : Int) hnodes l w S hS A n c hl0).mono ?_
    rintro e w1 ⟨rfl, b1⟩
    rw [R0.out]
    obtain ⟨g0, hg0⟩ : ∃ g, w1.heap.size = g := ⟨_, rfl⟩
    have hgB : w.heap.size ≤ g0 := by have := b1.size; omega
    have o0 := own_zeros w1 3 n (by omega)
    have o1 := own_zeros (w1.alloc (.cells (madeCells #[.int .i64 0] n) 3)) 3 N (by omega)
    have o0' := o0.alloc (.cells (madeCells #[.int .i64 0] N) 3)
    have hsz : (w1.alloc (.cells (madeCells #[.int .i64 0] n) 3)).heap.size = g0 + 1 := by simp [hg0]
    rw [hsz] at o1
    rw [hg0] at o0'
    have HO0 := Lib.hid o0'
    have HO1 := Lib.hid o1
    have B4 := Lib.hid ((b1.alloc b1.size (.cells (madeCells #[.int .i64 0] n) 3)).alloc (by have := b1.size; simp; omega) (.cells (madeCells #[.int .i64 0] N) 3))
    clear o0 o0' o1 hsz
    go_wp2_with fail
    try simp only [hg0]
    go_loopw [21] (fun i wr => ∃ k : Nat, k ≤ n ∧ i = .int .i64 k ∧ wr.ownsRow g0 3 1 (.slice (some ⟨g0, 0, none⟩) n n) n (encs (stP l n k)) ∧ wr.ownsRow (g0 + 1) 3 1 (.slice (some ⟨g0 + 1, 0, none⟩) N N) N (encs (lsL N l k)) ∧ Below w.heap.size w wr) (fun i _ => n - (intOf i).toNat)
    case atStart => exact ⟨0, Nat.zero_le _, rfl, by rw [stP_zero]; exact HO0.out, by rw [lsL_zero]; exact HO1.out, B4.out⟩
    case round =>
      obtain ⟨k, hk, rfl, hown, hlas, hbel⟩ := hrel
      by_cases hlt : k < n
      · have hl1' : k < l.length := by have := Hn.out; omega
        obtain ⟨b, off, xs, rfl, hSb, hc, rfl, hi1, hi2⟩ := hl0.at_ hl1'
        have hc0 := hc 0 _ rfl
        have hc1 := hc 1 _ rfl
        clear hc
        generalize hek : l[k] = ek at hc0 hc1 hi1 hi2
        obtain ⟨x, y⟩ := ek
        have hek' : l[k]? = some ⟨x, y⟩ := by rw [List.getElem?_eq_getElem hl1', hek]
        obtain ⟨hx1, hx2, hy1, hy2, hy3⟩ := Hev.out k hl1' _ hek'
        obtain ⟨j, rfl⟩ := Int.eq_ofNat_of_zero_le hx1
        have hjN : j < N := by have : (j : Int) ≤ (N : Int) - 1 := hx2; omega
        have Hek := Lib.hid hek'
        have hc0' : wr.cell? ⟨b, off + k * 2, none⟩ = some (.int .i64 j) := (hbel.cell (hS _ hSb)).trans hc0
        have hc1' : wr.cell? ⟨b, off + k * 2 + 1, none⟩ = some (.int .i64 y) := (hbel.cell (hS _ hSb)).trans hc1
        obtain ⟨gb, hgb⟩ : ∃ g, wr.heap.size = g := ⟨_, rfl⟩
        have hg01 : g0 + 1 < gb := by rw [← hgb]; exact (hlas.lt _ rfl).2
        obtain ⟨n0, hn0⟩ : ∃ v, pick (stTo l k) (lastAt l k (j : Int)) = v := ⟨_, rfl⟩
        have hnb := pick_bd (show (0 : Int) ≤ (k : Int) by omega) (stTo_bd l k) (lastAt l k (j : Int))
        rw [hn0] at hnb
        obtain ⟨hnb1, hnb2⟩ := hnb
        have Hy1 := Lib.hid (show -1 ≤ y from hy1)
        have Hy2 := Lib.hid (show y ≤ (k : Int) - 1 from hy2)
        have Hn0 := Lib.hid hn0
        have hbx := hbel.alloc hbel.size (.cells #[.int .i64 j, .int .i64 y] 64)
        -- what region 8 reads and writes
        have hlW := hlas.alloc (.cells #[.int .i64 j, .int .i64 y] 64)
        have hoW := hown.alloc (.cells #[.int .i64 j, .int .i64 y] 64)
        have a0 : (wr.alloc (.cells #[.int .i64 j, .int .i64 y] 64)).cell? ⟨g0 + 1, j, none⟩ = some (.int .i64 n0) := by rw [hlW.cellAt j (by omega), getI _ _ _ (lsL_get l k hjN), hn0]
        obtain ⟨u0, a1⟩ := own_cell hoW (j := k) (by omega)
        obtain ⟨u1, a2⟩ := own_cell hown (j := k) (by omega)
        have z0 := hoW.frozenAt k
        have z1 := hown.frozenAt k
        have hs1 := (hown.stored k (.int .i64 n0)).1
        have ls1 := own_other (v2 := .slice (some ⟨g0, 0, none⟩) n n) hlas (hown.stored k (.int .i64 n0)).2 (fun kk hkk e => by
            have h1 : g0 + 1 = kk := Option.some.inj hkk
            have h2 : g0 = kk := Option.some.inj e
            omega)
        rw [setI _ _ _ (by rw [stP_len _ (by omega)]; omega)] at hs1
        have bs1 := hbel.setCell (p := ⟨g0, k, none⟩) hgB (.int .i64 n0)
        have hss : (wr.setCell ⟨g0, k, none⟩ (.int .i64 n0)).heap.size = gb := by simp [hgb]
        have a3 : (wr.setCell ⟨g0, k, none⟩ (.int .i64 n0)).cell? ⟨g0, k, none⟩ = some (.int .i64 n0) := by rw [hs1.cellAt k (by omega)]; exact getI _ _ _ (by rw [List.getElem?_set_self (by rw [stP_len _ (by omega)]; omega)])
        have hkI : (k : Int) < (n : Int) := by omega
        have hk0 : (0 : Int) ≤ (k : Int) := by omega
        have hjI : (j : Int) < (N : Int) := by omega
        have hj0 : (0 : Int) ≤ (j : Int) := by omega
        have ne1 : g0 + 1 ≠ gb := by omega
        have ne2 : g0 ≠ gb := by omega
        by_cases hC : 0 ≤ y
        · obtain ⟨f, rfl⟩ := Int.eq_ofNat_of_zero_le hC
          have hfk : f < k := by have := Hy2.out; omega
          have hfI : (f : Int) < (n : Int) := by omega
          have hf0 : (0 : Int) ≤ (f : Int) := by omega
          have dC : decide ((0 : Int) ≤ (f : Int)) = true := decide_eq_true hf0
          obtain ⟨vf, hvf⟩ : ∃ v, (stTo l k)[f]'(by rw [stTo_len]; exact hfk) = v := ⟨_, rfl⟩
          have hvb := stTo_bd l k vf (by rw [← hvf]; exact List.getElem_mem _)
          obtain ⟨hvb1, hvb2⟩ := hvb
          obtain ⟨mx, hmx⟩ : ∃ m, max n0 vf = m := ⟨_, rfl⟩
          have hkeep : ∀ (w' : World) v, (w'.setCell ⟨g0, k, none⟩ v).cell? ⟨g0, f, none⟩ = w'.cell? ⟨g0, f, none⟩ := fun w' v => World.cell?_setCell_other w' ⟨g0, k, none⟩ ⟨g0, f, none⟩ v (fun e => by have := congrArg Addr.off e; simp at this; omega)
          have hif1 : (if n0 < vf then vf else n0) = mx := by rw [← hmx]; split <;> omega
          have hif2 : (if vf < n0 then n0 else vf) = mx := by rw [← hmx]; split <;> omega
          have hmb : 0 ≤ mx ∧ mx ≤ (k : Int) := by omega
          have hww : IntKind.i64.wrap (mx + 1) = mx + 1 := by rw [IntKind.wrap_i64]; omega
          have Hsv0 : stV l k (stTo l k) ⟨(j : Int), (f : Int)⟩ = mx + 1 := by
            unfold stV
            rw [if_pos (show (0 : Int) ≤ (f : Int) from hf0)]
            show max (pick (stTo l k) (lastAt l k (j : Int))) (pick (stTo l k) (f : Int)) + 1 = _
            rw [Hn0.out, pick_nat _ _ (by rw [stTo_len]; exact hfk), hvf, hmx]
          obtain ⟨W, hW⟩ : ∃ W, W = (wr.alloc (.cells #[.int .i64 j, .int .i64 f] 64)).setCell ⟨g0, k, none⟩ (.int .i64 n0) := ⟨_, rfl⟩
          have oW : W.ownsRow g0 3 1 (.slice (some ⟨g0, 0, none⟩) n n) n (encs ((stP l n k).set k n0)) := by
            rw [hW]
            have h := (hoW.stored k (.int .i64 n0)).1
            rw [setI _ _ _ (by rw [stP_len _ (by omega)]; omega)] at h
            exact h
          have lW : W.ownsRow (g0 + 1) 3 1 (.slice (some ⟨g0 + 1, 0, none⟩) N N) N (encs (lsL N l k)) := by
            rw [hW]
            exact own_other (v2 := .slice (some ⟨g0, 0, none⟩) n n) hlW (hoW.stored k (.int .i64 n0)).2 (fun kk hkk e => by
            have h1 : g0 + 1 = kk := Option.some.inj hkk
            have h2 : g0 = kk := Option.some.inj e
            omega)
          have bW : Below w.heap.size w W := by rw [hW]; exact hbx.setCell (p := ⟨g0, k, none⟩) hgB _
          have c0 : W.cell? ⟨gb, 0, none⟩ = some (.int .i64 j) := by rw [hW, World.cell?_setCell_far _ _ _ _ ne2, ← hgb]; exact World.cell?_alloc_new _ _ _ 0
          have c1 : W.cell? ⟨gb, 1, none⟩ = some (.int .i64 f) := by rw [hW, World.cell?_setCell_far _ _ _ _ ne2, ← hgb]; exact World.cell?_alloc_new _ _ _ 1
          have c2 : W.cell? ⟨g0, k, none⟩ = some (.int .i64 n0) := by rw [oW.cellAt k (by omega)]; exact getI _ _ _ (by rw [List.getElem?_set_self (by rw [stP_len _ (by omega)]; omega)])
          have c3 : W.cell? ⟨g0, f, none⟩ = some (.int .i64 vf) := by rw [oW.cellAt f (by omega)]; exact getI _ _ _ (by rw [List.getElem?_set_ne (by omega), stP_get hfk, hvf])
          have z3 := oW.frozenAt k
          obtain ⟨X, hX⟩ : ∃ X, X = (W.setCell ⟨g0, k, none⟩ (.int .i64 mx)).drew := ⟨_, rfl⟩
          have oX : X.ownsRow g0 3 1 (.slice (some ⟨g0, 0, none⟩) n n) n (encs ((stP l n k).set k mx)) := by
            rw [hX]
            have h := (oW.stored k (.int .i64 mx)).1.drew
            rw [setI _ _ _ (by rw [List.length_set, stP_len _ (by omega)]; omega), List.set_set] at h
            exact h
          have lX : X.ownsRow (g0 + 1) 3 1 (.slice (some ⟨g0 + 1, 0, none⟩) N N) N (encs (lsL N l k)) := by
            rw [hX]
            exact (own_other (v2 := .slice (some ⟨g0, 0, none⟩) n n) lW (oW.stored k (.int .i64 mx)).2 (fun kk hkk e => by
            have h1 : g0 + 1 = kk := Option.some.inj hkk
            have h2 : g0 = kk := Option.some.inj e
            omega)).drew
          have bX : Below w.heap.size w X := by rw [hX]; exact (bW.setCell (p := ⟨g0, k, none⟩) hgB _).drew
          have d0 : X.cell? ⟨gb, 0, none⟩ = some (.int .i64 j) := by rw [hX, World.cell?_drew, World.cell?_setCell_far _ _ _ _ ne2]; exact c0
          have d2 : X.cell? ⟨g0, k, none⟩ = some (.int .i64 mx) := by rw [oX.cellAt k (by omega)]; exact getI _ _ _ (by rw [List.getElem?_set_self (by rw [stP_len _ (by omega)]; omega)])
          have z4 := oX.frozenAt k
          obtain ⟨sv, hsv⟩ : ∃ v, mx + 1 = v := ⟨_, rfl⟩
          obtain ⟨Y, hY⟩ : ∃ Y, Y = X.setCell ⟨g0, k, none⟩ (.int .i64 sv) := ⟨_, rfl⟩
          have oY : Y.ownsRow g0 3 1 (.slice (some ⟨g0, 0, none⟩) n n) n (encs ((stP l n k).set k sv)) := by
            rw [hY]
            have h := (oX.stored k (.int .i64 sv)).1
            rw [setI _ _ _ (by rw [List.length_set, stP_len _ (by omega)]; omega), List.set_set] at h
            exact h
          have lY : Y.ownsRow (g0 + 1) 3 1 (.slice (some ⟨g0 + 1, 0, none⟩) N N) N (encs (lsL N l k)) := by
            rw [hY]
            exact own_other (v2 := .slice (some ⟨g0, 0, none⟩) n n) lX (oX.stored k (.int .i64 sv)).2 (fun kk hkk e => by
            have h1 : g0 + 1 = kk := Option.some.inj hkk
            have h2 : g0 = kk := Option.some.inj e
            omega)
          have bY : Below w.heap.size w Y := by rw [hY]; exact bX.setCell (p := ⟨g0, k, none⟩) hgB _
          have y0 : Y.cell? ⟨gb, 0, none⟩ = some (.int .i64 j) := by rw [hY, World.cell?_setCell_far _ _ _ _ ne2]; exact d0
          rw [hsv] at Hsv0
          have Hsv1 := Lib.hid hsv
          have Hsv := Lib.hid Hsv0
          have HW := Lib.hid hW
          have HX := Lib.hid hX
          have HY := Lib.hid hY
          clear hc0 hc1 hi1 hi2 hek hek' hx1 hx2 hy1 hy2 hy3 hW hX hY hn0 hmx hvf Hsv0 hlW hoW hs1 ls1 bs1 oW lW bW oX lX bX hbx hown hlas hmb hsv
          go_wp2_with fail
          try simp only [hgb]
          rw [← HW.out]
          go_region
          rw [← HX.out]
          go_wp2_with fail
          rw [Hsv1.out, ← HY.out]
          have y2 : Y.cell? ⟨g0, k, none⟩ = some (.int .i64 sv) := by rw [oY.cellAt k (by omega)]; exact getI _ _ _ (by rw [List.getElem?_set_self (by rw [stP_len _ (by omega)]; omega)])
          obtain ⟨uL, hul⟩ := own_cell lY (j := j) (by omega)
          have zl := lY.frozenAt j
          have hZ1 : ((Y.setCell ⟨g0 + 1, j, none⟩ (.int .i64 sv)).drew).ownsRow g0 3 1 (.slice (some ⟨g0, 0, none⟩) n n) n (encs (stP l n (k + 1))) := by
            rw [← stP_succ Hek.out hlt, Hsv.out]
            exact (own_other (v2 := .slice (some ⟨g0 + 1, 0, none⟩) N N) oY (lY.stored j _).2 (fun kk hkk e => by
              have h1 : g0 = kk := Option.some.inj hkk
              have h2 : g0 + 1 = kk := Option.some.inj e
              omega)).drew
          have hZ2 : ((Y.setCell ⟨g0 + 1, j, none⟩ (.int .i64 sv)).drew).ownsRow (g0 + 1) 3 1 (.slice (some ⟨g0 + 1, 0, none⟩) N N) N (encs (lsL N l (k + 1))) := by
            rw [lsL_succ Hek.out, Hsv.out, ← setI _ _ _ (by rw [lsL_len]; exact hjN)]
            exact (lY.stored j _).1.drew
          have hZ3 : Below w.heap.size w ((Y.setCell ⟨g0 + 1, j, none⟩ (.int .i64 sv)).drew) := (bY.setCell (p := ⟨g0 + 1, j, none⟩) (show w.heap.size ≤ g0 + 1 by omega) _).drew
          have HZ1 := Lib.hid hZ1
          have HZ2 := Lib.hid hZ2
          have HZ3 := Lib.hid hZ3
          clear hZ1 hZ2 hZ3 oY lY bY
          go_region
          go_wp2_with fail
          go_roundw
          case rel => exact ⟨k + 1, by omega, by go_num, HZ1.out, HZ2.out, HZ3.out⟩
          case measure => simp [intOf]; omega
        · have dC : decide (0 ≤ y) = false := decide_eq_false hC
          have hww : IntKind.i64.wrap (n0 + 1) = n0 + 1 := by rw [IntKind.wrap_i64]; omega
          have Hsv0 : stV l k (stTo l k) ⟨(j : Int), y⟩ = n0 + 1 := by
            unfold stV
            rw [if_neg (show ¬ (0 : Int) ≤ y from hC)]
            show pick (stTo l k) (lastAt l k (j : Int)) + 1 = _
            rw [Hn0.out]
          have oW := (hoW.stored k (.int .i64 n0)).1
          rw [setI _ _ _ (by rw [stP_len _ (by omega)]; omega)] at oW
          have lW := own_other (v2 := .slice (some ⟨g0, 0, none⟩) n n) hlW (hoW.stored k (.int .i64 n0)).2 (fun kk hkk e => by
            have h1 : g0 + 1 = kk := Option.some.inj hkk
            have h2 : g0 = kk := Option.some.inj e
            omega)
          have bW := hbx.setCell (p := ⟨g0, k, none⟩) hgB (.int .i64 n0)
          have c0 : ((wr.alloc (.cells #[.int .i64 j, .int .i64 y] 64)).setCell ⟨g0, k, none⟩ (.int .i64 n0)).cell? ⟨gb, 0, none⟩ = some (.int .i64 j) := by rw [World.cell?_setCell_far _ _ _ _ ne2, ← hgb]; exact World.cell?_alloc_new _ _ _ 0
          have c1 : ((wr.alloc (.cells #[.int .i64 j, .int .i64 y] 64)).setCell ⟨g0, k, none⟩ (.int .i64 n0)).cell? ⟨gb, 1, none⟩ = some (.int .i64 y) := by rw [World.cell?_setCell_far _ _ _ _ ne2, ← hgb]; exact World.cell?_alloc_new _ _ _ 1
          have c2 : ((wr.alloc (.cells #[.int .i64 j, .int .i64 y] 64)).setCell ⟨g0, k, none⟩ (.int .i64 n0)).cell? ⟨g0, k, none⟩ = some (.int .i64 n0) := by rw [oW.cellAt k (by omega)]; exact getI _ _ _ (by rw [List.getElem?_set_self (by rw [stP_len _ (by omega)]; omega)])
          have z3 := oW.frozenAt k
          obtain ⟨sv, hsv⟩ : ∃ v, n0 + 1 = v := ⟨_, rfl⟩
          obtain ⟨Y, hY⟩ : ∃ Y, Y = ((wr.alloc (.cells #[.int .i64 j, .int .i64 y] 64)).setCell ⟨g0, k, none⟩ (.int .i64 n0)).setCell ⟨g0, k, none⟩ (.int .i64 sv) := ⟨_, rfl⟩
          have oY : Y.ownsRow g0 3 1 (.slice (some ⟨g0, 0, none⟩) n n) n (encs ((stP l n k).set k sv)) := by
            rw [hY]
            have h := (oW.stored k (.int .i64 sv)).1
            rw [setI _ _ _ (by rw [List.length_set, stP_len _ (by omega)]; omega), List.set_set] at h
            exact h
          have lY : Y.ownsRow (g0 + 1) 3 1 (.slice (some ⟨g0 + 1, 0, none⟩) N N) N (encs (lsL N l k)) := by
            rw [hY]
            exact own_other (v2 := .slice (some ⟨g0, 0, none⟩) n n) lW (oW.stored k (.int .i64 sv)).2 (fun kk hkk e => by
            have h1 : g0 + 1 = kk := Option.some.inj hkk
            have h2 : g0 = kk := Option.some.inj e
            omega)
          have bY : Below w.heap.size w Y := by rw [hY]; exact bW.setCell (p := ⟨g0, k, none⟩) hgB _
          have y0 : Y.cell? ⟨gb, 0, none⟩ = some (.int .i64 j) := by rw [hY, World.cell?_setCell_far _ _ _ _ ne2]; exact c0
          rw [hsv] at Hsv0
          have Hsv1 := Lib.hid hsv
          have Hsv := Lib.hid Hsv0
          have HY := Lib.hid hY
          clear hc0 hc1 hi1 hi2 hek hek' hx1 hx2 hy1 hy2 hy3 hY hn0 Hsv0 hlW hoW hs1 ls1 bs1 oW lW bW hbx hown hlas hsv
          go_wp2_with fail
          try simp only [hgb]
          rw [Hsv1.out, ← HY.out]
          have y2 : Y.cell? ⟨g0, k, none⟩ = some (.int .i64 sv) := by rw [oY.cellAt k (by omega)]; exact getI _ _ _ (by rw [List.getElem?_set_self (by rw [stP_len _ (by omega)]; omega)])
          obtain ⟨uL, hul⟩ := own_cell lY (j := j) (by omega)
          have zl := lY.frozenAt j
          have hZ1 : ((Y.setCell ⟨g0 + 1, j, none⟩ (.int .i64 sv)).drew).ownsRow g0 3 1 (.slice (some ⟨g0, 0, none⟩) n n) n (encs (stP l n (k + 1))) := by
            rw [← stP_succ Hek.out hlt, Hsv.out]
            exact (own_other (v2 := .slice (some ⟨g0 + 1, 0, none⟩) N N) oY (lY.stored j _).2 (fun kk hkk e => by
              have h1 : g0 = kk := Option.some.inj hkk
              have h2 : g0 + 1 = kk := Option.some.inj e
              omega)).drew
          have hZ2 : ((Y.setCell ⟨g0 + 1, j, none⟩ (.int .i64 sv)).drew).ownsRow (g0 + 1) 3 1 (.slice (some ⟨g0 + 1, 0, none⟩) N N) N (encs (lsL N l (k + 1))) := by
            rw [lsL_succ Hek.out, Hsv.out, ← setI _ _ _ (by rw [lsL_len]; exact hjN)]
            exact (lY.stored j _).1.drew
          have hZ3 : Below w.heap.size w ((Y.setCell ⟨g0 + 1, j, none⟩ (.int .i64 sv)).drew) := (bY.setCell (p := ⟨g0 + 1, j, none⟩) (show w.heap.size ≤ g0 + 1 by omega) _).drew
          have HZ1 := Lib.hid hZ1
          have HZ2 := Lib.hid hZ2
          have HZ3 := Lib.hid hZ3
          clear hZ1 hZ2 hZ3 oY lY bY
          go_region
          go_wp2_with fail
          go_roundw
          case rel => exact ⟨k + 1, by omega, by go_num, HZ1.out, HZ2.out, HZ3.out⟩
          case measure => simp [intOf]; omega
      · obtain rfl : k = n := by omega
        go_wp2_with fail
        go_ret2
        have e := Hn.out
        rw [stP_all] at hown
        refine ⟨_, k, _, by rw [R0.out]; rfl, hn40, ?_, hbel⟩
        rw [Hf.out, ← e]
        exact Made.from_ (w := w1) ⟨by rw [hg0]; exact hown, by rw [hg0]; exact RepL.of_own' rfl (stTo_len _ _).symm hown (stTo_ok (by omega))⟩ b1.size

end Go.Proofs.Ytmkhahiefdcinaa
