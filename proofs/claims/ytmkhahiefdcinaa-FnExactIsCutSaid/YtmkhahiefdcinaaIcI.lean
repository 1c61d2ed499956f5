/-
  Contract: IsCut of the program.
-/
import Derived.Test.YtmkhahiefdcinaaIcS
import Derived.Deep.RegionHeld3
namespace Go.Proofs.Ytmkhahiefdcinaa
open Go.ChangeShapes Go.WideShapes Go.ChangeAt Go.RowKit Go.BigFrame
set_option linter.unusedVariables false

set_option maxHeartbeats 4000000

theorem infoBool : (Try.prog.info? 4).map (fun i => (i.zero, i.size, i.bytes)) = some (some (.bool false), 1, 1) := by kernel_rfl
/-- The first k events' places, inside or not. -/
def insTo (l : List P2) (u : List Int) (n k : Nat) : List Bool := (List.range n).map fun i => if i < k then inV l u i else false
theorem insTo_len (l : List P2) (u : List Int) (n k : Nat) : (insTo l u n k).length = n := by simp [insTo]
theorem insTo_zero (l : List P2) (u : List Int) (n : Nat) : insTo l u n 0 = List.replicate n false := by
  apply List.ext_getElem (by simp [insTo])
  intro i h1 h2
  simp [insTo]
theorem insTo_get {l : List P2} {u : List Int} {n k i : Nat} (hi : i < n) : (insTo l u n k)[i]? = some (if i < k then inV l u i else false) := by simp [insTo, hi]
theorem insTo_succ (l : List P2) (u : List Int) (n k : Nat) : insTo l u n (k + 1) = (insTo l u n k).set k (inV l u k) := by
  apply List.ext_getElem (by simp [insTo])
  intro i h1 h2
  simp only [List.getElem_set, insTo, List.getElem_map, List.getElem_range]
  by_cases hik : k = i
  · subst hik; simp
  · by_cases h : i < k
    · simp [hik, h, show i < k + 1 by omega]
    · simp [hik, h, show ¬ i < k + 1 by omega]
theorem encs_boollen (l : List Bool) : (encs l).length = l.length := by rw [encs_len]; exact Nat.mul_one _

theorem impl_IsCut_any (nodes : Int) (hnodes : I64 nodes) (l : List P2) (u : List Int) (w : World) (S : Nat → Prop) (hS : ∀ b, S b → b < w.heap.size) (A A' : Option Addr) (n c n' c' : Nat) (hl0 : RepL w S l A n c) (hl1 : RepL w S u A' n' c') :
    Calls Try.prog 23 #[.int .i64 nodes, .slice A n c, .slice A' n' c'] w fun x w' => x = .returned (.tuple #[.bool (cutOk nodes l u && cutGood l u), .bool (cutOk nodes l u)]) ∧ Below w.heap.size w w' := by
  have hbd := hl0.bd
  have hbd' := hl1.bd
  obtain ⟨hn, -⟩ := id hl0
  obtain ⟨hn', -⟩ := id hl1
  obtain ⟨r0, hr0⟩ : ∃ r, goodEv nodes l = r := ⟨_, rfl⟩
  have Hn := Lib.hid hn
  have Hn' := Lib.hid hn'
  have R0 := Lib.hid hr0
  clear hn hn' hr0
  cases r0 with
  | false =>
    have Hok := Lib.hid (show cutOk nodes l u = false by unfold cutOk; rw [R0.out]; rfl)
    go_enter Try.func23, Try.ntmps23
    go_wp2_with fail
    refine (areEvents_any nodes hnodes l w S hS A n c hl0).mono ?_
    rintro e w1 ⟨rfl, b1⟩
    rw [R0.out]
    go_wp2_with fail
    go_ret2
    exact ⟨by rw [Hok.out]; rfl, b1⟩
  | true =>
    obtain ⟨hg1, hg2, hg3, hg4⟩ := goodEv_get R0.out
    obtain ⟨N, rfl⟩ := Int.eq_ofNat_of_zero_le (show 0 ≤ nodes by omega)
    have Hev := Lib.hid hg4
    have hN1 : 1 ≤ N := by omega
    have hN2 : N ≤ 5 := by omega
    have hn40 : n ≤ 40 := by have := Hn.out; omega
    clear hg4
    obtain ⟨r1, hr1⟩ : ∃ r, uptoB N l u = r := ⟨_, rfl⟩
    have R1 := Lib.hid hr1
    clear hr1
    have Hok0 := Lib.hid (show cutOk (N : Int) l u = r1 by unfold cutOk; rw [R0.out, Int.toNat_natCast, R1.out]; rfl)
    cases r1 with
    | false =>
      go_enter Try.func23, Try.ntmps23
      go_wp2_with fail
      refine (areEvents_any (N : Int) hnodes l w S hS A n c hl0).mono ?_
      rintro e w1 ⟨rfl, b1⟩
      rw [R0.out]
      go_wp2_with fail
      refine (isCutOf_any N hN1 hN2 l Hev.out hg3 u w1 S (fun x hx => Nat.lt_of_lt_of_le (hS x hx) b1.size) A A' n c n' c' (hl0.keep (fun p hp => b1.cell (hS _ hp))) (hl1.keep (fun p hp => b1.cell (hS _ hp)))).mono ?_
      rintro e w2 ⟨rfl, b2⟩
      have B2 := bnext b1 b2
      rw [R1.out]
      go_wp2_with fail
      go_ret2
      exact ⟨by rw [Hok0.out]; rfl, B2⟩
    | true =>
      have HuN := Lib.hid (uptoB_get R1.out)
      obtain ⟨i0, hi, hz0, hz1, hz2⟩ := info_parts infoInt
      obtain ⟨i1, hi', hz0', hz1', hz2'⟩ := info_parts infoBool
      have hmk : ∀ W, (Instr.makeSlice 30 (.int .i64 (N : Int)) (.int .i64 (N : Int))).run Try.prog W = .ok (.slice (some ⟨W.heap.size, 0, none⟩) N N) (W.alloc (.cells (madeCells #[.int .i64 0] N) 3)) := fun W => by
        have := run_make_rowN (P := Try.prog) 30 3 i0 _ Try.underlying30 hi hz0 .i64 .i64 N N (Nat.le_refl _) (by rw [hz2]; omega) (by omega) W
        rw [hz1, Nat.mul_one] at this
        exact this
      have hmkB : ∀ W, (Instr.makeSlice 72 (.int .i64 (n : Int)) (.int .i64 (n : Int))).run Try.prog W = .ok (.slice (some ⟨W.heap.size, 0, none⟩) n n) (W.alloc (.cells (madeCells #[.bool false] n) 4)) := fun W => by
        have := run_make_rowN (P := Try.prog) 72 4 i1 _ Try.underlying72 hi' hz0' .i64 .i64 n n (Nat.le_refl _) (by rw [hz2']; omega) (by omega) W
        rw [hz1', Nat.mul_one] at this
        exact this
      go_enter Try.func23, Try.ntmps23
      go_wp2_with fail
      refine (areEvents_any (N : Int) hnodes l w S hS A n c hl0).mono ?_
      rintro e w1 ⟨rfl, b1⟩
      rw [R0.out]
      go_wp2_with fail
      refine (isCutOf_any N hN1 hN2 l Hev.out hg3 u w1 S (fun x hx => Nat.lt_of_lt_of_le (hS x hx) b1.size) A A' n c n' c' (hl0.keep (fun p hp => b1.cell (hS _ hp))) (hl1.keep (fun p hp => b1.cell (hS _ hp)))).mono ?_
      rintro e w2 ⟨rfl, b2⟩
      have B2 := bnext b1 b2
      rw [R1.out]
      obtain ⟨g0, hg0⟩ : ∃ g, w2.heap.size = g := ⟨_, rfl⟩
      have hgB : w.heap.size ≤ g0 := by have := B2.size; omega
      have o0 := own_zeros w2 3 N (by omega)
      have o1 := own_falses (w2.alloc (.cells (madeCells #[.int .i64 0] N) 3)) 4 n (by omega)
      have o0' := o0.alloc (.cells (madeCells #[.bool false] n) 4)
      have hsz : (w2.alloc (.cells (madeCells #[.int .i64 0] N) 3)).heap.size = g0 + 1 := by simp [hg0]
      rw [hsz] at o1
      rw [hg0] at o0'
      have HO0 := Lib.hid o0'
      have HO1 := Lib.hid o1
      have B4 := Lib.hid ((B2.alloc B2.size (.cells (madeCells #[.int .i64 0] N) 3)).alloc (by simp; omega) (.cells (madeCells #[.bool false] n) 4))
      clear o0 o0' o1 hsz
      go_wp2_with fail
      try simp only [hg0]
      go_loopw [30] (fun i wr => ∃ k : Nat, k ≤ n ∧ i = .int .i64 k ∧ (∀ i, i < k → cutBad l u i = false) ∧ wr.ownsRow g0 3 1 (.slice (some ⟨g0, 0, none⟩) N N) N (encs (cntL N l k)) ∧ wr.ownsRow (g0 + 1) 4 1 (.slice (some ⟨g0 + 1, 0, none⟩) n n) n (encs (insTo l u n k)) ∧ Below w.heap.size w wr) (fun i _ => n - (intOf i).toNat)
      case atStart => exact ⟨0, Nat.zero_le _, rfl, fun i hi => absurd hi (by omega), by rw [cntL_zero]; exact HO0.out, by rw [insTo_zero]; exact HO1.out, B4.out⟩
      case round =>
        obtain ⟨k, hk, rfl, hpre, hown, hins, hbel⟩ := hrel
        have Hpre := Lib.hid hpre
        clear hpre
        by_cases hlt : k < n
        · have hl1' : k < l.length := by have := Hn.out; omega
          obtain ⟨b, off, xs, rfl, hSb, hc, rfl, hi1, hi2⟩ := hl0.at_ hl1'
          have hc0 := hc 0 _ rfl
          have hc1 := hc 1 _ rfl
          clear hc
          generalize hek : l[k] = ek at hc0 hc1 hi1 hi2
          obtain ⟨x, y⟩ := ek
          have hek' : l[k]? = some ⟨x, y⟩ := by rw [List.getElem?_eq_getElem hl1', hek]
          obtain ⟨hx1, hx2, hy1, hy2, hy3⟩ := Hev.out k hl1' _ hek'
          obtain ⟨j, rfl⟩ := Int.eq_ofNat_of_zero_le hx1
          have hjN : j < N := by have : (j : Int) ≤ (N : Int) - 1 := hx2; omega
          have hj : j < u.length := by have := HuN.out; omega
          have hc0' : wr.cell? ⟨b, off + k * 2, none⟩ = some (.int .i64 j) := (hbel.cell (hS _ hSb)).trans hc0
          have hc1' : wr.cell? ⟨b, off + k * 2 + 1, none⟩ = some (.int .i64 y) := (hbel.cell (hS _ hSb)).trans hc1
          obtain ⟨W, hW⟩ : ∃ W, W = wr.alloc (.cells #[.int .i64 j, .int .i64 y] 64) := ⟨_, rfl⟩
          obtain ⟨gb, hgb⟩ : ∃ g, wr.heap.size = g := ⟨_, rfl⟩
          have hg01 : g0 + 1 < gb := by rw [← hgb]; exact (hins.lt _ rfl).2
          have hbW : Below w.heap.size w W := by subst hW; exact hbel.alloc hbel.size _
          have oW : W.ownsRow g0 3 1 (.slice (some ⟨g0, 0, none⟩) N N) N (encs (cntL N l k)) := by subst hW; exact hown.alloc _
          have iW : W.ownsRow (g0 + 1) 4 1 (.slice (some ⟨g0 + 1, 0, none⟩) n n) n (encs (insTo l u n k)) := by subst hW; exact hins.alloc _
          obtain ⟨q, hq⟩ : ∃ q, cnt l k j = q := ⟨_, rfl⟩
          have hcl := cnt_le l k j
          have f0 : W.cell? ⟨gb, 0, none⟩ = some (.int .i64 j) := by subst hW; rw [← hgb]; simp
          have f1 : W.cell? ⟨gb, 1, none⟩ = some (.int .i64 y) := by subst hW; rw [← hgb]; simp
          have f2 : W.cell? ⟨g0, j, none⟩ = some (.int .i64 q) := by rw [oW.cellAt j (by omega), getI _ _ _ (cntL_get l k hjN), hq]
          obtain ⟨bu, offu, rfl, hSu, hcu, -⟩ := hl1.at1 rfl hj
          obtain ⟨ux, hux⟩ : ∃ v, u[j] = v := ⟨_, rfl⟩
          have f3 : W.cell? ⟨bu, offu + j, none⟩ = some (.int .i64 ux) := (hbW.cell (hS _ hSu)).trans (by rw [hcu _ rfl, hux])
          have f4 : W.cell? ⟨g0 + 1, k, none⟩ = some (.bool false) := by rw [iW.cellAt k (by omega), getB _ _ _ (insTo_get hlt)]; simp
          have z4 := iW.frozenAt k
          have hux' : u[j]? = some ux := by rw [List.getElem?_eq_getElem hj, hux]
          obtain ⟨r, hr⟩ : ∃ r, decide ((q : Int) < ux) = r := ⟨_, rfl⟩
          have hin : inV l u k = r := inV_eq hek' hux' (by
            rw [atV_eq hek', ← hr]
            show decide (((cnt l k j : Nat) : Int) + 1 ≤ ux) = _
            rw [hq]
            apply decide_eq_decide.2
            omega)
          -- the two rows behind the round
          obtain ⟨X, hX⟩ : ∃ X, X = (W.setCell ⟨g0 + 1, k, none⟩ (.bool r)).drew := ⟨_, rfl⟩
          have iX : X.ownsRow (g0 + 1) 4 1 (.slice (some ⟨g0 + 1, 0, none⟩) n n) n (encs (insTo l u n (k + 1))) := by
            subst hX
            rw [insTo_succ, hin, ← setB _ _ _ (by rw [insTo_len]; exact hlt)]
            exact (iW.stored k _).1.drew
          have oX : X.ownsRow g0 3 1 (.slice (some ⟨g0, 0, none⟩) N N) N (encs (cntL N l k)) := by
            subst hX
            exact (own_other (v2 := .slice (some ⟨g0 + 1, 0, none⟩) n n) oW (iW.stored k _).2 (fun kk hkk e => by
              have h1 : g0 = kk := Option.some.inj hkk
              have h2 : g0 + 1 = kk := Option.some.inj e
              omega)).drew
          have bX : Below w.heap.size w X := by subst hX; exact (hbW.setCell (p := ⟨g0 + 1, k, none⟩) (show w.heap.size ≤ g0 + 1 by omega) _).drew
          have hww : IntKind.i64.wrap ((q : Int) + 1) = (q : Int) + 1 := by rw [IntKind.wrap_i64]; omega
          have hneX : ∀ i v, W.cell? ⟨gb, i, none⟩ = some v → X.cell? ⟨gb, i, none⟩ = some v := fun i v h => by
            subst hX
            rw [World.cell?_drew, World.cell?_setCell_other (h := fun e => by have := congrArg Addr.block e; simp at this; omega)]
            exact h
          have x0 := hneX 0 _ f0
          have x1 := hneX 1 _ f1
          have x2 : X.cell? ⟨g0, j, none⟩ = some (.int .i64 q) := by rw [oX.cellAt j (by omega), getI _ _ _ (cntL_get l k hjN), hq]
          have z2 := oX.frozenAt j
          have oY := (oX.stored j (.int .i64 ((q : Int) + 1))).1
          have iY := own_other (v2 := .slice (some ⟨g0, 0, none⟩) N N) iX (oX.stored j (.int .i64 ((q : Int) + 1))).2 (fun kk hkk e => by
            have h1 : g0 + 1 = kk := Option.some.inj hkk
            have h2 : g0 = kk := Option.some.inj e
            omega)
          have bY := bX.setCell (p := ⟨g0, j, none⟩) hgB (.int .i64 ((q : Int) + 1))
          have y4 : (X.setCell ⟨g0, j, none⟩ (.int .i64 ((q : Int) + 1))).cell? ⟨g0 + 1, k, none⟩ = some (.bool r) := by
            rw [iY.cellAt k (by omega), getB _ _ _ (insTo_get hlt)]
            simp [hin]
          have y1 : (X.setCell ⟨g0, j, none⟩ (.int .i64 ((q : Int) + 1))).cell? ⟨gb, 1, none⟩ = some (.int .i64 y) := by
            rw [World.cell?_setCell_other (h := fun e => by have := congrArg Addr.block e; simp at this; omega)]
            exact x1
          have yf : ∀ f, f < k → (X.setCell ⟨g0, j, none⟩ (.int .i64 ((q : Int) + 1))).cell? ⟨g0 + 1, f, none⟩ = some (.bool (inV l u f)) := fun f hf => by
            rw [iY.cellAt f (by omega), getB _ _ _ (insTo_get (by omega))]
            simp [show f < k + 1 by omega]
          have oZ : (X.setCell ⟨g0, j, none⟩ (.int .i64 ((q : Int) + 1))).ownsRow g0 3 1 (.slice (some ⟨g0, 0, none⟩) N N) N (encs (cntL N l (k + 1))) := by
            rw [cntL_succ hek' hjN, hq, ← setI _ _ _ (by rw [cntL_len]; exact hjN)]
            exact oY
          have HZ := Lib.hid oZ
          have HI := Lib.hid iY
          have HB := Lib.hid bY
          have Hek := Lib.hid hek'
          have Hin := Lib.hid hin
          have HX := Lib.hid hX
          have HW := Lib.hid hW
          have YF := Lib.hid yf
          have ne1 : g0 + 1 ≠ gb := by omega
          have ne3 : g0 + 1 ≠ bu := by have := hS _ hSu; omega
          have hkI : (k : Int) < (n : Int) := by omega
          have hk0 : (0 : Int) ≤ (k : Int) := by omega
          have hjI : (j : Int) < (n' : Int) := by have := Hn'.out; omega
          have hjI2 : (j : Int) < (N : Int) := by omega
          have hj0 : (0 : Int) ≤ (j : Int) := by omega
          have Hy1 := Lib.hid (show -1 ≤ y from hy1)
          have Hy2 := Lib.hid (show y ≤ (k : Int) - 1 from hy2)
          clear hc0 hc1 hi1 hi2 hek hek' hx1 hx2 hy1 hy2 hy3 hW hX hcu hux hux' hin oZ iY oY oX iX bX bY yf hneX oW iW hown hins hbW hcl hq
          go_wp2_with fail
          try simp only [hgb]
          rw [← HW.out]
          go_region_held3 (fun w' => w'.cell? ⟨gb, 0, none⟩ = some (.int .i64 j) ∧ w'.cell? ⟨g0, j, none⟩ = some (.int .i64 q) ∧ w'.cell? ⟨bu, offu + j, none⟩ = some (.int .i64 ux)) (go_keep) (fail)
          rw [← HX.out]
          cases r with
          | false =>
            have Hbad := Lib.hid (cutBad_out Hek.out Hin.out)
            go_wp2_with fail
            go_roundw
            case rel => exact ⟨k + 1, by omega, by go_num, bad_succ Hpre.out Hbad.out, HZ.out, HI.out, HB.out⟩
            case measure => simp [intOf]; omega
          | true =>
            by_cases hC : 0 ≤ y
            · obtain ⟨f, rfl⟩ := Int.eq_ofNat_of_zero_le hC
              have hfk : f < k := by have := Hy2.out; omega
              have hfI : (f : Int) < (n : Int) := by omega
              have hf0 : (0 : Int) ≤ (f : Int) := by omega
              have dC : decide ((0 : Int) ≤ (f : Int)) = true := decide_eq_true hf0
              obtain ⟨rf, hrf⟩ : ∃ r, inV l u f = r := ⟨_, rfl⟩
              have y5 := YF.out f hfk
              rw [hrf] at y5
              have Hbad := Lib.hid (cutBad_eq Hek.out Hin.out hrf)
              clear hrf
              cases rf with
              | false =>
                go_wp2_with fail
                go_ret2
                exact ⟨by rw [Hok0.out, cutGood_no hl1' Hbad.out]; rfl, HB.out⟩
              | true =>
                go_wp2_with fail
                go_roundw
                case rel => exact ⟨k + 1, by omega, by go_num, bad_succ Hpre.out Hbad.out, HZ.out, HI.out, HB.out⟩
                case measure => simp [intOf]; omega
            · have dC : decide (0 ≤ y) = false := decide_eq_false hC
              have Hbad := Lib.hid (cutBad_none (u := u) Hek.out hC)
              go_wp2_with fail
              go_roundw
              case rel => exact ⟨k + 1, by omega, by go_num, bad_succ Hpre.out Hbad.out, HZ.out, HI.out, HB.out⟩
              case measure => simp [intOf]; omega
        · obtain rfl : k = n := by omega
          go_wp2_with fail
          go_ret2
          exact ⟨by rw [Hok0.out, cutGood_yes Hn.out Hpre.out]; rfl, hbel⟩

end Go.Proofs.Ytmkhahiefdcinaa
