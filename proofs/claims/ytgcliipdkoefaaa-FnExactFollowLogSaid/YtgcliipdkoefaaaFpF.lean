/-
  Contract: findPart of the program.
-/
import Derived.Test.YtgcliipdkoefaaaFpQ
namespace Go.Proofs.Ytgcliipdkoefaaa
open Go.ChangeShapes Go.WideShapes Go.ChangeAt Go.RowKit Go.BigFrame Go.Deep
set_option linter.unusedVariables false

set_option maxHeartbeats 400000
theorem findPart_any (l : List IS) (hg : goodEn l = true) (hlen : l.length ≤ 40) (st : List P2) (e : Int) (he : I64 e) (w : World) (S : Nat → Prop) (hS : ∀ b, S b → b < w.heap.size) (A A' : Option Addr) (n c n' c' : Nat) (hl0 : RepL w S l A n c) (hl1 : RepL w S st A' n' c') :
    Calls Try.prog 57 #[.slice A n c, .slice A' n' c', .int .i64 e] w fun x w' => x = .returned (.tuple #[.int .i64 (findL l st e).1, .int .i64 (findL l st e).2]) ∧ Below w.heap.size w w' := by
  have eg := enters_of Try.func76 (by kernel_rfl) rfl
  have hbd' := hl1.bd
  have hn' := hl1.1
  obtain ⟨he1, he2⟩ := he
  have Hok := Lib.hid (startsTo_epoch hl0.ok hlen)
  have Hn' := Lib.hid hn'
  clear hn'
  go_enter Try.func57, Try.ntmps57
  go_wp2_with fail
  refine (startsOf_any l hlen w S hS A n c hl0).mono ?_
  rintro e w1 ⟨A2, m, c2, rfl, hm40, ⟨ho, hr⟩, b1⟩
  have Hm := Lib.hid (show m = (startsTo l l.length).length from hr.1)
  have Ho := Lib.hid ho
  have Hr := Lib.hid hr
  clear hr
  go_wp2_with fail
  refine (reverseSta_any (startsTo l l.length) w1 w.heap.size A2 m c2 Hm.out (by omega) Ho.out).mono ?_
  rintro e w2 ⟨⟨v0, rfl⟩, ho2, hg2, hs2⟩
  obtain ⟨R, hR⟩ : ∃ R, (startsTo l l.length).reverse = R := ⟨_, rfl⟩
  rw [hR] at ho2
  have hRl : m = R.length := by rw [← hR, List.length_reverse]; exact Hm.out
  have hROk : ∀ x ∈ R, I64 x.a ∧ I64 x.b := fun x hx => Hok.out x (by rw [← hR] at hx; exact List.mem_reverse.1 hx)
  have hrep := RepL.of_own' (s := 2) rfl hRl ho2 hROk
  have hrb := hrep.bd
  have B2 := own_base Ho.out b1 (Nat.le_refl _) hg2 b1.size
  have hz1 := b1.size
  have Hs2 := Lib.hid hs2
  have Hfl := Lib.hid (show findL l st e = findR l st e R 0 by unfold findL; rw [hR])
  have HRl := Lib.hid hRl
  have HROk := Lib.hid hROk
  have Hrep := Lib.hid hrep
  have HR := Lib.hid hR
  clear hRl hROk hrep hR
  clear ho ho2 hg2 hs2
  go_wp2_with fail
  go_loopw [19] (fun i wr => ∃ k : Nat, k ≤ m ∧ i = .int .i64 k ∧ findR l st e R 0 = findR l st e (R.drop k) k ∧ Below w2.heap.size w2 wr) (fun i _ => m - (intOf i).toNat)
  case atStart => exact ⟨0, Nat.zero_le _, rfl, by rw [List.drop_zero]; rfl, Below.refl _ _⟩
  case round =>
    obtain ⟨k, hk, rfl, hpre, hbel⟩ := hrel
    have Hpre := Lib.hid hpre
    clear hpre
    have hz3 := hbel.size
    by_cases hlt : k < m
    · have hk1 : k < R.length := by have := HRl.out; omega
      obtain ⟨b, off, xs, rfl, hSb, hc, rfl, -⟩ := Hrep.out.at_ hk1
      have hc0 := hc 0 _ rfl
      have hc1 := hc 1 _ rfl
      clear hc
      have hok := HROk.out R[k] (List.getElem_mem hk1)
      generalize hes : R[k] = es at hc0 hc1 hok
      obtain ⟨se, sa⟩ := es
      have Hs := Lib.hid (show R[k]? = some ⟨se, sa⟩ by rw [List.getElem?_eq_getElem hk1, hes])
      have d0 : wr.cell? ⟨b, off + k * 2, none⟩ = some (.int .i64 se) := (hbel.cell hSb.2).trans hc0
      have d1 : wr.cell? ⟨b, off + k * 2 + 1, none⟩ = some (.int .i64 sa) := (hbel.cell hSb.2).trans hc1
      obtain ⟨W, hW⟩ : ∃ W, W = wr.alloc (.cells #[.int .i64 se, .int .i64 sa] 55) := ⟨_, rfl⟩
      have hbx : Below wr.heap.size wr W := by rw [hW]; exact (Below.refl _ _).alloc (Nat.le_refl _) _
      have x0 : W.cell? ⟨wr.heap.size, 0, none⟩ = some (.int .i64 se) := by rw [hW]; exact World.cell?_alloc_new _ _ _ 0
      have hp := findPart1_pred ⟨se, sa⟩ wr.heap.size W x0
      have hb0 := bnext hbel hbx
      have hbT := bnext B2 hb0
      have Hx := Lib.hid (hl1.keep (w' := W) (fun p hp => hbT.cell (hS _ hp)))
      have hSW : ∀ b, S b → b < W.heap.size := fun b hb => Nat.lt_of_lt_of_le (hS b hb) hbT.size
      obtain ⟨q, hq⟩ : ∃ q, idxP (hitP se) st = q := ⟨_, rfl⟩
      have hqb := idxP_bd (hitP se) st
      rw [hq] at hqb
      have Cq := Lib.hid (indexFuncSta_any (hitP se) 76 _ eg st W S hSW A' n' c' Hx.out hp)
      rw [hq] at Cq
      have Hgs := Lib.hid (World.block_lt_of_cell? _ _ x0)
      have Hp := Lib.hid hp
      have HW := Lib.hid hW
      have Hbx := Lib.hid hbx
      have Hb0 := Lib.hid hb0
      have Hq := Lib.hid hq
      clear hp hW hbx hb0 hq
      clear hc0 hc1 hes
      go_wp2_with fail
      rw [← HW.out]
      refine (Cq.out).mono ?_
      rintro e w3 ⟨rfl, b3⟩
      have HB := Lib.hid (bnext Hb0.out b3)
      have BT := bnext hbT b3
      have y0 : w3.cell? ⟨wr.heap.size, 0, none⟩ = some (.int .i64 se) := (b3.cell (p := ⟨wr.heap.size, 0, none⟩) Hgs.out).trans x0
      by_cases hneg : q < 0
      · have Hm1 := Lib.hid (show q = -1 by omega)
        go_wp2_with fail
        go_roundw
        case rel =>
          refine ⟨k + 1, by omega, by go_num, ?_, HB.out⟩
          rw [show (((k + 1 : Nat)) : Int) = (k : Int) + 1 by omega, Hpre.out, findR_miss Hs.out (by rw [Hq.out]; exact Hm1.out)]
        case measure => simp [intOf]; omega
      · obtain ⟨t, rfl⟩ := Int.eq_ofNat_of_zero_le (show 0 ≤ q by omega)
        have Hans := Lib.hid (show findL l st e = (fpAt l st e se t, (k : Int) + 1) by rw [Hfl.out, Hpre.out, findR_hit Hs.out Hq.out])
        have ht1 : t < n' := by have := Hn'.out; have : (t : Int) < st.length := hqb.2; omega
        have CE := Lib.hid (fun W S hS h => endOfEpoch_any l hg se hok.1 W S hS A n c h)
        obtain ⟨cc, hcc⟩ : ∃ cc, cntLe se l = cc := ⟨_, rfl⟩
        rw [hcc] at CE
        have hccb : cc ≤ 40 := by rw [← hcc]; exact Nat.le_trans (cntLe_le _ _) hlen
        have Hcc := Lib.hid hcc
        clear hcc
        have H3 := Lib.hid (hl0.keep (w' := w3) (fun p hp => BT.cell (hS _ hp)))
        by_cases hnx : t + 1 < n'
        · have ht2 : t + 1 < st.length := by have := Hn'.out; omega
          obtain ⟨bb, ob, xs, hA', hSb', hc, rfl, hok2⟩ := hl1.at_ ht2
          have z0 : w3.cell? ⟨bb, ob + (t + 1) * 2 + 1, none⟩ = some (.int .i64 st[t + 1].b) := (BT.cell (hS _ hSb')).trans (hc 1 _ rfl)
          subst hA'
          have Hnx := Lib.hid (show nextAt st e t = st[t + 1].b from nextAt_some (List.getElem?_eq_getElem ht2))
          have hjI : ((t + 1 : Nat) : Int) < (n' : Int) := by omega
          have hw1 : IntKind.i64.wrap ((t : Int) + 1) = ((t + 1 : Nat) : Int) := by rw [IntKind.wrap_i64]; omega
          clear hc
          go_wp2_with fail
          refine (CE.out w3 S (fun b hb => Nat.lt_of_lt_of_le (hS b hb) BT.size) H3.out).mono ?_
          rintro e w4 ⟨rfl, b4⟩
          go_wp2_with fail
          all_goals
            go_ret2
            exact ⟨by rw [Hans.out]; unfold fpAt; rw [Hnx.out, Hcc.out]; congr 3; simp; omega, bnext BT b4⟩
        · have Hnx := Lib.hid (show nextAt st e t = e from nextAt_none (by have := Hn'.out; omega))
          have hw1 : IntKind.i64.wrap ((t : Int) + 1) = ((t + 1 : Nat) : Int) := by rw [IntKind.wrap_i64]; omega
          go_wp2_with fail
          refine (CE.out w3 S (fun b hb => Nat.lt_of_lt_of_le (hS b hb) BT.size) H3.out).mono ?_
          rintro e w4 ⟨rfl, b4⟩
          go_wp2_with fail
          all_goals
            go_ret2
            exact ⟨by rw [Hans.out]; unfold fpAt; rw [Hnx.out, Hcc.out]; congr 3; simp; omega, bnext BT b4⟩
    · obtain rfl : k = m := by omega
      have Hans := Lib.hid (show findL l st e = (0, (k : Int)) by rw [Hfl.out, Hpre.out, findR_end (by have := HRl.out; omega)])
      go_wp2_with fail
      go_ret2
      exact ⟨by rw [Hans.out]; rfl, bnext B2 hbel⟩
end Go.Proofs.Ytgcliipdkoefaaa
