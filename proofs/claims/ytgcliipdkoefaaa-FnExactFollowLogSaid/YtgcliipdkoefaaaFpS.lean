/-
  Contract: l7Find of the reference.
-/
import Derived.Test.YtgcliipdkoefaaaFpQ
namespace Go.Proofs.Ytgcliipdkoefaaa
open Go.ChangeShapes Go.WideShapes Go.ChangeAt Go.RowKit Go.BigFrame Go.Deep
set_option linter.unusedVariables false

set_option maxHeartbeats 4000000
theorem l7Find_any (l : List IS) (hlen : l.length ≤ 40) (st : List P2) (e : Int) (he : I64 e) (w : World) (S : Nat → Prop) (hS : ∀ b, S b → b < w.heap.size) (A A' : Option Addr) (n c n' c' : Nat) (hl0 : RepL w S l A n c) (hl1 : RepL w S st A' n' c') :
    Calls Try.prog 54 #[.slice A n c, .slice A' n' c', .int .i64 e] w fun x w' => x = .returned (.tuple #[.int .i64 (findL l st e).1, .int .i64 (findL l st e).2]) ∧ Below w.heap.size w w' := by
  have hbd' := hl1.bd
  have hn' := hl1.1
  obtain ⟨he1, he2⟩ := he
  have Hok := Lib.hid (startsTo_epoch hl0.ok hlen)
  have Hn' := Lib.hid hn'
  clear hn'
  go_enter Try.func54, Try.ntmps54
  go_wp2_with fail
  refine (l7Starts_any l hlen w S hS A n c hl0).mono ?_
  rintro e w1 ⟨A2, m, c2, rfl, hm40, ⟨ho, hr⟩, b1⟩
  have Hm := Lib.hid (show m = (startsTo l l.length).length from hr.1)
  have hrb := hr.bd
  obtain ⟨R, hR⟩ : ∃ R, (startsTo l l.length).reverse = R := ⟨_, rfl⟩
  have Hfl := Lib.hid (show findL l st e = findR l st e R 0 by unfold findL; rw [hR])
  have HRl := Lib.hid (show m = R.length by rw [← hR, List.length_reverse]; exact Hm.out)
  have hz1 := b1.size
  have HR := Lib.hid hR
  have Hr := Lib.hid hr
  clear hR hr
  clear ho
  go_wp2_with fail
  go_loopw [9, 10] (fun q i wr => ∃ k : Nat, k ≤ m ∧ q = .int .i64 k ∧ i = .int .i64 ((m : Int) - 1 - k) ∧ findR l st e R 0 = findR l st e (R.drop k) k ∧ Below w1.heap.size w1 wr) (fun q _ _ => m - (intOf q).toNat)
  case atStart => exact ⟨0, Nat.zero_le _, rfl, by simp, by rw [List.drop_zero]; rfl, Below.refl _ _⟩
  case round =>
    obtain ⟨k, hk, rfl, rfl, hpre, hbel⟩ := hrel
    have Hpre := Lib.hid hpre
    clear hpre
    have hz3 := hbel.size
    have hbT := bnext b1 hbel
    by_cases hlt : k < m
    · obtain ⟨t, ht⟩ : ∃ t : Nat, (m : Int) - 1 - (k : Int) = (t : Int) := ⟨m - 1 - k, by omega⟩
      rw [ht]
      have Htm := Lib.hid (show t = m - 1 - k by omega)
      have Hsub := Lib.hid (show IntKind.i64.wrap ((t : Int) - 1) = (m : Int) - 1 - ((k + 1 : Nat) : Int) by rw [IntKind.wrap_i64]; omega)
      have htI : (t : Int) < (m : Int) := by omega
      have ht0 : (0 : Int) ≤ (t : Int) := by omega
      have hw9 : IntKind.i64.wrap ((k : Int) + 1) = (k : Int) + 1 := by rw [IntKind.wrap_i64]; omega
      have hk1 : t < (startsTo l l.length).length := by have := Hm.out; omega
      obtain ⟨b, off, xs, rfl, hSb, hc, rfl, -⟩ := Hr.out.at_ hk1
      have hc0 := hc 0 _ rfl
      clear hc
      have hok := Hok.out _ (List.getElem_mem hk1)
      generalize hes : (startsTo l l.length)[t] = es at hc0 hok
      obtain ⟨se, sa⟩ := es
      have Hs := Lib.hid (show R[k]? = some ⟨se, sa⟩ by
        rw [← HR.out, List.getElem?_reverse (by have := Hm.out; omega), ← hes]
        have e : (startsTo l l.length).length - 1 - k = t := by have := Hm.out; have := Htm.out; omega
        rw [e]
        exact List.getElem?_eq_getElem hk1)
      have d0 : ∀ W, Below wr.heap.size wr W → ∀ p : Aft W, p.world.cell? ⟨b, off + t * 2, none⟩ = some (.int .i64 se) := fun W hW => Aft.cell (((bnext hbel hW).cell hSb.2).trans hc0)
      have D0 := Lib.hid d0
      clear d0
      have Hht := Lib.hid ht
      clear hc0 hes ht
      go_wp2_with fail
      go_loopw [28] (fun i wr' => ∃ j : Nat, j ≤ n' ∧ i = .int .i64 j ∧ (∀ i y, i < j → st[i]? = some y → hitP se y = false) ∧ Below wr.heap.size wr wr') (fun i _ => n' - (intOf i).toNat)
      case atStart => exact ⟨0, Nat.zero_le _, rfl, fun i y hi => absurd hi (by omega), Below.refl _ _⟩
      case round =>
        obtain ⟨j, hj, rfl, hpre2, hbel2⟩ := hrel
        have Hpre2 := Lib.hid hpre2
        clear hpre2
        have hbT2 := bnext hbT hbel2
        by_cases hlt2 : j < n'
        · have hj1 : j < st.length := by have := Hn'.out; omega
          obtain ⟨b', off', xs', rfl, hSb', hc, rfl, hok2⟩ := hl1.at_ hj1
          have hc0 := hc 0 _ rfl
          have hc1 := hc 1 _ rfl
          clear hc
          generalize hes : st[j] = es at hc0 hc1 hok2
          obtain ⟨x, y⟩ := es
          have Hx := Lib.hid (show st[j]? = some ⟨x, y⟩ by rw [List.getElem?_eq_getElem hj1, hes])
          have z0 : wr.cell? ⟨b', off' + j * 2, none⟩ = some (.int .i64 x) := (hbT2.cell (hS _ hSb')).trans hc0
          have z1 : wr.cell? ⟨b', off' + j * 2 + 1, none⟩ = some (.int .i64 y) := (hbT2.cell (hS _ hSb')).trans hc1
          obtain ⟨W, hW⟩ : ∃ W, W = wr.alloc (.cells #[.int .i64 x, .int .i64 y] 55) := ⟨_, rfl⟩
          have hbx : Below wr.heap.size wr W := by rw [hW]; exact (Below.refl _ _).alloc (Nat.le_refl _) _
          have x0 : ∀ p : Aft W, p.world.cell? ⟨wr.heap.size, 0, none⟩ = some (.int .i64 x) := Aft.cell (by rw [hW]; exact World.cell?_alloc_new _ _ _ 0)
          have hbW := bnext hbel2 hbx
          have d0 := D0.out W hbW
          have hjI : (j : Int) < (n' : Int) := by omega
          have hj0 : (0 : Int) ≤ (j : Int) := by omega
          obtain ⟨r, hr⟩ : ∃ r, (x != se) = r := ⟨_, rfl⟩
          have Hh := Lib.hid (show hitP se ⟨x, y⟩ = !r by rw [← hr]; unfold hitP bne; rw [Bool.not_not])
          clear hc0 hc1 hes hbx
          have HW := Lib.hid hW
          clear hW
          go_wp2_with fail
          rw [← HW.out]
          cases r with
          | true =>
            refine wp_region_aft (by kernel_rfl) (by kernel_rfl) ?_
            repeat (go_big_quiet_step (fail))
            refine wpQuiet_nil ?_
            rintro _ ⟨p, rfl⟩
            have hb2 := bnext hbW p.below
            go_wp2_with fail
            go_roundw
            case rel =>
              refine ⟨j + 1, by omega, by go_num, fun i y' hi hy => ?_, hb2⟩
              by_cases hik : i = j
              · subst hik
                rw [Hx.out] at hy
                obtain rfl := Option.some.inj hy
                exact Hh.out
              · exact Hpre2.out i y' (by omega) hy
            case measure => simp [intOf]; omega
          | false =>
            have Hxe := Lib.hid (show x = se by simpa using hr)
            have Hq := Lib.hid (idxP_hit (p := hitP se) Hpre2.out Hx.out Hh.out)
            have Hans := Lib.hid (show findL l st e = (fpAt l st e se j, (k : Int) + 1) by rw [Hfl.out, Hpre.out, findR_hit Hs.out Hq.out])
            have CE := Lib.hid (fun W S hS h => l7End_any l x hok2.1 W S hS A n c h)
            obtain ⟨cc, hcc⟩ : ∃ cc, cntLe x l = cc := ⟨_, rfl⟩
            rw [hcc] at CE
            have hccb : cc ≤ 40 := by rw [← hcc]; exact Nat.le_trans (cntLe_le _ _) hlen
            have Hcc := Lib.hid (show cntLe se l = cc by rw [← Hxe.out]; exact hcc)
            clear hcc
            refine wp_region_aft (by kernel_rfl) (by kernel_rfl) ?_
            repeat (go_big_quiet_step (fail))
            refine wpQuiet_nil ?_
            rintro _ ⟨p, rfl⟩
            have hb2 := bnext hbW p.below
            have hbT3 := bnext hbT hb2
            have y0 := x0 p
            have H3 := Lib.hid (hl0.keep (w' := p.world) (fun q hq => hbT3.cell (hS _ hq)))
            by_cases hnx : j + 1 < n'
            · have ht2 : j + 1 < st.length := by have := Hn'.out; omega
              obtain ⟨bb, ob, xs, hA', hSb2, hc, rfl, hok3⟩ := hl1.at_ ht2
              simp only [Option.some.injEq, Addr.mk.injEq, and_true] at hA'
              obtain ⟨rfl, rfl⟩ := hA'
              have z0 : p.world.cell? ⟨b', off' + (j + 1) * 2 + 1, none⟩ = some (.int .i64 st[j + 1].b) := (hbT3.cell (hS _ hSb2)).trans (hc 1 _ rfl)
              have Hnx := Lib.hid (show nextAt st e j = st[j + 1].b from nextAt_some (List.getElem?_eq_getElem ht2))
              have hjI : ((j + 1 : Nat) : Int) < (n' : Int) := by omega
              have hw1 : IntKind.i64.wrap ((j : Int) + 1) = ((j + 1 : Nat) : Int) := by rw [IntKind.wrap_i64]; omega
              clear hc
              go_wp2_with fail
              refine (CE.out p.world S (fun b hb => Nat.lt_of_lt_of_le (hS b hb) hbT3.size) H3.out).mono ?_
              rintro e w4 ⟨rfl, b4⟩
              by_cases hmn : (cc : Int) < st[j + 1].b
              · go_wp2_with fail
                go_ret2
                exact ⟨by rw [Hans.out]; unfold fpAt; rw [Hnx.out, Hcc.out]; congr 3; simp; omega, bnext hbT3 b4⟩
              · go_wp2_with fail
                go_ret2
                exact ⟨by rw [Hans.out]; unfold fpAt; rw [Hnx.out, Hcc.out]; congr 3; simp; omega, bnext hbT3 b4⟩
            · have Hnx := Lib.hid (show nextAt st e j = e from nextAt_none (by have := Hn'.out; omega))
              have hw1 : IntKind.i64.wrap ((j : Int) + 1) = ((j + 1 : Nat) : Int) := by rw [IntKind.wrap_i64]; omega
              go_wp2_with fail
              refine (CE.out p.world S (fun b hb => Nat.lt_of_lt_of_le (hS b hb) hbT3.size) H3.out).mono ?_
              rintro e w4 ⟨rfl, b4⟩
              by_cases hmn : (cc : Int) < e
              · go_wp2_with fail
                go_ret2
                exact ⟨by rw [Hans.out]; unfold fpAt; rw [Hnx.out, Hcc.out]; congr 3; simp; omega, bnext hbT3 b4⟩
              · go_wp2_with fail
                go_ret2
                exact ⟨by rw [Hans.out]; unfold fpAt; rw [Hnx.out, Hcc.out]; congr 3; simp; omega, bnext hbT3 b4⟩
        · have Hq := Lib.hid (idxP_miss (p := hitP se) (l := st) fun i y hi hy => Hpre2.out i y (by have := Hn'.out; omega) hy)
          go_wp2_with fail
          go_roundw
          case rel =>
            refine ⟨k + 1, by omega, by go_num, ?_, ?_, bnext hbel hbel2⟩
            · have := Hht.out
              simp only [Value.int.injEq, true_and]
              omega
            · rw [show (((k + 1 : Nat)) : Int) = (k : Int) + 1 by omega, Hpre.out, findR_miss Hs.out Hq.out]
          case measure => simp [intOf]; omega
    · have e1 : decide (0 ≤ (m : Int) - 1 - (k : Int)) = false := decide_eq_false (by omega)
      obtain rfl : k = m := by omega
      have Hans := Lib.hid (show findL l st e = (0, (k : Int)) by rw [Hfl.out, Hpre.out, findR_end (by have := HRl.out; omega)])
      go_wp2_with fail
      go_ret2
      exact ⟨by rw [Hans.out]; rfl, hbT⟩
end Go.Proofs.Ytgcliipdkoefaaa
