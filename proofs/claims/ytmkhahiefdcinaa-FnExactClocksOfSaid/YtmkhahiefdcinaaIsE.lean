/-
  Contract: the laws' own helper over [][] (eqIntSS).
-/
import Derived.Test.YtmkhahiefdcinaaInA
namespace Go.Proofs.Ytmkhahiefdcinaa
open Go.ChangeShapes Go.WideShapes Go.ChangeAt Go.RowKit Go.BigFrame Go.Deep
set_option linter.unusedVariables false


theorem eqIntSS_any (l l' : List (List Int)) (w : World) (S : Nat → Prop) (hS : ∀ b, S b → b < w.heap.size) (A A' : Option Addr) (n c n' c' : Nat) (h : RepL w S l A n c) (h' : RepL w S l' A' n' c') :
    Calls Try.prog 26 #[.slice A n c, .slice A' n' c'] w fun e w' => e = .returned (.bool (decide (l = l'))) ∧ Below w.heap.size w w' := by
  have hbd := h.bd
  have hbd' := h'.bd
  obtain ⟨hn, -⟩ := id h
  obtain ⟨hn', -⟩ := id h'
  by_cases hne : n = n'
  · have hne1 : ((n : Int) != (n' : Int)) = false := by simp [hne]
    have Hne := Lib.hid hne
    have Hn := Lib.hid hn
    have Hn' := Lib.hid hn'
    clear hne hn hn'
    go_enter Try.func26, Try.ntmps26
    go_wp2
    go_loopw [5] (fun i wr => ∃ k : Nat, k ≤ n ∧ i = .int .i64 k ∧ l.take k = l'.take k ∧ Below w.heap.size w wr) (fun i _ => n - (intOf i).toNat)
    case atStart => exact ⟨0, Nat.zero_le _, rfl, rfl, Below.refl _ _⟩
    case round =>
      obtain ⟨k, hk, rfl, hpre, hbel⟩ := hrel
      have Hpre := Lib.hid hpre
      clear hpre
      by_cases hlt : k < n
      · have hl1 : k < l.length := by have := Hn.out; omega
        have hl2 : k < l'.length := by have := Hn'.out; have := Hne.out; omega
        have hlt' : k < n' := by have := Hne.out; omega
        have hI : (k : Int) < (n : Int) := by omega
        have hI' : (k : Int) < (n' : Int) := by omega
        have hI0 : (0 : Int) ≤ (k : Int) := by omega
        obtain ⟨b, off, A1, c1, rfl, hSb, hc, hr⟩ := h.row hl1
        obtain ⟨b', off', A2, c2, rfl, hSb', hc', hr'⟩ := h'.row hl2
        have hc0 : ∀ p : Aft wr, p.world.cell? ⟨b, off + k, none⟩ = some (.slice A1 l[k].length c1) := Aft.cell ((hbel.cell (hS _ hSb)).trans hc)
        have hd0 : ∀ p : Aft wr, p.world.cell? ⟨b', off' + k, none⟩ = some (.slice A2 l'[k].length c2) := Aft.cell ((hbel.cell (hS _ hSb')).trans hc')
        have CE0 : ∀ p : Aft wr, Calls Try.prog 17 #[.slice A1 l[k].length c1, .slice A2 l'[k].length c2] p.world fun e w' => e = .returned (.bool (decide (l[k] = l'[k]))) ∧ Below p.world.heap.size p.world w' := fun p => by
          have hb2 : Below w.heap.size w p.world := hbel.trans (p.below.mono hbel.size)
          exact eqIntS_any l[k] l'[k] p.world S (fun x hx => Nat.lt_of_lt_of_le (hS x hx) hb2.size) _ _ _ _ _ _ (hr.keep fun q hq => hb2.cell (hS _ hq)) (hr'.keep fun q hq => hb2.cell (hS _ hq))
        clear hc hc' hr hr'
        by_cases he : l[k] = l'[k]
        · rw [decide_eq_true he] at CE0
          have CE := Lib.hid CE0
          have He := Lib.hid he
          clear he CE0
          go_wp2_with fail
          refine wp_region_aft (by kernel_rfl) (by kernel_rfl) ?_
          repeat (go_big_quiet_step ((go_at_call 17; exact Calls.aft (CE.out _))))
          refine wpQuiet_nil ?_
          rintro _ ⟨p, rfl⟩
          have hb2 : Below w.heap.size w p.world := hbel.trans (p.below.mono hbel.size)
          go_wp2
          go_roundw
          case rel => exact ⟨k + 1, by omega, by go_num, by rw [List.take_succ_eq_append_getElem hl1, List.take_succ_eq_append_getElem hl2, Hpre.out, He.out], hb2⟩
          case measure => simp [intOf]; omega
        · rw [decide_eq_false he] at CE0
          have CE := Lib.hid CE0
          have Hfin := Lib.hid (show decide (l = l') = false from decide_eq_false fun e => he (by subst e; rfl))
          clear he CE0
          go_wp2_with fail
          refine wp_region_aft (by kernel_rfl) (by kernel_rfl) ?_
          repeat (go_big_quiet_step ((go_at_call 17; exact Calls.aft (CE.out _))))
          refine wpQuiet_nil ?_
          rintro _ ⟨p, rfl⟩
          have hb2 : Below w.heap.size w p.world := hbel.trans (p.below.mono hbel.size)
          go_wp2
          go_ret
          exact ⟨by rw [Hfin.out]; rfl, hb2⟩
      · go_wp2
        go_ret
        have e1 := Hn.out
        have e2 := Hn'.out
        have e3 := Hne.out
        have e4 := Hpre.out
        rw [List.take_of_length_le (by omega), List.take_of_length_le (by omega)] at e4
        exact ⟨by rw [decide_eq_true e4]; rfl, hbel⟩
  · have hne1 : ((n : Int) != (n' : Int)) = true := by simp; omega
    have Hfin := Lib.hid (show decide (l = l') = false from decide_eq_false fun e => hne (by rw [hn, hn', e]))
    clear hn hn' hne
    go_enter Try.func26, Try.ntmps26
    go_wp2
    go_ret
    exact ⟨by rw [Hfin.out]; rfl, Below.refl _ _⟩

end Go.Proofs.Ytmkhahiefdcinaa
