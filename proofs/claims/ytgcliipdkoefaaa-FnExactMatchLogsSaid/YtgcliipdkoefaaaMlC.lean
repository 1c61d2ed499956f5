/-
  Contracts: matchLogs, MatchLogs of the program.
-/
import Derived.Test.YtgcliipdkoefaaaMlQ
namespace Go.Proofs.Ytgcliipdkoefaaa
open Go.ChangeShapes Go.WideShapes Go.ChangeAt Go.RowKit Go.BigFrame Go.Deep
set_option linter.unusedVariables false

set_option maxHeartbeats 4000000
theorem matchLogs_any (l l' : List IS) (hlen : l.length ≤ 40) (hlen' : l'.length ≤ 40) (w : World) (S : Nat → Prop) (hS : ∀ b, S b → b < w.heap.size) (A A' : Option Addr) (n c n' c' : Nat) (hl0 : RepL w S l A n c) (hl1 : RepL w S l' A' n' c') :
    Calls Try.prog 47 #[.slice A n c, .slice A' n' c'] w fun x w' => x = .returned (.bool (mlAns l l')) ∧ Below w.heap.size w w' := by
  have eg := enters_of Try.func73 (by kernel_rfl) rfl
  have hbd := hl0.bd
  have hbd' := hl1.bd
  have hn := hl0.1
  have hn' := hl1.1
  have Hn := Lib.hid hn
  have Hn' := Lib.hid hn'
  clear hn hn'
  have hpl := (pre_le l l').1
  obtain ⟨pp, hpp⟩ : ∃ v, pre l l' = v := ⟨_, rfl⟩
  rw [hpp] at hpl
  have CP := Lib.hid (fun W S hS A A' n c n' c' h1 h2 => partAt_any l l' W S hS A A' n c n' c' h1 h2)
  rw [hpp] at CP
  have Hpp := Lib.hid hpp
  clear hpp
  go_enter Try.func47, Try.ntmps47
  go_wp2_with fail
  refine (startsOf_any l' hlen' w S hS A' n' c' hl1).mono ?_
  rintro e w1 ⟨A3, m', c3, rfl, hm40', ⟨-, hr'⟩, b1⟩
  have hrb' := hr'.bd
  have Hr' := Lib.hid hr'
  clear hr'
  go_wp2_with fail
  refine (startsOf_any l hlen w1 S (fun b hb => Nat.lt_of_lt_of_le (hS b hb) b1.size) A n c (hl0.keep (fun p hp => b1.cell (hS _ hp)))).mono ?_
  rintro e w2 ⟨A2, m, c2, rfl, hm40, ⟨-, hr⟩, b2⟩
  have hrb := hr.bd
  have B2 := bnext b1 b2
  have Hmm := Lib.hid (show m = (startsTo l l.length).length from hr.1)
  have hz1 := b1.size
  have hz2 := b2.size
  have Hr2 := Lib.hid (Hr'.out.upR (Nat.le_refl _) b2)
  have Hr := Lib.hid hr
  clear hr
  go_wp2_with fail
  go_loopw [15] (fun i wr => ∃ k : Nat, k ≤ m ∧ i = .int .i64 k ∧ (∀ i, i < k → ∀ s, (startsTo l l.length)[i]? = some s → (startsTo l' l'.length).any (clashP s) = false) ∧ Below w2.heap.size w2 wr) (fun i _ => m - (intOf i).toNat)
  case atStart => exact ⟨0, Nat.zero_le _, rfl, fun i hi => absurd hi (by omega), Below.refl _ _⟩
  case round =>
    obtain ⟨k, hk, rfl, hpre, hbel⟩ := hrel
    have Hpre := Lib.hid hpre
    clear hpre
    have hz3 := hbel.size
    by_cases hlt : k < m
    · have hk1 : k < (startsTo l l.length).length := by have := Hmm.out; omega
      obtain ⟨b, off, xs, rfl, hSb, hc, rfl, -⟩ := Hr.out.at_ hk1
      have hc0 := hc 0 _ rfl
      have hc1 := hc 1 _ rfl
      clear hc
      generalize hes : (startsTo l l.length)[k] = es at hc0 hc1
      obtain ⟨se, sa⟩ := es
      have Hs := Lib.hid (show (startsTo l l.length)[k]? = some ⟨se, sa⟩ by rw [List.getElem?_eq_getElem hk1, hes])
      have d0 : wr.cell? ⟨b, off + k * 2, none⟩ = some (.int .i64 se) := (hbel.cell hSb.2).trans hc0
      have d1 : wr.cell? ⟨b, off + k * 2 + 1, none⟩ = some (.int .i64 sa) := (hbel.cell hSb.2).trans hc1
      obtain ⟨W, hW⟩ : ∃ W, W = wr.alloc (.cells #[.int .i64 se, .int .i64 sa] 55) := ⟨_, rfl⟩
      have hbx : Below wr.heap.size wr W := by rw [hW]; exact (Below.refl _ _).alloc (Nat.le_refl _) _
      have x0 : W.cell? ⟨wr.heap.size, 0, none⟩ = some (.int .i64 se) := by rw [hW]; exact World.cell?_alloc_new _ _ _ 0
      have x1 : W.cell? ⟨wr.heap.size, 1, none⟩ = some (.int .i64 sa) := by rw [hW]; exact World.cell?_alloc_new _ _ _ 1
      have hp := matchLogs1_pred ⟨se, sa⟩ wr.heap.size W x0 x1
      have hb0 := bnext hbel hbx
      have Hx := Lib.hid ((Hr2.out.upR (by omega) hb0).ltR (by have := hb0.size; omega))
      have Hp := Lib.hid hp
      have HW := Lib.hid hW
      have Hbx := Lib.hid hbx
      have Hb0 := Lib.hid hb0
      clear hp hW hbx hb0
      clear hc0 hc1 hes x0 x1
      obtain ⟨r, hr⟩ : ∃ r, (startsTo l' l'.length).any (clashP ⟨se, sa⟩) = r := ⟨_, rfl⟩
      have Hr := Lib.hid hr
      clear hr
      go_wp2_with fail
      rw [← HW.out]
      refine (containsFuncSta_any (clashP ⟨se, sa⟩) 73 _ eg (startsTo l' l'.length) W _ (fun x hx => hx) A3 m' c3 Hx.out Hp.out _ Hr.out).mono ?_
      rintro e w3 ⟨rfl, b3⟩
      have HB := Lib.hid (bnext Hb0.out b3)
      cases r with
      | true =>
        go_wp2_with fail
        go_ret
        exact ⟨by unfold mlAns; rw [begB_no' Hs.out Hr.out, Bool.and_false]; rfl, bnext B2 HB.out⟩
      | false =>
        go_wp2_with fail
        go_roundw
        case rel =>
          refine ⟨k + 1, by omega, by go_num, fun i hi s hs => ?_, HB.out⟩
          by_cases e : i = k
          · subst e
            rw [Hs.out] at hs
            obtain rfl := Option.some.inj hs
            exact Hr.out
          · exact Hpre.out i (by omega) s hs
        case measure => simp [intOf]; omega
    · have hbeg := begB_yes' (l := l) (l' := l') fun i hi => Hpre.out i (by have := Hmm.out; omega)
      have Hbeg := Lib.hid hbeg
      clear hbeg
      have B3 := bnext B2 hbel
      have h3 := hl0.keep (w' := wr) (fun p hp => B3.cell (hS _ hp))
      have h4 := hl1.keep (w' := wr) (fun p hp => B3.cell (hS _ hp))
      have H3 := Lib.hid h3
      have H4 := Lib.hid h4
      clear h3 h4
      go_wp2_with fail
      refine (CP.out wr S (fun b hb => Nat.lt_of_lt_of_le (hS b hb) B3.size) A A' n c n' c' H3.out H4.out).mono ?_
      rintro e w4 ⟨rfl, b4⟩
      have B4 := bnext B3 b4
      go_wp2_with fail
      · go_loopw [31] (fun i wr => ∃ k : Nat, k ≤ n' ∧ i = .int .i64 k ∧ (∀ i, i < k → mlBad l l' pp i = false) ∧ Below w.heap.size w wr) (fun i _ => n' - (intOf i).toNat)
        case atStart => exact ⟨0, Nat.zero_le _, rfl, fun i hi => absurd hi (by omega), B4⟩
        case round =>
          obtain ⟨j, hj, rfl, hpre2, hbel2⟩ := hrel
          have Hpre2 := Lib.hid hpre2
          clear hpre2
          by_cases hlt2 : j < n'
          · have hj1 : j < n := by omega
            have hj2 : j < n' := by omega
            have hl1' : j < l.length := by have := Hn.out; omega
            have hl2' : j < l'.length := by have := Hn'.out; omega
            obtain ⟨b, off, xs, rfl, hSb, hc, rfl, -⟩ := hl0.at_ hl1'
            have f0 : ∀ p : Aft wr, p.world.cell? ⟨b, off + j * 2, none⟩ = some (.int .i64 l[j].n) := Aft.cell ((hbel2.cell (hS _ hSb)).trans (hc 0 _ rfl))
            clear hc
            obtain ⟨b', off', xs', rfl, hSb', hc, rfl, -⟩ := hl1.at_ hl2'
            have f1 : ∀ p : Aft wr, p.world.cell? ⟨b', off' + j * 2, none⟩ = some (.int .i64 l'[j].n) := Aft.cell ((hbel2.cell (hS _ hSb')).trans (hc 0 _ rfl))
            clear hc
            have He := Lib.hid (show l[j]? = some l[j] from List.getElem?_eq_getElem hl1')
            have Hf := Lib.hid (show l'[j]? = some l'[j] from List.getElem?_eq_getElem hl2')
            have hjI : (j : Int) < (n : Int) := by omega
            have hjI' : (j : Int) < (n' : Int) := by omega
            have hj0 : (0 : Int) ≤ (j : Int) := by omega
            obtain ⟨r1, hr1⟩ : ∃ r, decide (pp ≤ j) = r := ⟨_, rfl⟩
            obtain ⟨r2, hr2⟩ : ∃ r, ((l[j].n : Int) == l'[j].n) = r := ⟨_, rfl⟩
            have Hbad := Lib.hid (mlBad_eq' He.out Hf.out hr1 hr2)
            cases r2 with
            | true =>
              cases r1 with
              | true =>
                go_wp2_with fail
                refine wp_region_aft (by kernel_rfl) (by kernel_rfl) ?_
                repeat (go_big_quiet_step (fail))
                refine wpQuiet_nil ?_
                rintro _ ⟨p, rfl⟩
                have hb2 : Below w.heap.size w p.world := hbel2.trans (p.below.mono hbel2.size)
                go_wp2
                go_ret
                exact ⟨by rw [mlAns_no hl1' (by rw [Hpp.out]; exact Hbad.out)]; rfl, hb2⟩
              | false =>
                go_wp2_with fail
                refine wp_region_aft (by kernel_rfl) (by kernel_rfl) ?_
                repeat (go_big_quiet_step (fail))
                refine wpQuiet_nil ?_
                rintro _ ⟨p, rfl⟩
                have hb2 : Below w.heap.size w p.world := hbel2.trans (p.below.mono hbel2.size)
                go_wp2
                go_roundw
                case rel => exact ⟨j + 1, by omega, by go_num, mlPre_succ Hpre2.out Hbad.out, hb2⟩
                case measure => simp [intOf]; omega
            | false =>
              have Hbad2 := Lib.hid (show mlBad l l' pp j = false from Hbad.out)
              go_wp2_with fail
              refine wp_region_aft (by kernel_rfl) (by kernel_rfl) ?_
              repeat (go_big_quiet_step (fail))
              refine wpQuiet_nil ?_
              rintro _ ⟨p, rfl⟩
              have hb2 : Below w.heap.size w p.world := hbel2.trans (p.below.mono hbel2.size)
              go_wp2
              go_roundw
              case rel => exact ⟨j + 1, by omega, by go_num, mlPre_succ Hpre2.out Hbad2.out, hb2⟩
              case measure => simp [intOf]; omega
          · have Hans := Lib.hid (mlAns_yes (l := l) (l' := l') Hn.out Hn'.out Hbeg.out fun i hi => by rw [Hpp.out]; exact Hpre2.out i (by omega))
            go_wp2_with fail
            go_ret
            exact ⟨by rw [Hans.out]; rfl, hbel2⟩
      · go_loopw [31] (fun i wr => ∃ k : Nat, k ≤ n ∧ i = .int .i64 k ∧ (∀ i, i < k → mlBad l l' pp i = false) ∧ Below w.heap.size w wr) (fun i _ => n - (intOf i).toNat)
        case atStart => exact ⟨0, Nat.zero_le _, rfl, fun i hi => absurd hi (by omega), B4⟩
        case round =>
          obtain ⟨j, hj, rfl, hpre2, hbel2⟩ := hrel
          have Hpre2 := Lib.hid hpre2
          clear hpre2
          by_cases hlt2 : j < n
          · have hj1 : j < n := by omega
            have hj2 : j < n' := by omega
            have hl1' : j < l.length := by have := Hn.out; omega
            have hl2' : j < l'.length := by have := Hn'.out; omega
            obtain ⟨b, off, xs, rfl, hSb, hc, rfl, -⟩ := hl0.at_ hl1'
            have f0 : ∀ p : Aft wr, p.world.cell? ⟨b, off + j * 2, none⟩ = some (.int .i64 l[j].n) := Aft.cell ((hbel2.cell (hS _ hSb)).trans (hc 0 _ rfl))
            clear hc
            obtain ⟨b', off', xs', rfl, hSb', hc, rfl, -⟩ := hl1.at_ hl2'
            have f1 : ∀ p : Aft wr, p.world.cell? ⟨b', off' + j * 2, none⟩ = some (.int .i64 l'[j].n) := Aft.cell ((hbel2.cell (hS _ hSb')).trans (hc 0 _ rfl))
            clear hc
            have He := Lib.hid (show l[j]? = some l[j] from List.getElem?_eq_getElem hl1')
            have Hf := Lib.hid (show l'[j]? = some l'[j] from List.getElem?_eq_getElem hl2')
            have hjI : (j : Int) < (n : Int) := by omega
            have hjI' : (j : Int) < (n' : Int) := by omega
            have hj0 : (0 : Int) ≤ (j : Int) := by omega
            obtain ⟨r1, hr1⟩ : ∃ r, decide (pp ≤ j) = r := ⟨_, rfl⟩
            obtain ⟨r2, hr2⟩ : ∃ r, ((l[j].n : Int) == l'[j].n) = r := ⟨_, rfl⟩
            have Hbad := Lib.hid (mlBad_eq' He.out Hf.out hr1 hr2)
            cases r2 with
            | true =>
              cases r1 with
              | true =>
                go_wp2_with fail
                refine wp_region_aft (by kernel_rfl) (by kernel_rfl) ?_
                repeat (go_big_quiet_step (fail))
                refine wpQuiet_nil ?_
                rintro _ ⟨p, rfl⟩
                have hb2 : Below w.heap.size w p.world := hbel2.trans (p.below.mono hbel2.size)
                go_wp2
                go_ret
                exact ⟨by rw [mlAns_no hl1' (by rw [Hpp.out]; exact Hbad.out)]; rfl, hb2⟩
              | false =>
                go_wp2_with fail
                refine wp_region_aft (by kernel_rfl) (by kernel_rfl) ?_
                repeat (go_big_quiet_step (fail))
                refine wpQuiet_nil ?_
                rintro _ ⟨p, rfl⟩
                have hb2 : Below w.heap.size w p.world := hbel2.trans (p.below.mono hbel2.size)
                go_wp2
                go_roundw
                case rel => exact ⟨j + 1, by omega, by go_num, mlPre_succ Hpre2.out Hbad.out, hb2⟩
                case measure => simp [intOf]; omega
            | false =>
              have Hbad2 := Lib.hid (show mlBad l l' pp j = false from Hbad.out)
              go_wp2_with fail
              refine wp_region_aft (by kernel_rfl) (by kernel_rfl) ?_
              repeat (go_big_quiet_step (fail))
              refine wpQuiet_nil ?_
              rintro _ ⟨p, rfl⟩
              have hb2 : Below w.heap.size w p.world := hbel2.trans (p.below.mono hbel2.size)
              go_wp2
              go_roundw
              case rel => exact ⟨j + 1, by omega, by go_num, mlPre_succ Hpre2.out Hbad2.out, hb2⟩
              case measure => simp [intOf]; omega
          · have Hans := Lib.hid (mlAns_yes (l := l) (l' := l') Hn.out Hn'.out Hbeg.out fun i hi => by rw [Hpp.out]; exact Hpre2.out i (by omega))
            go_wp2_with fail
            go_ret
            exact ⟨by rw [Hans.out]; rfl, hbel2⟩

theorem impl_MatchLogs_any (l l' : List IS) (w : World) (S : Nat → Prop) (hS : ∀ b, S b → b < w.heap.size) (A A' : Option Addr) (n c n' c' : Nat) (hl0 : RepL w S l A n c) (hl1 : RepL w S l' A' n' c') :
    Calls Try.prog 12 #[.slice A n c, .slice A' n' c'] w fun x w' => x = .returned (.tuple #[.bool ((goodEn l && goodEn l') && mlAns l l'), .bool (goodEn l && goodEn l')]) ∧ Below w.heap.size w w' := by
  obtain ⟨r, hr⟩ : ∃ r, goodEn l = r := ⟨_, rfl⟩
  obtain ⟨r', hr'⟩ : ∃ r, goodEn l' = r := ⟨_, rfl⟩
  have C1 := Lib.hid (fun w S hS h => areEntries_any l w S hS A n c h)
  have C2 := Lib.hid (fun w S hS h => areEntries_any l' w S hS A' n' c' h)
  rw [hr, hr']
  rw [hr] at C1
  rw [hr'] at C2
  have Hr := Lib.hid hr
  have Hr' := Lib.hid hr'
  clear hr hr'
  cases r with
  | false =>
    go_enter Try.func12, Try.ntmps12
    go_wp2_with fail
    refine (C1.out w S hS hl0).mono ?_
    rintro e w1 ⟨rfl, b1⟩
    go_wp2_with fail
    go_ret2
    exact ⟨rfl, b1⟩
  | true =>
    cases r' with
    | false =>
      go_enter Try.func12, Try.ntmps12
      go_wp2_with fail
      refine (C1.out w S hS hl0).mono ?_
      rintro e w1 ⟨rfl, b1⟩
      go_wp2_with fail
      refine (C2.out w1 S (fun b hb => Nat.lt_of_lt_of_le (hS b hb) b1.size) (hl1.keep (fun p hp => b1.cell (hS _ hp)))).mono ?_
      rintro e w2 ⟨rfl, b2⟩
      go_wp2_with fail
      go_ret2
      exact ⟨rfl, bnext b1 b2⟩
    | true =>
      go_enter Try.func12, Try.ntmps12
      go_wp2_with fail
      refine (C1.out w S hS hl0).mono ?_
      rintro e w1 ⟨rfl, b1⟩
      go_wp2_with fail
      refine (C2.out w1 S (fun b hb => Nat.lt_of_lt_of_le (hS b hb) b1.size) (hl1.keep (fun p hp => b1.cell (hS _ hp)))).mono ?_
      rintro e w2 ⟨rfl, b2⟩
      have B2 := bnext b1 b2
      go_wp2_with fail
      refine (matchLogs_any l l' (goodEn_len Hr.out) (goodEn_len Hr'.out) w2 S (fun b hb => Nat.lt_of_lt_of_le (hS b hb) B2.size) A A' n c n' c' (hl0.keep (fun p hp => B2.cell (hS _ hp))) (hl1.keep (fun p hp => B2.cell (hS _ hp)))).mono ?_
      rintro e w3 ⟨rfl, b3⟩
      go_wp2_with fail
      go_ret2
      exact ⟨rfl, bnext B2 b3⟩
end Go.Proofs.Ytgcliipdkoefaaa
