/-
  Contracts: areStarts of the program, l7GoodStarts of the reference.
-/
import Derived.Test.YtgcliipdkoefaaaWi
import Derived.Test.YtgcliipdkoefaaaSsM
namespace Go.Proofs.Ytgcliipdkoefaaa
open Go.ChangeShapes Go.WideShapes Go.ChangeAt Go.RowKit Go.BigFrame Go.Deep
set_option linter.unusedVariables false

set_option maxHeartbeats 4000000
/-- Start k is not valid; m: the greatest place. -/
def stBad (l : List P2) (m : Int) (k : Nat) : Bool := match l[k]? with
  | some s => !decide (1 ≤ s.a ∧ s.a ≤ 1000) || (!decide (0 ≤ s.b ∧ s.b ≤ m) || (decide (0 < k) && (match l[k - 1]? with | some t => decide (s.a ≤ t.a) || decide (s.b ≤ t.b) | none => false)))
  | none => false
def stAll (l : List P2) (m : Int) : Bool := (List.range l.length).all fun k => !stBad l m k
def goodSt (l : List P2) (e : Int) : Bool := (decide (l.length ≤ 40) && decide (0 ≤ e ∧ e ≤ 40)) && stAll l (IntKind.i64.wrap (e - 1))
theorem stBad_eq {l : List P2} {m : Int} {k : Nat} {a b : Int} {r1 r2 : Bool} (he : l[k]? = some ⟨a, b⟩) (h1 : decide (1 ≤ a ∧ a ≤ 1000) = r1) (h2 : decide (0 ≤ b ∧ b ≤ m) = r2) (hk : k = 0) : stBad l m k = (!r1 || !r2) := by
  unfold stBad
  rw [he]
  show (!decide (1 ≤ a ∧ a ≤ 1000) || (!decide (0 ≤ b ∧ b ≤ m) || (decide (0 < k) && _))) = _
  rw [h1, h2, decide_eq_false (by omega : ¬ 0 < k), Bool.false_and, Bool.or_false]
theorem stBad_eq2 {l : List P2} {m : Int} {k : Nat} {a b c d : Int} {r1 r2 r3 r4 : Bool} (he : l[k]? = some ⟨a, b⟩) (h1 : decide (1 ≤ a ∧ a ≤ 1000) = r1) (h2 : decide (0 ≤ b ∧ b ≤ m) = r2) (hk : 0 < k) (hf : l[k - 1]? = some ⟨c, d⟩) (h3 : decide (a ≤ c) = r3) (h4 : decide (b ≤ d) = r4) : stBad l m k = (!r1 || (!r2 || (r3 || r4))) := by
  unfold stBad
  rw [he, hf]
  show (!decide (1 ≤ a ∧ a ≤ 1000) || (!decide (0 ≤ b ∧ b ≤ m) || (decide (0 < k) && (decide (a ≤ c) || decide (b ≤ d))))) = _
  rw [h1, h2, h3, h4, decide_eq_true hk, Bool.true_and]
theorem stAll_no {l : List P2} {m : Int} {k : Nat} (hk : k < l.length) (h : stBad l m k = true) : stAll l m = false := by
  unfold stAll
  rw [← Bool.not_eq_true, List.all_eq_true]
  intro h'
  have := h' k (List.mem_range.2 hk)
  rw [h] at this
  cases this
theorem stAll_yes {l : List P2} {m : Int} {n : Nat} (hn : n = l.length) (h : ∀ i, i < n → stBad l m i = false) : stAll l m = true := by
  unfold stAll
  rw [List.all_eq_true]
  intro i hi
  rw [h i (by rw [hn]; exact List.mem_range.1 hi)]
  rfl
theorem stBad_succ {l : List P2} {m : Int} {k : Nat} (h : ∀ i, i < k → stBad l m i = false) (hk : stBad l m k = false) : ∀ i, i < k + 1 → stBad l m i = false := by
  intro i hi
  by_cases e : i = k
  · rw [e]; exact hk
  · exact h i (by omega)
theorem areStarts_any (l : List P2) (e : Int) (he : I64 e) (w : World) (S : Nat → Prop) (hS : ∀ b, S b → b < w.heap.size) (A : Option Addr) (n c : Nat) (hl0 : RepL w S l A n c) :
    Calls Try.prog 56 #[.slice A n c, .int .i64 e] w fun x w' => x = .returned (.bool (goodSt l e)) ∧ Below w.heap.size w w' := by
  have hbd := hl0.bd
  have hn := hl0.1
  obtain ⟨rE, hE⟩ : ∃ r, decide (0 ≤ e ∧ e ≤ 40) = r := ⟨_, rfl⟩
  by_cases h40 : n ≤ 40
  · have d40 : decide (40 < (n : Int)) = false := decide_eq_false (by omega)
    have hlen : decide (l.length ≤ 40) = true := decide_eq_true (by omega)
    obtain ⟨m, hm⟩ : ∃ m, IntKind.i64.wrap (e - 1) = m := ⟨_, rfl⟩
    have Hg := Lib.hid (show goodSt l e = (rE && stAll l m) by unfold goodSt; rw [hlen, hE, hm]; rfl)
    have Hn := Lib.hid hn
    have HE := Lib.hid hE
    have Hlen := Lib.hid hlen
    clear hn hE hlen
    cases rE with
    | false =>
      go_enter Try.func56, Try.ntmps56
      go_wp2_with fail
      refine (within_any _ _ _ _ HE.out _).mono ?_
      rintro e w1 ⟨rfl, b1⟩
      go_wp2_with fail
      go_ret
      exact ⟨by rw [Hg.out]; rfl, b1⟩
    | true =>
      go_enter Try.func56, Try.ntmps56
      go_wp2_with fail
      refine (within_any _ _ _ _ HE.out _).mono ?_
      rintro e w1 ⟨rfl, b1⟩
      go_wp2_with fail
      go_loopw [17] (fun i wr => ∃ k : Nat, k ≤ n ∧ i = .int .i64 k ∧ (∀ i, i < k → stBad l m i = false) ∧ Below w.heap.size w wr) (fun i _ => n - (intOf i).toNat)
      case atStart => exact ⟨0, Nat.zero_le _, rfl, fun i hi => absurd hi (by omega), b1⟩
      case round =>
        obtain ⟨k, hk, rfl, hpre, hbel⟩ := hrel
        have Hpre := Lib.hid hpre
        clear hpre
        by_cases hlt : k < n
        · have hl1 : k < l.length := by have := Hn.out; omega
          obtain ⟨b, off, xs, rfl, hSb, hc, rfl, hi1, hi2⟩ := hl0.at_ hl1
          have hc0 := hc 0 _ rfl
          have hc1 := hc 1 _ rfl
          clear hc
          generalize hek : l[k] = ek at hc0 hc1 hi1 hi2
          obtain ⟨x, y⟩ := ek
          have Hek := Lib.hid (show l[k]? = some ⟨x, y⟩ by rw [List.getElem?_eq_getElem hl1, hek])
          have hc0' : wr.cell? ⟨b, off + k * 2, none⟩ = some (.int .i64 x) := (hbel.cell (hS _ hSb)).trans hc0
          have hc1' : wr.cell? ⟨b, off + k * 2 + 1, none⟩ = some (.int .i64 y) := (hbel.cell (hS _ hSb)).trans hc1
          have hI : (k : Int) < (n : Int) := by omega
          have hI0 : (0 : Int) ≤ (k : Int) := by omega
          obtain ⟨W, hW⟩ : ∃ W, W = wr.alloc (.cells #[.int .i64 x, .int .i64 y] 55) := ⟨_, rfl⟩
          have hbW : Below w.heap.size w W := by subst hW; exact hbel.alloc hbel.size _
          have e0 : ∀ p : Aft W, p.world.cell? ⟨wr.heap.size, 0, none⟩ = some (.int .i64 x) := Aft.cell (by subst hW; simp)
          have e1 : ∀ p : Aft W, p.world.cell? ⟨wr.heap.size, 1, none⟩ = some (.int .i64 y) := Aft.cell (by subst hW; simp)
          clear hc0 hc1 hek hi1 hi2
          obtain ⟨r1, hr1⟩ : ∃ r, decide (1 ≤ x ∧ x ≤ 1000) = r := ⟨_, rfl⟩
          obtain ⟨r2, hr2⟩ : ∃ r, decide (0 ≤ y ∧ y ≤ m) = r := ⟨_, rfl⟩
          have HW := Lib.hid hW
          have Hr1 := Lib.hid hr1
          have Hr2 := Lib.hid hr2
          clear hW hr1 hr2
          go_wp2_with fail
          rw [← HW.out]
          by_cases hz : k = 0
          · have d0 : decide (0 < k) = false := decide_eq_false (by omega)
            have Hbad := Lib.hid (stBad_eq Hek.out Hr1.out Hr2.out hz)
            clear hz
            cases r1 <;> cases r2
            all_goals
              simp only [Bool.not_true, Bool.not_false, Bool.or_true, Bool.or_false, Bool.or_self] at Hbad
              refine wp_region_aft (by kernel_rfl) (by kernel_rfl) ?_
              repeat (go_big_quiet_step (first | (go_at_call 66; with_reducible exact Calls.aft (within_any x 1 1000 _ Hr1.out _)) | (go_at_call 66; with_reducible exact Calls.aft (within_any y 0 m _ Hr2.out _))))
              refine wpQuiet_nil ?_
              rintro _ ⟨p, rfl⟩
              have hb2 : Below w.heap.size w p.world := hbW.trans (p.below.mono hbW.size)
              go_wp2_with fail
              first
                | (go_ret
                   exact ⟨by rw [Hg.out, stAll_no hl1 Hbad.out]; rfl, hb2⟩)
                | (go_roundw
                   case rel => exact ⟨k + 1, by omega, by go_num, stBad_succ Hpre.out Hbad.out, hb2⟩
                   case measure => simp [intOf]; omega)
          · obtain ⟨j, hj⟩ : ∃ j, k = j + 1 := ⟨k - 1, by omega⟩
            have d0 : decide (0 < k) = true := decide_eq_true (by omega)
            have hl2 : j < l.length := by omega
            obtain ⟨b', off', xs', e', hSb', hc, rfl, hj1, hj2⟩ := hl0.at_ hl2
            obtain ⟨rfl, rfl⟩ : b = b' ∧ off = off' := by simpa using e'
            have hcc0 := hc 0 _ rfl
            have hcc1 := hc 1 _ rfl
            generalize hej : l[j] = ej at hcc0 hcc1
            obtain ⟨u, v⟩ := ej
            have e2 : ∀ p : Aft W, p.world.cell? ⟨b, off + j * 2, none⟩ = some (.int .i64 u) := Aft.cell ((hbW.cell (hS _ hSb)).trans hcc0)
            have e3 : ∀ p : Aft W, p.world.cell? ⟨b, off + j * 2 + 1, none⟩ = some (.int .i64 v) := Aft.cell ((hbW.cell (hS _ hSb)).trans hcc1)
            have Hj := Lib.hid (show l[k - 1]? = some ⟨u, v⟩ by rw [hj, ← hej]; exact List.getElem?_eq_getElem hl2)
            have hsub : IntKind.i64.wrap ((k : Int) - 1) = (j : Int) := by rw [IntKind.wrap_i64]; omega
            have hsub0 : (0 : Int) ≤ (j : Int) := by omega
            have hsub1 : (j : Int) < (n : Int) := by omega
            obtain ⟨r3, hr3⟩ : ∃ r, decide (x ≤ u) = r := ⟨_, rfl⟩
            obtain ⟨r4, hr4⟩ : ∃ r, decide (y ≤ v) = r := ⟨_, rfl⟩
            have Hbad := Lib.hid (stBad_eq2 Hek.out Hr1.out Hr2.out (by omega) Hj.out hr3 hr4)
            clear hc e' hj1 hj2 hj hz hej hcc0 hcc1
            cases r1 <;> cases r2 <;> cases r3 <;> cases r4
            all_goals
              simp only [Bool.not_true, Bool.not_false, Bool.or_true, Bool.or_false, Bool.or_self] at Hbad
              refine wp_region_aft (by kernel_rfl) (by kernel_rfl) ?_
              repeat (go_big_quiet_step (first | (go_at_call 66; with_reducible exact Calls.aft (within_any x 1 1000 _ Hr1.out _)) | (go_at_call 66; with_reducible exact Calls.aft (within_any y 0 m _ Hr2.out _))))
              refine wpQuiet_nil ?_
              rintro _ ⟨p, rfl⟩
              have hb2 : Below w.heap.size w p.world := hbW.trans (p.below.mono hbW.size)
              go_wp2_with fail
              first
                | (go_ret
                   exact ⟨by rw [Hg.out, stAll_no hl1 Hbad.out]; rfl, hb2⟩)
                | (go_roundw
                   case rel => exact ⟨k + 1, by omega, by go_num, stBad_succ Hpre.out Hbad.out, hb2⟩
                   case measure => simp [intOf]; omega)
        · have Hall := Lib.hid (stAll_yes (m := m) Hn.out fun i hi => Hpre.out i (by omega))
          go_wp2_with fail
          go_ret
          exact ⟨by rw [Hg.out, Hall.out]; rfl, hbel⟩
  · have d40 : decide (40 < (n : Int)) = true := decide_eq_true (by omega)
    have hlen : decide (l.length ≤ 40) = false := decide_eq_false (by omega)
    have Hg := Lib.hid (show goodSt l e = false by unfold goodSt; rw [hlen]; rfl)
    have Hn := Lib.hid hn
    have HE := Lib.hid hE
    have Hlen := Lib.hid hlen
    clear hn hE hlen
    go_enter Try.func56, Try.ntmps56
    go_wp2_with fail
    go_ret
    exact ⟨by rw [Hg.out]; rfl, Below.refl _ _⟩

theorem l7GoodStarts_any (l : List P2) (e : Int) (he : I64 e) (w : World) (S : Nat → Prop) (hS : ∀ b, S b → b < w.heap.size) (A : Option Addr) (n c : Nat) (hl0 : RepL w S l A n c) :
    Calls Try.prog 53 #[.slice A n c, .int .i64 e] w fun x w' => x = .returned (.bool (goodSt l e)) ∧ Below w.heap.size w w' := by
  have hbd := hl0.bd
  have hn := hl0.1
  obtain ⟨rE, hE⟩ : ∃ r, decide (0 ≤ e ∧ e ≤ 40) = r := ⟨_, rfl⟩
  obtain ⟨rL, hL⟩ : ∃ r, decide ((n : Int) ≤ 40) = r := ⟨_, rfl⟩
  have hlen : decide (l.length ≤ 40) = rL := by rw [← hL, ← hn]; apply decide_eq_decide.2; omega
  obtain ⟨m, hm⟩ : ∃ m, IntKind.i64.wrap (e - 1) = m := ⟨_, rfl⟩
  have Hg := Lib.hid (show goodSt l e = ((rL && rE) && stAll l m) by unfold goodSt; rw [hlen, hE, hm])
  have Hn := Lib.hid hn
  have HE := Lib.hid hE
  have Hlen := Lib.hid hlen
  clear hn hE hlen
  go_enter Try.func53, Try.ntmps53
  go_wp2_with fail
  go_loopw [9] (fun i wr => ∃ k : Nat, k ≤ n ∧ i = .int .i64 k ∧ (∀ i, i < k → stBad l m i = false) ∧ Below w.heap.size w wr) (fun i _ => n - (intOf i).toNat)
  case atStart => exact ⟨0, Nat.zero_le _, rfl, fun i hi => absurd hi (by omega), Below.refl _ _⟩
  case round =>
    obtain ⟨k, hk, rfl, hpre, hbel⟩ := hrel
    have Hpre := Lib.hid hpre
    clear hpre
    by_cases hlt : k < n
    · have hl1 : k < l.length := by have := Hn.out; omega
      obtain ⟨b, off, xs, rfl, hSb, hc, rfl, hi1, hi2⟩ := hl0.at_ hl1
      have hc0 := hc 0 _ rfl
      have hc1 := hc 1 _ rfl
      clear hc
      generalize hek : l[k] = ek at hc0 hc1 hi1 hi2
      obtain ⟨x, y⟩ := ek
      have Hek := Lib.hid (show l[k]? = some ⟨x, y⟩ by rw [List.getElem?_eq_getElem hl1, hek])
      have hc0' : wr.cell? ⟨b, off + k * 2, none⟩ = some (.int .i64 x) := (hbel.cell (hS _ hSb)).trans hc0
      have hc1' : wr.cell? ⟨b, off + k * 2 + 1, none⟩ = some (.int .i64 y) := (hbel.cell (hS _ hSb)).trans hc1
      have hI : (k : Int) < (n : Int) := by omega
      have hI0 : (0 : Int) ≤ (k : Int) := by omega
      obtain ⟨W, hW⟩ : ∃ W, W = wr.alloc (.cells #[.int .i64 x, .int .i64 y] 55) := ⟨_, rfl⟩
      have hbW : Below w.heap.size w W := by subst hW; exact hbel.alloc hbel.size _
      have e0 : ∀ p : Aft W, p.world.cell? ⟨wr.heap.size, 0, none⟩ = some (.int .i64 x) := Aft.cell (by subst hW; simp)
      have e1 : ∀ p : Aft W, p.world.cell? ⟨wr.heap.size, 1, none⟩ = some (.int .i64 y) := Aft.cell (by subst hW; simp)
      clear hc0 hc1 hek hi1 hi2
      obtain ⟨r1, hr1⟩ : ∃ r, decide (1 ≤ x ∧ x ≤ 1000) = r := ⟨_, rfl⟩
      obtain ⟨r2, hr2⟩ : ∃ r, decide (0 ≤ y ∧ y ≤ m) = r := ⟨_, rfl⟩
      have HW := Lib.hid hW
      have Hr1 := Lib.hid hr1
      have Hr2 := Lib.hid hr2
      clear hW hr1 hr2
      go_wp2_with fail
      rw [← HW.out]
      by_cases hz : k = 0
      · have d0 : decide (0 < k) = false := decide_eq_false (by omega)
        have Hbad := Lib.hid (stBad_eq Hek.out Hr1.out Hr2.out hz)
        clear hz
        cases r1 <;> cases r2
        all_goals
          simp only [Bool.not_true, Bool.not_false, Bool.or_true, Bool.or_false, Bool.or_self] at Hbad
          refine wp_region_aft (by kernel_rfl) (by kernel_rfl) ?_
          repeat (go_big_quiet_step (first | (go_at_call 64; with_reducible exact Calls.aft (l1In_any x 1 1000 _ Hr1.out _)) | (go_at_call 64; with_reducible exact Calls.aft (l1In_any y 0 m _ Hr2.out _))))
          refine wpQuiet_nil ?_
          rintro _ ⟨p, rfl⟩
          have hb2 : Below w.heap.size w p.world := hbW.trans (p.below.mono hbW.size)
          go_wp2_with fail
          first
            | (go_ret
               exact ⟨by rw [Hg.out, stAll_no hl1 Hbad.out, Bool.and_false]; rfl, hb2⟩)
            | (go_roundw
               case rel => exact ⟨k + 1, by omega, by go_num, stBad_succ Hpre.out Hbad.out, hb2⟩
               case measure => simp [intOf]; omega)
      · obtain ⟨j, hj⟩ : ∃ j, k = j + 1 := ⟨k - 1, by omega⟩
        have d0 : decide (0 < k) = true := decide_eq_true (by omega)
        have hl2 : j < l.length := by omega
        obtain ⟨b', off', xs', e', hSb', hc, rfl, hj1, hj2⟩ := hl0.at_ hl2
        obtain ⟨rfl, rfl⟩ : b = b' ∧ off = off' := by simpa using e'
        have hcc0 := hc 0 _ rfl
        have hcc1 := hc 1 _ rfl
        generalize hej : l[j] = ej at hcc0 hcc1
        obtain ⟨u, v⟩ := ej
        have e2 : ∀ p : Aft W, p.world.cell? ⟨b, off + j * 2, none⟩ = some (.int .i64 u) := Aft.cell ((hbW.cell (hS _ hSb)).trans hcc0)
        have e3 : ∀ p : Aft W, p.world.cell? ⟨b, off + j * 2 + 1, none⟩ = some (.int .i64 v) := Aft.cell ((hbW.cell (hS _ hSb)).trans hcc1)
        have Hj := Lib.hid (show l[k - 1]? = some ⟨u, v⟩ by rw [hj, ← hej]; exact List.getElem?_eq_getElem hl2)
        have hsub : IntKind.i64.wrap ((k : Int) - 1) = (j : Int) := by rw [IntKind.wrap_i64]; omega
        have hsub0 : (0 : Int) ≤ (j : Int) := by omega
        have hsub1 : (j : Int) < (n : Int) := by omega
        obtain ⟨r3, hr3⟩ : ∃ r, decide (x ≤ u) = r := ⟨_, rfl⟩
        obtain ⟨r4, hr4⟩ : ∃ r, decide (y ≤ v) = r := ⟨_, rfl⟩
        have Hbad := Lib.hid (stBad_eq2 Hek.out Hr1.out Hr2.out (by omega) Hj.out hr3 hr4)
        clear hc e' hj1 hj2 hj hz hej hcc0 hcc1
        cases r1 <;> cases r2 <;> cases r3 <;> cases r4
        all_goals
          simp only [Bool.not_true, Bool.not_false, Bool.or_true, Bool.or_false, Bool.or_self] at Hbad
          refine wp_region_aft (by kernel_rfl) (by kernel_rfl) ?_
          repeat (go_big_quiet_step (first | (go_at_call 64; with_reducible exact Calls.aft (l1In_any x 1 1000 _ Hr1.out _)) | (go_at_call 64; with_reducible exact Calls.aft (l1In_any y 0 m _ Hr2.out _))))
          refine wpQuiet_nil ?_
          rintro _ ⟨p, rfl⟩
          have hb2 : Below w.heap.size w p.world := hbW.trans (p.below.mono hbW.size)
          go_wp2_with fail
          first
            | (go_ret
               exact ⟨by rw [Hg.out, stAll_no hl1 Hbad.out, Bool.and_false]; rfl, hb2⟩)
            | (go_roundw
               case rel => exact ⟨k + 1, by omega, by go_num, stBad_succ Hpre.out Hbad.out, hb2⟩
               case measure => simp [intOf]; omega)
    · have Hall := Lib.hid (stAll_yes (m := m) Hn.out fun i hi => Hpre.out i (by omega))
      cases rL with
      | true =>
        go_wp2_with fail
        refine (l1In_any _ _ _ _ HE.out _).mono ?_
        rintro e w1 ⟨rfl, b1⟩
        go_wp2_with fail
        go_ret
        exact ⟨by rw [Hg.out, Hall.out, Bool.and_true]; rfl, bnext hbel b1⟩
      | false =>
        go_wp2_with fail
        go_ret
        exact ⟨by rw [Hg.out]; rfl, hbel⟩
end Go.Proofs.Ytgcliipdkoefaaa
