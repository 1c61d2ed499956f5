/-
  Contracts: within, l1In; GoodEvents of the reference, areEvents and GoodEvents of the program: each answers 'goodEv'.
-/
import Derived.Test.YtmkhahiefdcinaaEvA
import Derived.Test.YtmkhahiefdcinaaWi
namespace Go.Proofs.Ytmkhahiefdcinaa
open Go.ChangeShapes Go.WideShapes Go.ChangeAt Go.RowKit Go.BigFrame
set_option linter.unusedVariables false

/-- Event number i is as the document asks, m the greatest node. -/
def evOk (m : Int) (l : List P2) (i : Nat) : Prop :=
  ∀ e, l[i]? = some e → 0 ≤ e.a ∧ e.a ≤ m ∧ -1 ≤ e.b ∧ e.b ≤ i - 1 ∧ (0 ≤ e.b → ∀ f, l[e.b.toNat]? = some f → f.a ≠ e.a)
open Classical in
noncomputable def goodEv (nodes : Int) (l : List P2) : Bool := decide (1 ≤ nodes ∧ nodes ≤ 5 ∧ l.length ≤ 40 ∧ ∀ i, i < l.length → evOk (nodes - 1) l i)

theorem evOk_succ {m : Int} {l : List P2} {k : Nat} {x y : Int} (h : ∀ i, i < k → evOk m l i) (he : l[k]? = some ⟨x, y⟩) (h1 : 0 ≤ x) (h2 : x ≤ m) (h3 : -1 ≤ y) (h4 : y ≤ (k : Int) - 1)
    (h5 : 0 ≤ y → ∀ f, l[y.toNat]? = some f → f.a ≠ x) : ∀ i, i < k + 1 → evOk m l i := by
  intro i hi
  by_cases hik : i = k
  · subst hik
    intro e he'
    rw [he] at he'
    obtain rfl := Option.some.inj he'
    exact ⟨h1, h2, h3, h4, h5⟩
  · exact h i (by omega)
theorem evOk_new_j {l : List P2} {j : Nat} {f : P2} {x : Int} (hj : l[j]? = some f) (hne : ¬ f.a = x) : 0 ≤ (j : Int) → ∀ f, l[(j : Int).toNat]? = some f → f.a ≠ x := by
  intro _ f' hf'
  rw [Int.toNat_natCast, hj] at hf'
  obtain rfl := Option.some.inj hf'
  exact hne
theorem evOk_new_n {l : List P2} {x y : Int} (hC : ¬ 0 ≤ y) : 0 ≤ y → ∀ f, l[y.toNat]? = some f → f.a ≠ x := fun h => absurd h hC
theorem evOk_not_A {m : Int} {l : List P2} {k : Nat} {x y : Int} (he : l[k]? = some ⟨x, y⟩) (h : ¬ (0 ≤ x ∧ x ≤ m)) : ¬ evOk m l k := fun hh => h ⟨(hh _ he).1, (hh _ he).2.1⟩
theorem evOk_not_B {m : Int} {l : List P2} {k : Nat} {x y : Int} (he : l[k]? = some ⟨x, y⟩) (h : ¬ (-1 ≤ y ∧ y ≤ (k : Int) - 1)) : ¬ evOk m l k := fun hh => h ⟨(hh _ he).2.2.1, (hh _ he).2.2.2.1⟩
theorem evOk_not_D {m : Int} {l : List P2} {k j : Nat} {f : P2} {x : Int} (he : l[k]? = some ⟨x, j⟩) (hj : l[j]? = some f) (h : f.a = x) : ¬ evOk m l k := fun hh => (hh _ he).2.2.2.2 (by simp) f (by simpa using hj) h
open Classical in
theorem goodEv_bad {m nodes : Int} {l : List P2} {k : Nat} (hm : 1 ≤ nodes → nodes ≤ 5 → m = nodes - 1) (hk : k < l.length) (h : ¬ evOk m l k) : goodEv nodes l = false := by
  unfold goodEv
  rw [decide_eq_false]
  rintro ⟨h1, h2, _, h4⟩
  rw [hm h1 h2] at h
  exact h (h4 k hk)
open Classical in
theorem goodEv_yes {m nodes : Int} {l : List P2} {n : Nat} (hm : m = nodes - 1) (hN : 1 ≤ nodes ∧ nodes ≤ 5) (hn : n = l.length) (hL : n ≤ 40) (h : ∀ i, i < n → evOk m l i) : goodEv nodes l = true := by
  unfold goodEv
  rw [decide_eq_true]
  subst hn hm
  exact ⟨hN.1, hN.2, hL, h⟩
open Classical in
theorem goodEv_long {nodes : Int} {l : List P2} (hL : ¬ l.length ≤ 40) : goodEv nodes l = false := by
  unfold goodEv
  rw [decide_eq_false]
  exact fun h => hL h.2.2.1
open Classical in
theorem goodEv_nodes {nodes : Int} {l : List P2} (hN : ¬ (1 ≤ nodes ∧ nodes ≤ 5)) : goodEv nodes l = false := by
  unfold goodEv
  rw [decide_eq_false]
  exact fun h => hN ⟨h.1, h.2.1⟩

theorem spec_GoodEvents_any (nodes : Int) (hnodes : I64 nodes) (l : List P2) (w : World) (S : Nat → Prop) (hS : ∀ b, S b → b < w.heap.size) (A : Option Addr) (n c : Nat) (h : RepL w S l A n c) :
    Calls Try.prog 44 #[.int .i64 nodes, .slice A n c] w fun x w' => x = .returned (.bool (goodEv nodes l)) ∧ Below w.heap.size w w' := by
  have hbd := h.bd
  obtain ⟨hn1, hn2⟩ := hnodes
  obtain ⟨hn, -⟩ := id h
  have Hn := Lib.hid hn
  clear hn
  obtain ⟨m, hm⟩ : ∃ m, IntKind.i64.wrap (nodes - 1) = m := ⟨_, rfl⟩
  have Hm : Hid (1 ≤ nodes → nodes ≤ 5 → m = nodes - 1) := fun h1 h2 => by rw [← hm, IntKind.wrap_i64]; omega
  go_enter Try.func44, Try.ntmps44
  go_wp2
  go_loopw [9] (fun i wr => ∃ k : Nat, k ≤ n ∧ i = .int .i64 k ∧ (∀ i, i < k → evOk m l i) ∧ Below w.heap.size w wr) (fun i _ => n - (intOf i).toNat)
  case atStart => exact ⟨0, Nat.zero_le _, rfl, fun i hi => absurd hi (by omega), Below.refl _ _⟩
  case round =>
    obtain ⟨k, hk, rfl, hpre, hbel⟩ := hrel
    have Hpre := Lib.hid hpre
    clear hpre
    by_cases hlt : k < n
    · have hl1 : k < l.length := by have := Hn.out; omega
      obtain ⟨b, off, xs, rfl, hSb, hc, rfl, hi1, hi2⟩ := h.at_ hl1
      have hc0 := hc 0 _ rfl
      have hc1 := hc 1 _ rfl
      clear hc
      generalize hek : l[k] = ek at hc0 hc1 hi1 hi2
      obtain ⟨x, y⟩ := ek
      have Hek := Lib.hid (show l[k]? = some ⟨x, y⟩ by rw [List.getElem?_eq_getElem hl1, hek])
      clear hek
      have hc0' : wr.cell? ⟨b, off + k * 2, none⟩ = some (.int .i64 x) := (hbel.cell (hS _ hSb)).trans hc0
      have hc1' : wr.cell? ⟨b, off + k * 2 + 1, none⟩ = some (.int .i64 y) := (hbel.cell (hS _ hSb)).trans hc1
      clear hc0 hc1
      obtain ⟨hx1, hx2⟩ : I64 x := hi1
      obtain ⟨hy1, hy2⟩ : I64 y := hi2
      have hI : (k : Int) < (n : Int) := by omega
      have hI0 : (0 : Int) ≤ (k : Int) := by omega
      obtain ⟨W, hW⟩ : ∃ W, W = wr.alloc (.cells #[.int .i64 x, .int .i64 y] 64) := ⟨_, rfl⟩
      have hbW : Below w.heap.size w W := by subst hW; exact hbel.alloc hbel.size _
      have e0 : ∀ p : Aft W, p.world.cell? ⟨wr.heap.size, 0, none⟩ = some (.int .i64 x) := Aft.cell (by subst hW; simp)
      have e1 : ∀ p : Aft W, p.world.cell? ⟨wr.heap.size, 1, none⟩ = some (.int .i64 y) := Aft.cell (by subst hW; simp)
      have HW := Lib.hid hW
      clear hW
      go_wp2_with fail
      rw [← HW.out]
      by_cases hA : 0 ≤ x ∧ x ≤ m
      · have Hd := Lib.hid (decide_eq_true hA)
        by_cases hB : -1 ≤ y ∧ y ≤ (k : Int) - 1
        · have Hd2 := Lib.hid (decide_eq_true hB)
          by_cases hC : 0 ≤ y
          · obtain ⟨j, rfl⟩ := Int.eq_ofNat_of_zero_le hC
            have hj : j < l.length := by omega
            have hjn : (j : Int) < (n : Int) := by omega
            have hj0 : (0 : Int) ≤ (j : Int) := by omega
            have hjd : decide ((0 : Int) ≤ (j : Int)) = true := decide_eq_true hj0
            obtain ⟨b', off', xs', e, hSb', hc, rfl, hj1, hj2⟩ := h.at_ hj
            obtain ⟨rfl, rfl⟩ : b = b' ∧ off = off' := by simpa using e
            have e2 : ∀ p : Aft W, p.world.cell? ⟨b, off + j * 2, none⟩ = some (.int .i64 l[j].a) := Aft.cell ((hbW.cell (hS _ hSb)).trans (hc 0 _ rfl))
            have Hj := Lib.hid (show l[j]? = some l[j] from List.getElem?_eq_getElem hj)
            clear hc e hj1 hj2
            by_cases hD : l[j].a = x
            · have hDd : ((l[j].a : Int) == x) = true := by simpa using hD
              have HD := Lib.hid hD
              have Hd' := Lib.hid hB
              have Hdd := Lib.hid hA
              clear hD
              refine wp_region_aft (by kernel_rfl) (by kernel_rfl) ?_
              repeat (go_big_quiet_step ((go_at_call 67; exact Calls.aft (l1In_any _ _ _ _ (by first | with_reducible exact Hd.out | with_reducible exact Hd2.out) _))))
              refine wpQuiet_nil ?_
              rintro _ ⟨p, rfl⟩
              have hb2 : Below w.heap.size w p.world := hbW.trans (p.below.mono hbW.size)
              go_wp2
              go_ret
              exact ⟨by rw [goodEv_bad Hm.out hl1 (evOk_not_D Hek.out Hj.out HD.out)]; rfl, hb2⟩
            · have hDd : ((l[j].a : Int) == x) = false := by simpa using hD
              have HD := Lib.hid hD
              clear hD
              refine wp_region_aft (by kernel_rfl) (by kernel_rfl) ?_
              repeat (go_big_quiet_step ((go_at_call 67; exact Calls.aft (l1In_any _ _ _ _ (by first | with_reducible exact Hd.out | with_reducible exact Hd2.out) _))))
              refine wpQuiet_nil ?_
              rintro _ ⟨p, rfl⟩
              have hb2 : Below w.heap.size w p.world := hbW.trans (p.below.mono hbW.size)
              go_wp2
              go_roundw
              case rel => exact ⟨k + 1, by omega, by go_num, evOk_succ Hpre.out Hek.out hA.1 hA.2 hB.1 hB.2 (evOk_new_j Hj.out HD.out), hb2⟩
              case measure => simp [intOf]; omega
          · have hCd : decide (0 ≤ y) = false := decide_eq_false hC
            refine wp_region_aft (by kernel_rfl) (by kernel_rfl) ?_
            repeat (go_big_quiet_step ((go_at_call 67; exact Calls.aft (l1In_any _ _ _ _ (by first | with_reducible exact Hd.out | with_reducible exact Hd2.out) _))))
            refine wpQuiet_nil ?_
            rintro _ ⟨p, rfl⟩
            have hb2 : Below w.heap.size w p.world := hbW.trans (p.below.mono hbW.size)
            go_wp2
            go_roundw
            case rel => exact ⟨k + 1, by omega, by go_num, evOk_succ Hpre.out Hek.out hA.1 hA.2 hB.1 hB.2 (evOk_new_n hC), hb2⟩
            case measure => simp [intOf]; omega
        · have Hd2 := Lib.hid (decide_eq_false hB)
          refine wp_region_aft (by kernel_rfl) (by kernel_rfl) ?_
          repeat (go_big_quiet_step ((go_at_call 67; exact Calls.aft (l1In_any _ _ _ _ (by first | with_reducible exact Hd.out | with_reducible exact Hd2.out) _))))
          refine wpQuiet_nil ?_
          rintro _ ⟨p, rfl⟩
          have hb2 : Below w.heap.size w p.world := hbW.trans (p.below.mono hbW.size)
          go_wp2
          go_ret
          exact ⟨by rw [goodEv_bad Hm.out hl1 (evOk_not_B Hek.out hB)]; rfl, hb2⟩
      · have Hd := Lib.hid (decide_eq_false hA)
        refine wp_region_aft (by kernel_rfl) (by kernel_rfl) ?_
        repeat (go_big_quiet_step ((go_at_call 67; exact Calls.aft (l1In_any _ _ _ _ (by first | with_reducible exact Hd.out) _))))
        refine wpQuiet_nil ?_
        rintro _ ⟨p, rfl⟩
        have hb2 : Below w.heap.size w p.world := hbW.trans (p.below.mono hbW.size)
        go_wp2
        go_ret
        exact ⟨by rw [goodEv_bad Hm.out hl1 (evOk_not_A Hek.out hA)]; rfl, hb2⟩
    · obtain rfl : k = n := by omega
      by_cases hN : 1 ≤ nodes ∧ nodes ≤ 5
      · have Hd := Lib.hid (decide_eq_true hN)
        by_cases hL : k ≤ 40
        · have hLd : decide ((k : Int) ≤ 40) = true := decide_eq_true (by omega)
          go_wp2_with (go_at_call 67; refine (l1In_any _ _ _ _ Hd.out _).mono ?_; rintro e w1 ⟨rfl, hb1⟩)
          go_ret
          exact ⟨by rw [goodEv_yes (Hm.out hN.1 hN.2) hN Hn.out hL Hpre.out]; rfl, hbel.trans (hb1.mono hbel.size)⟩
        · have hLd : decide ((k : Int) ≤ 40) = false := decide_eq_false (by omega)
          go_wp2_with (go_at_call 67; refine (l1In_any _ _ _ _ Hd.out _).mono ?_; rintro e w1 ⟨rfl, hb1⟩)
          go_ret
          exact ⟨by rw [goodEv_long (Hn.out ▸ hL)]; rfl, hbel.trans (hb1.mono hbel.size)⟩
      · have Hd := Lib.hid (decide_eq_false hN)
        go_wp2_with (go_at_call 67; refine (l1In_any _ _ _ _ Hd.out _).mono ?_; rintro e w1 ⟨rfl, hb1⟩)
        go_ret
        exact ⟨by rw [goodEv_nodes hN]; rfl, hbel.trans (hb1.mono hbel.size)⟩

theorem areEvents_any (nodes : Int) (hnodes : I64 nodes) (l : List P2) (w : World) (S : Nat → Prop) (hS : ∀ b, S b → b < w.heap.size) (A : Option Addr) (n c : Nat) (h : RepL w S l A n c) :
    Calls Try.prog 48 #[.int .i64 nodes, .slice A n c] w fun x w' => x = .returned (.bool (goodEv nodes l)) ∧ Below w.heap.size w w' := by
  have hbd := h.bd
  obtain ⟨hn1, hn2⟩ := hnodes
  obtain ⟨hn, -⟩ := id h
  have Hn := Lib.hid hn
  clear hn
  by_cases hN : 1 ≤ nodes ∧ nodes ≤ 5
  · have HN := Lib.hid (decide_eq_true hN)
    by_cases hL : n ≤ 40
    · have hm : IntKind.i64.wrap (nodes - 1) = nodes - 1 := by rw [IntKind.wrap_i64]; omega
      go_enter Try.func48, Try.ntmps48
      go_wp2_with (go_at_call 49; refine (within_any _ _ _ _ HN.out _).mono ?_; rintro e w0 ⟨rfl, hb0⟩)
      go_loopw [17] (fun i wr => ∃ k : Nat, k ≤ n ∧ i = .int .i64 k ∧ (∀ i, i < k → evOk (nodes - 1) l i) ∧ Below w.heap.size w wr) (fun i _ => n - (intOf i).toNat)
      case atStart => exact ⟨0, Nat.zero_le _, rfl, fun i hi => absurd hi (by omega), hb0⟩
      case round =>
        obtain ⟨k, hk, rfl, hpre, hbel⟩ := hrel
        have Hpre := Lib.hid hpre
        clear hpre
        by_cases hlt : k < n
        · have hl1 : k < l.length := by have := Hn.out; omega
          obtain ⟨b, off, xs, rfl, hSb, hc, rfl, hi1, hi2⟩ := h.at_ hl1
          have hc0 := hc 0 _ rfl
          have hc1 := hc 1 _ rfl
          clear hc
          generalize hek : l[k] = ek at hc0 hc1 hi1 hi2
          obtain ⟨x, y⟩ := ek
          have Hek := Lib.hid (show l[k]? = some ⟨x, y⟩ by rw [List.getElem?_eq_getElem hl1, hek])
          clear hek
          have hc0' : wr.cell? ⟨b, off + k * 2, none⟩ = some (.int .i64 x) := (hbel.cell (hS _ hSb)).trans hc0
          have hc1' : wr.cell? ⟨b, off + k * 2 + 1, none⟩ = some (.int .i64 y) := (hbel.cell (hS _ hSb)).trans hc1
          clear hc0 hc1
          obtain ⟨hx1, hx2⟩ : I64 x := hi1
          obtain ⟨hy1, hy2⟩ : I64 y := hi2
          have hI : (k : Int) < (n : Int) := by omega
          have hI0 : (0 : Int) ≤ (k : Int) := by omega
          obtain ⟨W, hW⟩ : ∃ W, W = wr.alloc (.cells #[.int .i64 x, .int .i64 y] 64) := ⟨_, rfl⟩
          have hbW : Below w.heap.size w W := by subst hW; exact hbel.alloc hbel.size _
          have e0 : ∀ p : Aft W, p.world.cell? ⟨wr.heap.size, 0, none⟩ = some (.int .i64 x) := Aft.cell (by subst hW; simp)
          have e1 : ∀ p : Aft W, p.world.cell? ⟨wr.heap.size, 1, none⟩ = some (.int .i64 y) := Aft.cell (by subst hW; simp)
          have HW := Lib.hid hW
          clear hW
          go_wp2_with fail
          rw [← HW.out]
          by_cases hA : 0 ≤ x ∧ x ≤ nodes - 1
          · have Hd := Lib.hid (decide_eq_true hA)
            by_cases hB : -1 ≤ y ∧ y ≤ (k : Int) - 1
            · have Hd2 := Lib.hid (decide_eq_true hB)
              by_cases hC : 0 ≤ y
              · obtain ⟨j, rfl⟩ := Int.eq_ofNat_of_zero_le hC
                have hj : j < l.length := by omega
                have hjn : (j : Int) < (n : Int) := by omega
                have hj0 : (0 : Int) ≤ (j : Int) := by omega
                have hjd : decide ((0 : Int) ≤ (j : Int)) = true := decide_eq_true hj0
                obtain ⟨b', off', xs', e, hSb', hc, rfl, hj1, hj2⟩ := h.at_ hj
                obtain ⟨rfl, rfl⟩ : b = b' ∧ off = off' := by simpa using e
                have e2 : ∀ p : Aft W, p.world.cell? ⟨b, off + j * 2, none⟩ = some (.int .i64 l[j].a) := Aft.cell ((hbW.cell (hS _ hSb)).trans (hc 0 _ rfl))
                have Hj := Lib.hid (show l[j]? = some l[j] from List.getElem?_eq_getElem hj)
                clear hc e hj1 hj2
                by_cases hD : l[j].a = x
                · have hDd : ((l[j].a : Int) == x) = true := by simpa using hD
                  have HD := Lib.hid hD
                  have Hd' := Lib.hid hB
                  have Hdd := Lib.hid hA
                  clear hD
                  refine wp_region_aft (by kernel_rfl) (by kernel_rfl) ?_
                  repeat (go_big_quiet_step ((go_at_call 49; exact Calls.aft (within_any _ _ _ _ (by first | with_reducible exact Hd.out | with_reducible exact Hd2.out) _))))
                  refine wpQuiet_nil ?_
                  rintro _ ⟨p, rfl⟩
                  have hb2 : Below w.heap.size w p.world := hbW.trans (p.below.mono hbW.size)
                  go_wp2
                  go_ret
                  exact ⟨by rw [goodEv_bad (fun _ _ => rfl) hl1 (evOk_not_D Hek.out Hj.out HD.out)]; rfl, hb2⟩
                · have hDd : ((l[j].a : Int) == x) = false := by simpa using hD
                  have HD := Lib.hid hD
                  clear hD
                  refine wp_region_aft (by kernel_rfl) (by kernel_rfl) ?_
                  repeat (go_big_quiet_step ((go_at_call 49; exact Calls.aft (within_any _ _ _ _ (by first | with_reducible exact Hd.out | with_reducible exact Hd2.out) _))))
                  refine wpQuiet_nil ?_
                  rintro _ ⟨p, rfl⟩
                  have hb2 : Below w.heap.size w p.world := hbW.trans (p.below.mono hbW.size)
                  go_wp2
                  go_roundw
                  case rel => exact ⟨k + 1, by omega, by go_num, evOk_succ Hpre.out Hek.out hA.1 hA.2 hB.1 hB.2 (evOk_new_j Hj.out HD.out), hb2⟩
                  case measure => simp [intOf]; omega
              · have hCd : decide (0 ≤ y) = false := decide_eq_false hC
                refine wp_region_aft (by kernel_rfl) (by kernel_rfl) ?_
                repeat (go_big_quiet_step ((go_at_call 49; exact Calls.aft (within_any _ _ _ _ (by first | with_reducible exact Hd.out | with_reducible exact Hd2.out) _))))
                refine wpQuiet_nil ?_
                rintro _ ⟨p, rfl⟩
                have hb2 : Below w.heap.size w p.world := hbW.trans (p.below.mono hbW.size)
                go_wp2
                go_roundw
                case rel => exact ⟨k + 1, by omega, by go_num, evOk_succ Hpre.out Hek.out hA.1 hA.2 hB.1 hB.2 (evOk_new_n hC), hb2⟩
                case measure => simp [intOf]; omega
            · have Hd2 := Lib.hid (decide_eq_false hB)
              refine wp_region_aft (by kernel_rfl) (by kernel_rfl) ?_
              repeat (go_big_quiet_step ((go_at_call 49; exact Calls.aft (within_any _ _ _ _ (by first | with_reducible exact Hd.out | with_reducible exact Hd2.out) _))))
              refine wpQuiet_nil ?_
              rintro _ ⟨p, rfl⟩
              have hb2 : Below w.heap.size w p.world := hbW.trans (p.below.mono hbW.size)
              go_wp2
              go_ret
              exact ⟨by rw [goodEv_bad (fun _ _ => rfl) hl1 (evOk_not_B Hek.out hB)]; rfl, hb2⟩
          · have Hd := Lib.hid (decide_eq_false hA)
            refine wp_region_aft (by kernel_rfl) (by kernel_rfl) ?_
            repeat (go_big_quiet_step ((go_at_call 49; exact Calls.aft (within_any _ _ _ _ (by first | with_reducible exact Hd.out) _))))
            refine wpQuiet_nil ?_
            rintro _ ⟨p, rfl⟩
            have hb2 : Below w.heap.size w p.world := hbW.trans (p.below.mono hbW.size)
            go_wp2
            go_ret
            exact ⟨by rw [goodEv_bad (fun _ _ => rfl) hl1 (evOk_not_A Hek.out hA)]; rfl, hb2⟩
        · obtain rfl : k = n := by omega
          go_wp2
          go_ret
          exact ⟨by rw [goodEv_yes rfl hN Hn.out hL Hpre.out]; rfl, hbel⟩
    · go_enter Try.func48, Try.ntmps48
      go_wp2_with (go_at_call 49; refine (within_any _ _ _ _ HN.out _).mono ?_; rintro e w0 ⟨rfl, hb0⟩)
      go_ret
      exact ⟨by rw [goodEv_long (Hn.out ▸ hL)]; rfl, hb0⟩
  · have HN := Lib.hid (decide_eq_false hN)
    go_enter Try.func48, Try.ntmps48
    go_wp2_with (go_at_call 49; refine (within_any _ _ _ _ HN.out _).mono ?_; rintro e w0 ⟨rfl, hb0⟩)
    go_ret
    exact ⟨by rw [goodEv_nodes hN]; rfl, hb0⟩
end Go.Proofs.Ytmkhahiefdcinaa
