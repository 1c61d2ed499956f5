/-
  Contracts: l7Starts of the reference, startsOf of the program.
-/
import Derived.Test.YtgcliipdkoefaaaSsM
import Derived.Test.YtgcliipdkoefaaaApp
namespace Go.Proofs.Ytgcliipdkoefaaa
open Go.ChangeShapes Go.WideShapes Go.ChangeAt Go.RowKit Go.BigFrame
set_option linter.unusedVariables false

set_option maxHeartbeats 4000000

theorem l7Starts_any (l : List IS) (hlen : l.length ≤ 40) (w : World) (S : Nat → Prop) (hS : ∀ b, S b → b < w.heap.size) (A : Option Addr) (n c : Nat) (hl0 : RepL w S l A n c) :
    Calls Try.prog 49 #[.slice A n c] w fun x w' => ∃ A2 m c2, x = .returned (.slice A2 m c2) ∧ m ≤ 40 ∧ MadeS w w' 55 (startsTo l l.length) A2 m c2 ∧ Below w.heap.size w w' := by
  obtain ⟨i0, hi, hz0, hz1, hz2⟩ := info_parts infoStart
  have hbd := hl0.bd
  obtain ⟨hn, -⟩ := id hl0
  have Hn := Lib.hid hn
  have hn40 : n ≤ 40 := by omega
  clear hn
  go_enter Try.func49, Try.ntmps49
  go_wp2_with fail
  go_loopw [3, 8] (fun o i wr => ∃ (k m : Nat), k ≤ n ∧ i = .int .i64 k ∧ m = (startsTo l k).length ∧ wr.ownsRow w.heap.size 55 2 o m (encs (startsTo l k)) ∧ Below w.heap.size w wr) (fun _ i _ => n - (intOf i).toNat)
  case atStart => exact ⟨0, 0, Nat.zero_le _, rfl, rfl, World.ownsRow_nil _ _ _ _, Below.refl _ _⟩
  case round =>
    obtain ⟨k, m, hk, rfl, hm, hout, hbel⟩ := hrel
    obtain ⟨A2, c2, rfl⟩ := own_slice hout
    have hmk : m ≤ k := by rw [hm]; exact startsTo_len l k
    have Hm := Lib.hid hm
    clear hm
    by_cases hlt : k < n
    · have hl1 : k < l.length := by have := Hn.out; omega
      obtain ⟨b, off, xs, rfl, hSb, hc, rfl, hi1, hi2⟩ := hl0.at_ hl1
      have hc0 := hc 0 _ rfl
      have hc1 := hc 1 _ rfl
      clear hc
      generalize hek : l[k] = ek at hc0 hc1 hi1 hi2
      obtain ⟨x, s⟩ := ek
      have Hek := Lib.hid (show l[k]? = some ⟨x, s⟩ by rw [List.getElem?_eq_getElem hl1, hek])
      have hc0' : wr.cell? ⟨b, off + k * 2, none⟩ = some (.int .i64 x) := (hbel.cell (hS _ hSb)).trans hc0
      have hc1' : wr.cell? ⟨b, off + k * 2 + 1, none⟩ = some (.string s) := (hbel.cell (hS _ hSb)).trans hc1
      have hI : (k : Int) < (n : Int) := by omega
      have hI0 : (0 : Int) ≤ (k : Int) := by omega
      obtain ⟨W, hW⟩ : ∃ W, W = wr.alloc (.cells #[.int .i64 x, .string s] 52) := ⟨_, rfl⟩
      have hbW : Below w.heap.size w W := by subst hW; exact hbel.alloc hbel.size _
      have hoW : W.ownsRow w.heap.size 55 2 (.slice A2 m c2) m (encs (startsTo l k)) := by subst hW; exact hout.alloc _
      have e0 : ∀ p : Aft W, p.world.cell? ⟨wr.heap.size, 0, none⟩ = some (.int .i64 x) := Aft.cell (by subst hW; simp)
      have HW := Lib.hid hW
      clear hW hc0 hc1 hek hi1 hi2
      go_wp2_with fail
      rw [← HW.out]
      by_cases hz : k = 0
      · have d0 : ((k : Int) == 0) = true := by simp [hz]
        have Hz := Lib.hid hz
        clear hz
        refine wp_region_aft (by kernel_rfl) (by kernel_rfl) ?_
        repeat (go_big_quiet_step (fail))
        refine wpQuiet_nil ?_
        rintro _ ⟨p, rfl⟩
        have hb2 : Below w.heap.size w p.world := hbW.trans (p.below.mono hbW.size)
        have HU := Lib.hid (own_below hoW p.below)
        have x0 := e0 p
        go_wp2_with (at_builtin; refine wpList_append_own _ rfl (.tmp 26) (.tmp 31) _ rfl w.heap.size 55 i0 (.agg #[.int .i64 0, .int .i64 0]) 2 16 Try.underlying30 hi hz0 hz1 hz2 rfl (by decide) _ _ _ rfl (HU.out.alloc _) ⟨p.world.heap.size, 0, none⟩ 1 1 [.int .i64 x, .int .i64 k] rfl rfl (news_two rfl) (by intro u' hu'; simp at hu'; rcases hu' with rfl | rfl <;> rfl) (by unfold maxLen; omega) (by omega) (by have := hb2.size; simp; omega) ?_; intro v1 w3 hown1 hg1 hat1)
        go_roundw
        case rel =>
          refine ⟨k + 1, m + 1, by omega, by go_num, by rw [startsTo_yes Hek.out (isStart_0 Hek.out Hz.out)]; simp [Hm.out], ?_, ?_⟩
          · rw [startsTo_yes Hek.out (isStart_0 Hek.out Hz.out), encs_append]; exact hown1
          · exact own_base (HU.out.alloc _) (hb2.alloc hb2.size _) (Nat.le_refl _) hg1 (by have := hb2.size; simp; omega)
        case measure => simp [intOf]; omega
      · obtain ⟨j, hj⟩ : ∃ j, k = j + 1 := ⟨k - 1, by omega⟩
        have d0 : ((k : Int) == 0) = false := by simp [hz]
        have hl2 : j < l.length := by omega
        obtain ⟨b', off', xs', e, hSb', hc, rfl, hj1, hj2⟩ := hl0.at_ hl2
        obtain ⟨rfl, rfl⟩ : b = b' ∧ off = off' := by simpa using e
        generalize hej : l[j] = ej at hc
        obtain ⟨y, t⟩ := ej
        have e2 : ∀ p : Aft W, p.world.cell? ⟨b, off + j * 2, none⟩ = some (.int .i64 y) := Aft.cell ((hbW.cell (hS _ hSb)).trans (hc 0 _ rfl))
        have Hj := Lib.hid (show l[k - 1]? = some ⟨y, t⟩ by rw [hj, ← hej]; exact List.getElem?_eq_getElem hl2)
        have hsub : IntKind.i64.wrap ((k : Int) - 1) = (j : Int) := by rw [IntKind.wrap_i64]; omega
        have hsub0 : (0 : Int) ≤ (j : Int) := by omega
        have hsub1 : (j : Int) < (n : Int) := by omega
        have Hz := Lib.hid hz
        clear hc e hj1 hj2 hj hz hej
        by_cases hD : y = x
        · have dD : ((y : Int) != x) = false := by simpa using hD
          have HD := Lib.hid dD
          clear hD
          refine wp_region_aft (by kernel_rfl) (by kernel_rfl) ?_
          repeat (go_big_quiet_step (fail))
          refine wpQuiet_nil ?_
          rintro _ ⟨p, rfl⟩
          have hb2 : Below w.heap.size w p.world := hbW.trans (p.below.mono hbW.size)
          have HU := Lib.hid (own_below hoW p.below)
          have x0 := e0 p
          go_wp2_with fail
          go_roundw
          case rel => exact ⟨k + 1, m, by omega, by go_num, by rw [startsTo_no (isStart_eq Hek.out Hz.out Hj.out HD.out)]; exact Hm.out, by rw [startsTo_no (isStart_eq Hek.out Hz.out Hj.out HD.out)]; exact HU.out, hb2⟩
          case measure => simp [intOf]; omega
        · have dD : ((y : Int) != x) = true := by simpa using hD
          have HD := Lib.hid dD
          clear hD
          refine wp_region_aft (by kernel_rfl) (by kernel_rfl) ?_
          repeat (go_big_quiet_step (fail))
          refine wpQuiet_nil ?_
          rintro _ ⟨p, rfl⟩
          have hb2 : Below w.heap.size w p.world := hbW.trans (p.below.mono hbW.size)
          have HU := Lib.hid (own_below hoW p.below)
          have x0 := e0 p
          go_wp2_with (at_builtin; refine wpList_append_own _ rfl (.tmp 26) (.tmp 31) _ rfl w.heap.size 55 i0 (.agg #[.int .i64 0, .int .i64 0]) 2 16 Try.underlying30 hi hz0 hz1 hz2 rfl (by decide) _ _ _ rfl (HU.out.alloc _) ⟨p.world.heap.size, 0, none⟩ 1 1 [.int .i64 x, .int .i64 k] rfl rfl (news_two rfl) (by intro u' hu'; simp at hu'; rcases hu' with rfl | rfl <;> rfl) (by unfold maxLen; omega) (by omega) (by have := hb2.size; simp; omega) ?_; intro v1 w3 hown1 hg1 hat1)
          go_roundw
          case rel =>
            refine ⟨k + 1, m + 1, by omega, by go_num, by rw [startsTo_yes Hek.out (isStart_eq Hek.out Hz.out Hj.out HD.out)]; simp [Hm.out], ?_, ?_⟩
            · rw [startsTo_yes Hek.out (isStart_eq Hek.out Hz.out Hj.out HD.out), encs_append]; exact hown1
            · exact own_base (HU.out.alloc _) (hb2.alloc hb2.size _) (Nat.le_refl _) hg1 (by have := hb2.size; simp; omega)
          case measure => simp [intOf]; omega
    · obtain rfl : k = n := by omega
      go_wp2_with fail
      go_ret
      have e := Hn.out
      rw [← e]
      refine ⟨A2, m, c2, rfl, by omega, ⟨hout, RepL.of_own' rfl Hm.out hout (startsTo_ok hl0.ok _ (by omega))⟩, hbel⟩

theorem startsOf_any (l : List IS) (hlen : l.length ≤ 40) (w : World) (S : Nat → Prop) (hS : ∀ b, S b → b < w.heap.size) (A : Option Addr) (n c : Nat) (hl0 : RepL w S l A n c) :
    Calls Try.prog 50 #[.slice A n c] w fun x w' => ∃ A2 m c2, x = .returned (.slice A2 m c2) ∧ m ≤ 40 ∧ MadeS w w' 55 (startsTo l l.length) A2 m c2 ∧ Below w.heap.size w w' := by
  obtain ⟨i0, hi, hz0, hz1, hz2⟩ := info_parts infoStart
  have hbd := hl0.bd
  obtain ⟨hn, -⟩ := id hl0
  have Hn := Lib.hid hn
  have hn40 : n ≤ 40 := by omega
  clear hn
  go_enter Try.func50, Try.ntmps50
  go_wp2_with fail
  go_loopw [3, 8] (fun o i wr => ∃ (k m : Nat), k ≤ n ∧ i = .int .i64 k ∧ m = (startsTo l k).length ∧ wr.ownsRow w.heap.size 55 2 o m (encs (startsTo l k)) ∧ Below w.heap.size w wr) (fun _ i _ => n - (intOf i).toNat)
  case atStart => exact ⟨0, 0, Nat.zero_le _, rfl, rfl, World.ownsRow_nil _ _ _ _, Below.refl _ _⟩
  case round =>
    obtain ⟨k, m, hk, rfl, hm, hout, hbel⟩ := hrel
    obtain ⟨A2, c2, rfl⟩ := own_slice hout
    have hmk : m ≤ k := by rw [hm]; exact startsTo_len l k
    have Hm := Lib.hid hm
    clear hm
    by_cases hlt : k < n
    · have hl1 : k < l.length := by have := Hn.out; omega
      obtain ⟨b, off, xs, rfl, hSb, hc, rfl, hi1, hi2⟩ := hl0.at_ hl1
      have hc0 := hc 0 _ rfl
      have hc1 := hc 1 _ rfl
      clear hc
      generalize hek : l[k] = ek at hc0 hc1 hi1 hi2
      obtain ⟨x, s⟩ := ek
      have Hek := Lib.hid (show l[k]? = some ⟨x, s⟩ by rw [List.getElem?_eq_getElem hl1, hek])
      have hc0' : wr.cell? ⟨b, off + k * 2, none⟩ = some (.int .i64 x) := (hbel.cell (hS _ hSb)).trans hc0
      have hc1' : wr.cell? ⟨b, off + k * 2 + 1, none⟩ = some (.string s) := (hbel.cell (hS _ hSb)).trans hc1
      have hI : (k : Int) < (n : Int) := by omega
      have hI0 : (0 : Int) ≤ (k : Int) := by omega
      obtain ⟨W, hW⟩ : ∃ W, W = wr.alloc (.cells #[.int .i64 x, .string s] 52) := ⟨_, rfl⟩
      have hbW : Below w.heap.size w W := by subst hW; exact hbel.alloc hbel.size _
      have hoW : W.ownsRow w.heap.size 55 2 (.slice A2 m c2) m (encs (startsTo l k)) := by subst hW; exact hout.alloc _
      have e0 : ∀ p : Aft W, p.world.cell? ⟨wr.heap.size, 0, none⟩ = some (.int .i64 x) := Aft.cell (by subst hW; simp)
      have HW := Lib.hid hW
      clear hW hc0 hc1 hek hi1 hi2
      go_wp2_with fail
      rw [← HW.out]
      by_cases hz : k = 0
      · have d0 : ((k : Int) == 0) = true := by simp [hz]
        have Hz := Lib.hid hz
        clear hz
        refine wp_region_aft (by kernel_rfl) (by kernel_rfl) ?_
        repeat (go_big_quiet_step (fail))
        refine wpQuiet_nil ?_
        rintro _ ⟨p, rfl⟩
        have hb2 : Below w.heap.size w p.world := hbW.trans (p.below.mono hbW.size)
        have HU := Lib.hid (own_below hoW p.below)
        have x0 := e0 p
        go_wp2_with (at_builtin; refine wpList_append_own _ rfl (.tmp 26) (.tmp 31) _ rfl w.heap.size 55 i0 (.agg #[.int .i64 0, .int .i64 0]) 2 16 Try.underlying30 hi hz0 hz1 hz2 rfl (by decide) _ _ _ rfl (HU.out.alloc _) ⟨p.world.heap.size, 0, none⟩ 1 1 [.int .i64 x, .int .i64 k] rfl rfl (news_two rfl) (by intro u' hu'; simp at hu'; rcases hu' with rfl | rfl <;> rfl) (by unfold maxLen; omega) (by omega) (by have := hb2.size; simp; omega) ?_; intro v1 w3 hown1 hg1 hat1)
        go_roundw
        case rel =>
          refine ⟨k + 1, m + 1, by omega, by go_num, by rw [startsTo_yes Hek.out (isStart_0 Hek.out Hz.out)]; simp [Hm.out], ?_, ?_⟩
          · rw [startsTo_yes Hek.out (isStart_0 Hek.out Hz.out), encs_append]; exact hown1
          · exact own_base (HU.out.alloc _) (hb2.alloc hb2.size _) (Nat.le_refl _) hg1 (by have := hb2.size; simp; omega)
        case measure => simp [intOf]; omega
      · obtain ⟨j, hj⟩ : ∃ j, k = j + 1 := ⟨k - 1, by omega⟩
        have d0 : ((k : Int) == 0) = false := by simp [hz]
        have hl2 : j < l.length := by omega
        obtain ⟨b', off', xs', e, hSb', hc, rfl, hj1, hj2⟩ := hl0.at_ hl2
        obtain ⟨rfl, rfl⟩ : b = b' ∧ off = off' := by simpa using e
        generalize hej : l[j] = ej at hc
        obtain ⟨y, t⟩ := ej
        have e2 : ∀ p : Aft W, p.world.cell? ⟨b, off + j * 2, none⟩ = some (.int .i64 y) := Aft.cell ((hbW.cell (hS _ hSb)).trans (hc 0 _ rfl))
        have Hj := Lib.hid (show l[k - 1]? = some ⟨y, t⟩ by rw [hj, ← hej]; exact List.getElem?_eq_getElem hl2)
        have hsub : IntKind.i64.wrap ((k : Int) - 1) = (j : Int) := by rw [IntKind.wrap_i64]; omega
        have hsub0 : (0 : Int) ≤ (j : Int) := by omega
        have hsub1 : (j : Int) < (n : Int) := by omega
        have Hz := Lib.hid hz
        clear hc e hj1 hj2 hj hz hej
        by_cases hD : y = x
        · have dD : ((y : Int) != x) = false := by simpa using hD
          have HD := Lib.hid dD
          clear hD
          refine wp_region_aft (by kernel_rfl) (by kernel_rfl) ?_
          repeat (go_big_quiet_step (fail))
          refine wpQuiet_nil ?_
          rintro _ ⟨p, rfl⟩
          have hb2 : Below w.heap.size w p.world := hbW.trans (p.below.mono hbW.size)
          have HU := Lib.hid (own_below hoW p.below)
          have x0 := e0 p
          go_wp2_with fail
          go_roundw
          case rel => exact ⟨k + 1, m, by omega, by go_num, by rw [startsTo_no (isStart_eq Hek.out Hz.out Hj.out HD.out)]; exact Hm.out, by rw [startsTo_no (isStart_eq Hek.out Hz.out Hj.out HD.out)]; exact HU.out, hb2⟩
          case measure => simp [intOf]; omega
        · have dD : ((y : Int) != x) = true := by simpa using hD
          have HD := Lib.hid dD
          clear hD
          refine wp_region_aft (by kernel_rfl) (by kernel_rfl) ?_
          repeat (go_big_quiet_step (fail))
          refine wpQuiet_nil ?_
          rintro _ ⟨p, rfl⟩
          have hb2 : Below w.heap.size w p.world := hbW.trans (p.below.mono hbW.size)
          have HU := Lib.hid (own_below hoW p.below)
          have x0 := e0 p
          go_wp2_with (at_builtin; refine wpList_append_own _ rfl (.tmp 26) (.tmp 31) _ rfl w.heap.size 55 i0 (.agg #[.int .i64 0, .int .i64 0]) 2 16 Try.underlying30 hi hz0 hz1 hz2 rfl (by decide) _ _ _ rfl (HU.out.alloc _) ⟨p.world.heap.size, 0, none⟩ 1 1 [.int .i64 x, .int .i64 k] rfl rfl (news_two rfl) (by intro u' hu'; simp at hu'; rcases hu' with rfl | rfl <;> rfl) (by unfold maxLen; omega) (by omega) (by have := hb2.size; simp; omega) ?_; intro v1 w3 hown1 hg1 hat1)
          go_roundw
          case rel =>
            refine ⟨k + 1, m + 1, by omega, by go_num, by rw [startsTo_yes Hek.out (isStart_eq Hek.out Hz.out Hj.out HD.out)]; simp [Hm.out], ?_, ?_⟩
            · rw [startsTo_yes Hek.out (isStart_eq Hek.out Hz.out Hj.out HD.out), encs_append]; exact hown1
            · exact own_base (HU.out.alloc _) (hb2.alloc hb2.size _) (Nat.le_refl _) hg1 (by have := hb2.size; simp; omega)
          case measure => simp [intOf]; omega
    · obtain rfl : k = n := by omega
      go_wp2_with fail
      go_ret
      have e := Hn.out
      rw [← e]
      refine ⟨A2, m, c2, rfl, by omega, ⟨hout, RepL.of_own' rfl Hm.out hout (startsTo_ok hl0.ok _ (by omega))⟩, hbel⟩

end Go.Proofs.Ytgcliipdkoefaaa
