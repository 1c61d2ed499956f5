/-
  slices.Grow of nil, slices.Concat at []int.
-/
import Derived.Test.YtlbnodmebehpiaaApp
namespace Go.Proofs.Ytlbnodmebehpiaa
open Go.ChangeShapes Go.WideShapes Go.ChangeAt Go.RowKit Go.BigFrame
set_option linter.unusedVariables false
set_option maxRecDepth 100000


theorem growNilInt_any (n : Nat) (hsm : n ≤ 100000000) (w : World) :
    Calls Try.prog 136 #[.slice none 0 0, .int .i64 n] w fun x w' => ∃ v, x = .returned v ∧ w'.ownsRow w.heap.size 3 1 v 0 [] ∧ Below w.heap.size w w' := by
  have hinfo : (Try.prog.info? 3).map (fun i => (i.zero, i.size, i.bytes)) = some (some (.int .i64 0), 1, 8) := by kernel_rfl
  obtain ⟨i0, hi, hz0, hz1, hz2⟩ := info_parts hinfo
  rcases Nat.eq_zero_or_pos n with hz | hz
  · subst hz
    go_enter Try.func136, Try.ntmps136
    go_wp2
    go_ret
    exact ⟨_, rfl, World.ownsRow_nil _ _ _ _, Below.refl _ _⟩
  · have hold : (Builtin.firstCells i0.size 0 (.slice none 0 0)).run Try.prog w.drew = .ok (List.toArray []) w.drew := run_firstCells_none w.drew i0.size 0 0 0
    obtain ⟨G, hG⟩ : ∃ G, grownCap w (0 + n) 0 3 = G := ⟨_, rfl⟩
    have hGn : n ≤ G := by have := grownCap_ge w (0 + n) 0 3; omega
    have hG63 : G ≤ maxLen := by rw [← hG]; exact grownCap_le_maxLen w (0 + n) 0 3 (by unfold maxLen; omega)
    have hrz : ∀ ty, (Builtin.append_ #[22, 3] ty #[.slice none 0 0, .int .i64 (n : Int)]).run Try.prog w =
        .ok (.slice (some ⟨w.heap.size, 0, none⟩) n G) (w.drew.alloc (.cells ((List.toArray []) ++ Builtin.zeroCells (Value.cells (.int .i64 0)) n ++ Builtin.zeroCells (Value.cells (.int .i64 0)) (G - n)) 3)) := fun ty => by
      have h := Lib.run_append_grow_zeros (P := Try.prog) w 22 3 ty 3 i0 _ .i64 .i64 Try.underlying22 Try.underlying3 hi hz0 none 0 0 [] hold n hz (by omega) (by omega) (by omega)
        (by rw [hz2]; omega) (growslice_fits (by omega) (by rw [hz2]; omega))
      rw [hG, Nat.zero_add] at h
      exact h
    have HG := Lib.hid hG
    clear hG hold
    obtain ⟨W, hW⟩ : ∃ W, W = w.drew.alloc (.cells ((List.toArray []) ++ Builtin.zeroCells (Value.cells (.int .i64 0)) n ++ Builtin.zeroCells (Value.cells (.int .i64 0)) (G - n)) 3) := ⟨_, rfl⟩
    rw [← hW] at hrz
    have hown : W.ownsRow w.heap.size 3 1 (.slice (some ⟨w.heap.size, 0, none⟩) 0 G) 0 [] := by
      rw [hW]
      refine ⟨rfl, .inr ⟨w.heap.size, G, _, rfl, Nat.le_refl _, heap_alloc_new w.drew _, Nat.zero_le _, hG63, ?_, by simp⟩⟩
      simp only [Array.size_append, List.size_toArray, List.length_nil, size_zeroCells]
      simp [Value.cells]
      omega
    have hb : Below w.heap.size w W := by rw [hW]; exact ((Below.refl _ w).drew).alloc (Nat.le_refl _) _
    clear hW
    have hG' : n ≤ 9223372036854775807 ∧ G ≤ 9223372036854775807 := by unfold maxLen at hG63; omega
    go_enter Try.func136, Try.ntmps136
    go_wp2_with (at_builtin; refine Lib.wpList_append_run _ rfl (.tmp 20) (.tmp 21) _ _ rfl _ _ rfl rfl _ _ (hrz _) ?_)
    go_ret
    exact ⟨_, rfl, hown, hb⟩

/-- How many elements the lists hold together. -/
def total {α : Type} (ls : List (List α)) : Nat := (ls.map List.length).sum
theorem total_take {α : Type} (ls : List (List α)) (k : Nat) (hk : k < ls.length) : total (ls.take (k + 1)) = total (ls.take k) + ls[k].length := by
  unfold total
  rw [List.take_succ_eq_append_getElem hk, List.map_append, List.sum_append]
  simp
theorem total_flatten {α : Type} (ls : List (List α)) : total ls = ls.flatten.length := by
  unfold total
  rw [List.length_flatten]
theorem flatten_take {α : Type} (ls : List (List α)) (k : Nat) (hk : k < ls.length) : (ls.take (k + 1)).flatten = (ls.take k).flatten ++ ls[k] := by
  rw [List.take_succ_eq_append_getElem hk, List.flatten_append]
  simp
theorem total_le {α : Type} (ls : List (List α)) (k : Nat) : total (ls.take k) ≤ total ls := by
  unfold total
  conv => rhs; rw [← List.take_append_drop k ls]
  rw [List.map_append, List.sum_append]
  omega

theorem concatInt_any (ls : List (List Int)) (w : World) (S : Nat → Prop) (hS : ∀ b, S b → b < w.heap.size) (A : Option Addr) (n c : Nat) (hl0 : RepL w S ls A n c) (hsm : total ls ≤ 100000000) :
    Calls Try.prog 96 #[.slice A n c] w fun x w' => ∃ A' c', x = .returned (.slice A' (total ls) c') ∧ w'.ownsRow w.heap.size 3 1 (.slice A' (total ls) c') (total ls) (encs ls.flatten) ∧ RepL w' (fun b => w.heap.size ≤ b ∧ b < w'.heap.size) ls.flatten A' (total ls) c' ∧ Below w.heap.size w w' := by
  have hinfo : (Try.prog.info? 3).map (fun i => (i.zero, i.size, i.bytes)) = some (some (.int .i64 0), 1, 8) := by kernel_rfl
  obtain ⟨i0, hi, hz0, hz1, hz2⟩ := info_parts hinfo
  have hbd := hl0.bd
  obtain ⟨hn, -⟩ := id hl0
  have Hn := Lib.hid hn
  clear hn
  go_enter Try.func96, Try.ntmps96
  go_wp2_with fail
  go_loopw [3, 11] (fun q i wr => ∃ k : Nat, k ≤ n ∧ i = .int .i64 k ∧ q = .int .i64 (total (ls.take k) : Nat) ∧ Below w.heap.size w wr) (fun _ i _ => n - (intOf i).toNat)
  case atStart => exact ⟨0, Nat.zero_le _, rfl, by simp [total], Below.refl _ _⟩
  case round =>
    obtain ⟨k, hk, rfl, rfl, hbel⟩ := hrel
    by_cases hlt : k < n
    · have hl1 : k < ls.length := by have := Hn.out; omega
      obtain ⟨b, off, A1, c1, rfl, hSb, hc, hr⟩ := hl0.row hl1
      have hc0 : wr.cell? ⟨b, off + k, none⟩ = some (.slice A1 ls[k].length c1) := (hbel.cell (hS _ hSb)).trans hc
      have h1 := total_le ls (k + 1)
      have h2 := total_take ls k hl1
      rw [h2] at h1
      have H2 := Lib.hid h2
      clear h2 hc
      generalize total (ls.take k) = q at *
      go_wp2_with fail
      go_roundw
      case rel => exact ⟨k + 1, by omega, by go_num, by rw [H2.out]; go_num, hbel⟩
      case measure => simp [intOf]; omega
    · obtain rfl : k = n := by omega
      have ht : total (ls.take k) = total ls := by rw [List.take_of_length_le (by have := Hn.out; omega)]
      rw [ht]
      clear ht
      go_wp2_with fail
      refine (growNilInt_any (total ls) hsm wr).mono ?_
      rintro e w1 ⟨v, rfl, hown, b1⟩
      have hb1 := hbel.trans (b1.mono hbel.size)
      have hown' : w1.ownsRow w.heap.size 3 1 v 0 [] := ⟨hown.1, hown.2.imp id fun ⟨g, cap, cur, e1, e2, e3⟩ => ⟨g, cap, cur, e1, Nat.le_trans hbel.size e2, e3⟩⟩
      clear hown
      go_wp2_with fail
      go_loopw [6, 27] (fun v i wr => ∃ j : Nat, j ≤ k ∧ i = .int .i64 j ∧ wr.ownsRow w.heap.size 3 1 v (total (ls.take j)) (encs (ls.take j).flatten) ∧ Below w.heap.size w wr) (fun _ i _ => k - (intOf i).toNat)
      case atStart => exact ⟨0, Nat.zero_le _, rfl, by simpa [total, encs] using hown', hb1⟩
      case round =>
        obtain ⟨j, hj, rfl, hown2, hbel2⟩ := hrel
        by_cases hlt2 : j < k
        · have hl1 : j < ls.length := by have := Hn.out; omega
          obtain ⟨b, off, A1, c1, rfl, hSb, hc, hr⟩ := hl0.row hl1
          have hc0 : wr.cell? ⟨b, off + j, none⟩ = some (.slice A1 ls[j].length c1) := (hbel2.cell (hS _ hSb)).trans hc
          have hr1 := Lib.hid (hr.keep (w' := wr) (fun p hp => hbel2.cell (hS _ hp)))
          have h1 := total_le ls (j + 1)
          have h2 := total_take ls j hl1
          rw [h2] at h1
          have H2 := Lib.hid h2
          have H3 := Lib.hid (flatten_take ls j hl1)
          clear h2 hc hr
          generalize hq : total (ls.take j) = q at *
          clear hq
          have Hown2 := Lib.hid hown2
          have Hbel2 := Lib.hid hbel2
          go_wp2_with (at_builtin; refine wpList_append_list (α := Int) _ rfl (.tmp 31) (.tmp 32) _ rfl w.heap.size 3 i0 _ 1 8 Try.underlying22 hi hz0 hz1 hz2 rfl (by omega) rfl _ _ q rfl Hown2.out S A1 ls[j].length c1 ls[j] rfl hr1.out (by omega) (by omega) Hbel2.out.size ?_; intro v1 w2 hown3 hg2 hat2)
          go_roundw
          case rel => exact ⟨j + 1, by omega, by go_num, by rw [H2.out, H3.out]; exact hown3, own_base Hown2.out Hbel2.out (Nat.le_refl _) hg2 Hbel2.out.size⟩
          case measure => simp [intOf]; omega
        · go_wp2_with fail
          go_ret
          obtain rfl : j = k := by omega
          have e1 : ls.take j = ls := List.take_of_length_le (by have := Hn.out; omega)
          rw [e1] at hown2
          obtain ⟨A', c', rfl⟩ := own_slice hown2
          refine ⟨A', c', rfl, hown2, RepL.of_own' rfl (total_flatten ls) hown2 ?_, hbel2⟩
          intro a ha
          obtain ⟨r, hr, har⟩ := List.mem_flatten.1 ha
          obtain ⟨i, hi, rfl⟩ := List.mem_iff_getElem.1 hr
          obtain ⟨_, _, _, _, _, _, _, hrr⟩ := hl0.row hi
          exact hrr.ok a har

end Go.Proofs.Ytlbnodmebehpiaa
