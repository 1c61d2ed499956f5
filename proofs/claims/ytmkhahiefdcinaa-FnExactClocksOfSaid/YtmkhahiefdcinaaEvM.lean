/-
  Contract: the mark of the laws' own on events.
-/
import Derived.Test.YtmkhahiefdcinaaEvA
namespace Go.Proofs.Ytmkhahiefdcinaa
open Go.ChangeShapes Go.WideShapes Go.ChangeAt Go.RowKit Go.BigFrame
set_option linter.unusedVariables false

/-- markEventS writes k, k + 1, .. into the row, and nothing else. -/
def upsE (k : Int) (n : Nat) : List P2 := (List.range n).map fun i : Nat => ⟨k + 2 * (i : Int), k + 2 * (i : Int) + 1⟩
theorem upsE_len (k : Int) (n : Nat) : (upsE k n).length = n := by simp [upsE]
theorem markEventS_any (l : List P2) (k : Int) (h0 : 0 ≤ k) (h1 : k ≤ 1000000000) (w : World) (base : Nat) (A : Option Addr) (n c : Nat) (hn : n = l.length) (hsm : n ≤ 1048576) (h : w.ownsRow base 64 2 (.slice A n c) n (encs l)) :
    Calls Try.prog 18 #[.slice A n c, .int .i64 k] w fun e w' => e = .returned (.int .i64 (k + 2 * n)) ∧ w'.ownsRow base 64 2 (.slice A n c) n (encs (upsE k n)) ∧ w.grownBy w' (Value.slice A n c).ownBlock ∧ w.heap.size = w'.heap.size := by
  have Hn := Lib.hid hn
  clear hn
  have hc64 : n ≤ 9223372036854775807 := by omega
  go_enter Try.func18, Try.ntmps18
  go_wp2
  go_loopw [1, 5] (fun q i wr => ∃ (j : Nat) (m : Int), j ≤ n ∧ i = .int .i64 j ∧ q = .int .i64 m ∧ m = k + 2 * j ∧ wr.ownsRow base 64 2 (.slice A n c) n (encs (upsE k j ++ l.drop j)) ∧ w.grownBy wr (Value.slice A n c).ownBlock ∧ w.heap.size = wr.heap.size) (fun _ i _ => n - (intOf i).toNat)
  case atStart => exact ⟨0, k, Nat.zero_le _, rfl, rfl, by simp, by simpa [upsE] using h, World.grownBy.refl _ _, rfl⟩
  case round =>
    obtain ⟨j, m, hj, rfl, rfl, hm, hown, hgr, hsz⟩ := hrel
    have Hsz := Lib.hid hsz
    have Hm := Lib.hid hm
    have hm0 : 0 ≤ m := by omega
    have hm1 : m ≤ 2000000000 := by omega
    clear hsz hm
    by_cases hlt : j < n
    · obtain ⟨g, rfl⟩ : ∃ g, A = some ⟨g, 0, none⟩ := by
        rcases h.2 with ⟨_, e⟩ | ⟨g, cap, cur, e, _⟩
        · omega
        · simp only [Value.slice.injEq] at e
          exact ⟨g, e.1⟩
      obtain ⟨u0, hu0⟩ := own_cell hown (j := j * 2) (by omega)
      obtain ⟨u1, hu1⟩ := own_cell hown (j := j * 2 + 1) (by omega)
      have hf0 := hown.frozenAt (j * 2)
      have hf1 := hown.frozenAt (j * 2 + 1)
      have e1 := (hown.stored (j * 2) (.int .i64 m)).1
      have e2 := (hown.stored (j * 2) (.int .i64 m)).2
      have e3 := (e1.stored (j * 2 + 1) (.int .i64 (m + 1))).1
      have h2 := Lib.hid e3
      have hw1 : IntKind.i64.wrap (m + 1) = m + 1 := by rw [IntKind.wrap_i64]; omega
      have hw2 : IntKind.i64.wrap (m + 1 + 1) = m + 1 + 1 := by rw [IntKind.wrap_i64]; omega
      have Hgr := Lib.hid hgr
      clear hgr e1 e2 e3
      go_wp2
      go_roundw
      case rel =>
        have e1 := h2.out
        have hl := Hn.out
        have hgr := Hgr.out
        have hm := Hm.out
        refine ⟨j + 1, m + 1 + 1, by omega, by go_num, by simp <;> omega, by omega, ?_, ?_, ?_⟩
        · have e3 := encs_set (upsE k j ++ l.drop j) j ⟨m, m + 1⟩ (by simp [upsE]; omega)
          have e4 : j * Flat.size P2 = j * 2 := rfl
          rw [e4] at e3
          have e2 : (upsE k j ++ l.drop j).set j ⟨m, m + 1⟩ = upsE k (j + 1) ++ l.drop (j + 1) := by
            rw [List.set_append_right _ _ (by simp [upsE]), upsE_len, Nat.sub_self, List.drop_eq_getElem_cons (by omega), List.set_cons_zero]
            simp [upsE, List.range_succ, hm]
          rw [← e2, ← e3]
          exact e1
        · exact ⟨hgr.os, hgr.tape, hgr.output, by simpa [World.setCell] using hgr.size, fun i hi hne => ((Below.heap_setCell _ _ _ i (fun e => hne (by rw [e]; rfl))).trans (Below.heap_setCell _ _ _ i (fun e => hne (by rw [e]; rfl)))).trans (hgr.block i hi hne)⟩
        · simpa [World.setCell] using Hsz.out
      case measure => simp [intOf]; omega
    · obtain rfl : j = n := by omega
      go_wp2
      go_ret
      have hl := Hn.out
      rw [List.drop_of_length_le (by omega), List.append_nil] at hown
      exact ⟨by rw [Hm.out]; rfl, hown, hgr, Hsz.out⟩

end Go.Proofs.Ytmkhahiefdcinaa
