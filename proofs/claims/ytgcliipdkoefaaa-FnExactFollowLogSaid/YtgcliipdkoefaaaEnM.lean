/-
  Contract: the mark of the laws' own on entries.
-/
import Derived.Test.YtgcliipdkoefaaaEnA
import Derived.Test.YtgcliipdkoefaaaMtT
import Derived.Maps.AppendAt
namespace Go.Proofs.Ytgcliipdkoefaaa
open Go.ChangeShapes Go.WideShapes Go.ChangeAt Go.RowKit Go.BigFrame
set_option linter.unusedVariables false

/-- What markEntryS writes. -/
def upsN (k : Int) (n : Nat) : List IS := (List.range n).map fun i : Nat => ⟨k + 2 * (i : Int), mkText (k + 2 * (i : Int) + 1).toNat⟩
theorem upsN_len (k : Int) (n : Nat) : (upsN k n).length = n := by simp [upsN]
theorem markEntryS_any (l : List IS) (k : Int) (h0 : 0 ≤ k) (h1 : k ≤ 100000000) (w : World) (base : Nat) (A : Option Addr) (n c : Nat) (hn : n = l.length) (hsm : n ≤ 1048576) (h : w.ownsRow base 52 2 (.slice A n c) n (encs l)) :
    Calls Try.prog 17 #[.slice A n c, .int .i64 k] w fun e w' => e = .returned (.int .i64 (k + 2 * n)) ∧ w'.ownsRow base 52 2 (.slice A n c) n (encs (upsN k n)) ∧ w.grownBy w' (Value.slice A n c).ownBlock ∧ w.heap.size ≤ w'.heap.size := by
  have Hn := Lib.hid hn
  clear hn
  have hc64 : n ≤ 9223372036854775807 := by omega
  go_enter Try.func17, Try.ntmps17
  go_wp2_with fail
  go_loopw [1, 5] (fun q i wr => ∃ (j m : Nat), j ≤ n ∧ i = .int .i64 j ∧ q = .int .i64 m ∧ (m : Int) = k + 2 * j ∧ wr.ownsRow base 52 2 (.slice A n c) n (encs (upsN k j ++ l.drop j)) ∧ w.grownBy wr (Value.slice A n c).ownBlock ∧ w.heap.size ≤ wr.heap.size) (fun _ i _ => n - (intOf i).toNat)
  case atStart => exact ⟨0, k.toNat, Nat.zero_le _, rfl, by rw [Int.toNat_of_nonneg h0], by rw [Int.toNat_of_nonneg h0]; simp, by simpa [upsN] using h, World.grownBy.refl _ _, Nat.le_refl _⟩
  case round =>
    obtain ⟨j, m, hj, rfl, rfl, hm, hown, hgr, hsz⟩ := hrel
    have Hsz := Lib.hid hsz
    have Hm := Lib.hid hm
    have hm1 : m ≤ 200000000 := by omega
    clear hsz hm
    by_cases hlt : j < n
    · obtain ⟨g, rfl⟩ : ∃ g, A = some ⟨g, 0, none⟩ := by
        rcases h.2 with ⟨_, e⟩ | ⟨g, cap, cur, e, _⟩
        · omega
        · simp only [Value.slice.injEq] at e
          exact ⟨g, e.1⟩
      obtain ⟨u0, hu0⟩ := own_cell hown (j := j * 2) (by omega)
      have hf0 := hown.frozenAt (j * 2)
      have e1 := (hown.stored (j * 2) (.int .i64 m)).1
      have g1 := (hown.stored (j * 2) (.int .i64 m)).2
      have E1 := Lib.hid e1
      have G1 := Lib.hid g1
      have Hgr := Lib.hid hgr
      have MT := Lib.hid (fun W => markText_any (m + 1) (by omega) (by omega) W)
      rw [show ((m + 1 : Nat) : Int) = (m : Int) + 1 by omega] at MT
      clear hgr e1 g1
      go_wp2_with fail
      refine (MT.out _).mono ?_
      rintro e w1 ⟨rfl, hts, b1⟩
      have e2 := own_below E1.out b1
      obtain ⟨u1, hu1⟩ := own_cell e2 (j := j * 2 + 1) (by omega)
      have hf1 := e2.frozenAt (j * 2 + 1)
      have E3 := Lib.hid (e2.stored (j * 2 + 1) (.string (mkText (m + 1))))
      have B1 := Lib.hid b1
      clear e2
      go_wp2_with fail
      go_roundw
      case rel =>
        have hl := Hn.out
        have hgr := Hgr.out
        have hm := Hm.out
        have b1 := B1.out
        have G := ((hgr.trans G1.out).trans (below_grownBy b1 _)).trans E3.out.2
        refine ⟨j + 1, m + 1 + 1, by omega, by go_num, by simp <;> omega, by omega, ?_, ?_, ?_⟩
        · have e3 := encs_set (upsN k j ++ l.drop j) j ⟨m, mkText (m + 1)⟩ (by simp [upsN]; omega)
          have e4 : j * Flat.size IS = j * 2 := rfl
          rw [e4] at e3
          have e2 : (upsN k j ++ l.drop j).set j ⟨m, mkText (m + 1)⟩ = upsN k (j + 1) ++ l.drop (j + 1) := by
            rw [List.set_append_right _ _ (by simp [upsN]), upsN_len, Nat.sub_self, List.drop_eq_getElem_cons (by omega), List.set_cons_zero]
            have e5 : (k + 2 * (j : Int) + 1).toNat = m + 1 := by omega
            simp [upsN, List.range_succ, hm, e5]
          rw [← e2, ← e3]
          exact E3.out.1
        · exact G
        · exact G.size
      case measure => simp [intOf]; omega
    · obtain rfl : j = n := by omega
      go_wp2_with fail
      go_ret
      have hl := Hn.out
      rw [List.drop_of_length_le (by omega), List.append_nil] at hown
      exact ⟨by rw [← Hm.out]; rfl, hown, hgr, Hsz.out⟩

end Go.Proofs.Ytgcliipdkoefaaa
