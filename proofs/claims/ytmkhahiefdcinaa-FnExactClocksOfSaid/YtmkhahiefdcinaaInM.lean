/-
  Contracts: markIntS, heldIntS.
-/
import Derived.Test.YtmkhahiefdcinaaInA
namespace Go.Proofs.Ytmkhahiefdcinaa
open Go.ChangeShapes Go.WideShapes Go.ChangeAt Go.RowKit Go.BigFrame
set_option linter.unusedVariables false


/-- k, k + 1, ..: n of them. -/
def ups (k : Int) (n : Nat) : List Int := (List.range n).map fun i : Nat => k + (i : Int)
theorem ups_len (k : Int) (n : Nat) : (ups k n).length = n := by simp [ups]
theorem ups_get (k : Int) (n i : Nat) (h : i < (ups k n).length) : (ups k n)[i] = k + (i : Int) := by simp [ups]

theorem ups_ok (k : Int) (n : Nat) (h0 : 0 ≤ k) (h1 : k + n ≤ 9000000000000000000) : ∀ x ∈ ups k n, (Flat.ok x : Prop) := by
  intro x hx
  obtain ⟨i, hi, rfl⟩ := List.mem_iff_getElem.1 hx
  rw [ups_get]
  rw [ups_len] at hi
  show I64 _
  unfold I64
  omega
/-- markIntS writes k, k + 1, .. into the row, and nothing else. -/
theorem markIntS_anyE (l : List Int) (k : Int) (E : TypeId) (h0 : 0 ≤ k) (h1 : k ≤ 1000000000) (w : World) (base : Nat) (A : Option Addr) (n c : Nat) (hn : n = l.length) (hsm : n ≤ 200000000) (h : w.ownsRow base E 1 (.slice A n c) n (encs l)) :
    Calls Try.prog 19 #[.slice A n c, .int .i64 k] w fun e w' => e = .returned (.int .i64 (k + n)) ∧ w'.ownsRow base E 1 (.slice A n c) n (encs (ups k n)) ∧ w.grownBy w' (Value.slice A n c).ownBlock ∧ w.heap.size = w'.heap.size := by
  have Hn := Lib.hid hn
  clear hn
  have hc64 : n ≤ 9223372036854775807 := by omega
  go_enter Try.func19, Try.ntmps19
  go_wp2
  go_loopw [1, 5] (fun q i wr => ∃ j : Nat, j ≤ n ∧ i = .int .i64 j ∧ q = .int .i64 (k + j) ∧ wr.ownsRow base E 1 (.slice A n c) n (encs (ups k j ++ l.drop j)) ∧ w.grownBy wr (Value.slice A n c).ownBlock ∧ w.heap.size = wr.heap.size) (fun _ i _ => n - (intOf i).toNat)
  case atStart => exact ⟨0, Nat.zero_le _, rfl, by simp, by simpa [ups] using h, World.grownBy.refl _ _, rfl⟩
  case round =>
    obtain ⟨j, hj, rfl, rfl, hown, hgr, hsz⟩ := hrel
    have Hsz := Lib.hid hsz
    clear hsz
    by_cases hlt : j < n
    · obtain ⟨g, rfl⟩ : ∃ g, A = some ⟨g, 0, none⟩ := by
        rcases h.2 with ⟨_, e⟩ | ⟨g, cap, cur, e, _⟩
        · omega
        · simp only [Value.slice.injEq] at e
          exact ⟨g, e.1⟩
      obtain ⟨u0, hu0⟩ := own_cell hown (j := j) (by omega)
      have hf0 := hown.frozenAt j
      have h2 := Lib.hid (hown.stored j (.int .i64 (k + j)))
      have Hgr := Lib.hid hgr
      clear hgr
      go_wp2
      go_roundw
      case rel =>
        have e1 := h2.out.1
        have hl := Hn.out
        have hgr := Hgr.out
        refine ⟨j + 1, by omega, by go_num, ?_, ?_, ?_, ?_⟩
        · simp only [Value.int.injEq, true_and]; omega
        · have e2 : (encs (ups k j ++ l.drop j)).set j (.int .i64 (k + j)) = encs (ups k (j + 1) ++ l.drop (j + 1)) := by
            have e3 := encs_set (ups k j ++ l.drop j) j (k + (j : Int)) (by simp [ups]; omega)
            have e4 : j * Flat.size Int = j := Nat.mul_one j
            rw [e4] at e3
            have e5 : setAll (encs (ups k j ++ l.drop j)) j (Flat.enc (k + (j : Int))) = (encs (ups k j ++ l.drop j)).set j (.int .i64 (k + j)) := rfl
            rw [← e5, e3]
            congr 1
            rw [List.set_append_right _ _ (by simp [ups]), ups_len, Nat.sub_self, List.drop_eq_getElem_cons (by omega), List.set_cons_zero]
            simp [ups, List.range_succ]
          rw [← e2]
          exact e1
        · exact ⟨hgr.os, hgr.tape, hgr.output, by simpa [World.setCell] using hgr.size, fun i hi hne => (Below.heap_setCell _ _ _ i (fun e => hne (by rw [e]; rfl))).trans (hgr.block i hi hne)⟩
        · simpa [World.setCell] using Hsz.out
      case measure => simp [intOf]; omega
    · obtain rfl : j = n := by omega
      go_wp2
      go_ret
      have hl := Hn.out
      rw [List.drop_of_length_le (by omega), List.append_nil] at hown
      exact ⟨rfl, hown, hgr, Hsz.out⟩
theorem markIntS_any (l : List Int) (k : Int) (h0 : 0 ≤ k) (h1 : k ≤ 1000000000) (w : World) (base : Nat) (A : Option Addr) (n c : Nat) (hn : n = l.length) (hsm : n ≤ 1048576) (h : w.ownsRow base 3 1 (.slice A n c) n (encs l)) :
    Calls Try.prog 19 #[.slice A n c, .int .i64 k] w fun e w' => e = .returned (.int .i64 (k + n)) ∧ w'.ownsRow base 3 1 (.slice A n c) n (encs (ups k n)) ∧ w.grownBy w' (Value.slice A n c).ownBlock ∧ w.heap.size = w'.heap.size := markIntS_anyE l k 3 h0 h1 w base A n c hn (by omega) h

/-- heldIntS finds what markIntS wrote. -/
theorem heldIntS_any (k : Int) (h0 : 0 ≤ k) (h1 : k ≤ 1000000000) (w : World) (S : Nat → Prop) (hS : ∀ b, S b → b < w.heap.size) (A : Option Addr) (n c : Nat) (hsm : n ≤ 200000000) (h : RepL w S (ups k n) A n c) :
    Calls Try.prog 20 #[.slice A n c, .int .i64 k] w fun e w' => e = .returned (.int .i64 (k + n)) ∧ Below w.heap.size w w' := by
  have hbd := h.bd
  go_enter Try.func20, Try.ntmps20
  go_wp2
  go_loopw [1, 5] (fun q i wr => ∃ j : Nat, j ≤ n ∧ i = .int .i64 j ∧ q = .int .i64 (k + j) ∧ Below w.heap.size w wr) (fun _ i _ => n - (intOf i).toNat)
  case atStart => exact ⟨0, Nat.zero_le _, rfl, by simp, Below.refl _ _⟩
  case round =>
    obtain ⟨j, hj, rfl, rfl, hbel⟩ := hrel
    by_cases hlt : j < n
    · have hl : j < (ups k n).length := by rw [ups_len]; exact hlt
      obtain ⟨b, off, rfl, hSb, hc, hi1⟩ := h.at1 rfl hl
      have hc0 : wr.cell? ⟨b, off + j, none⟩ = some (.int .i64 (k + j)) := by
        have := hc (.int .i64 (k + j)) (by rw [ups_get]; rfl)
        exact (hbel.cell (hS _ hSb)).trans this
      have hne : ((k + (j : Int)) != (k + (j : Int))) = false := by simp
      clear hc hi1
      go_wp2
      go_roundw
      case rel => exact ⟨j + 1, by omega, by go_num, by simp only [Value.int.injEq, true_and]; omega, hbel⟩
      case measure => simp [intOf]; omega
    · obtain rfl : j = n := by omega
      go_wp2
      go_ret
      exact ⟨rfl, hbel⟩

end Go.Proofs.Ytmkhahiefdcinaa
