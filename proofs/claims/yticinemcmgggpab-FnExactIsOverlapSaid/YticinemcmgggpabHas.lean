/-
  Contract: l1Has of the reference.
-/
import Derived.Test.YticinemcmgggpabKit
namespace Go.Proofs.Yticinemcmgggpab
open Go.ChangeShapes Go.WideShapes Go.ChangeAt Go.RowKit Go.BigFrame
set_option linter.unusedVariables false

theorem l1Has_any (l : List Int) (x : Int) (r : Bool) (hr : l.any (fun y => y == x) = r) (w : World) (S : Nat → Prop) (hS : ∀ b, S b → b < w.heap.size) (A : Option Addr) (n c : Nat) (hl0 : RepL w S l A n c) :
    Calls Try.prog 39 #[.slice A n c, .int .i64 x] w fun e w' => e = .returned (.bool r) ∧ Below w.heap.size w w' := by
  have hbd := hl0.bd
  obtain ⟨hn, -⟩ := id hl0
  have Hn := Lib.hid hn
  have Hr := Lib.hid hr
  clear hn hr
  go_enter Try.func39, Try.ntmps39
  go_wp2_with fail
  go_loopw [9] (fun i wr => ∃ k : Nat, k ≤ n ∧ i = .int .i64 k ∧ (l.take k).any (fun y => y == x) = false ∧ Below w.heap.size w wr) (fun i _ => n - (intOf i).toNat)
  case atStart => exact ⟨0, Nat.zero_le _, rfl, rfl, Below.refl _ _⟩
  case round =>
    obtain ⟨k, hk, rfl, hpre, hbel⟩ := hrel
    have Hpre := Lib.hid hpre
    clear hpre
    by_cases hlt : k < n
    · have hl1 : k < l.length := by have := Hn.out; omega
      obtain ⟨b, off, rfl, hSb, hc, hok⟩ := hl0.at1 rfl hl1
      have hc0 : wr.cell? ⟨b, off + k, none⟩ = some (.int .i64 l[k]) := (hbel.cell (hS _ hSb)).trans (hc _ rfl)
      clear hc hok
      by_cases he : l[k] = x
      · have hd : (l[k] == x) = true := by simp [he]
        have Hf := Lib.hid (show r = true by rw [← Hr.out]; exact List.any_eq_true.2 ⟨l[k], List.getElem_mem hl1, hd⟩)
        clear he
        go_wp2_with fail
        go_ret
        exact ⟨by rw [Hf.out]; rfl, hbel⟩
      · have hd : (l[k] == x) = false := by simp [he]
        have Hs := Lib.hid (show (l.take (k + 1)).any (fun y => y == x) = false by rw [List.take_succ_eq_append_getElem hl1, List.any_append, Hpre.out]; simp [he])
        clear he
        go_wp2_with fail
        go_roundw
        case rel => exact ⟨k + 1, by omega, by go_num, Hs.out, hbel⟩
        case measure => simp [intOf]; omega
    · have Hf := Lib.hid (show r = false by rw [← Hr.out, ← Hpre.out, List.take_of_length_le (by have := Hn.out; omega)])
      go_wp2_with fail
      go_ret
      exact ⟨by rw [Hf.out]; rfl, hbel⟩

end Go.Proofs.Yticinemcmgggpab
