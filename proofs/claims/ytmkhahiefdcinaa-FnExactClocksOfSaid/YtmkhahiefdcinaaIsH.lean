/-
  Contract: the laws' own helper over [][] (heldIntSS).
-/
import Derived.Test.YtmkhahiefdcinaaInU
namespace Go.Proofs.Ytmkhahiefdcinaa
open Go.ChangeShapes Go.WideShapes Go.ChangeAt Go.RowKit Go.BigFrame Go.Deep
set_option linter.unusedVariables false


theorem heldIntSS_u (l : List (List Int)) (k : Nat) (h0 : 0 < k) (h1 : k + mcnt l ≤ 100000000) (w : World) (S : Nat → Prop) (hS : ∀ b, S b → b < w.heap.size) (A : Option Addr) (n c : Nat) (h : RepL w S (mkL k l) A n c) :
    Calls Try.prog 28 #[.slice A n c, .int .i64 k] w fun e w' => e = .returned (.int .i64 ((k + mcnt l : Nat) : Int)) ∧ Below w.heap.size w w' := by
  have hbd := h.bd
  have hn := h.1
  rw [mkL_len] at hn
  have Hn := Lib.hid hn
  clear hn
  go_enter Try.func28, Try.ntmps28
  go_wp2_with fail
  go_loopw [1, 5] (fun q i wr => ∃ (j m : Nat), j ≤ n ∧ i = .int .i64 j ∧ q = .int .i64 m ∧ m = k + mcnt (l.take j) ∧ Below w.heap.size w wr) (fun _ i _ => n - (intOf i).toNat)
  case atStart => exact ⟨0, k, Nat.zero_le _, rfl, rfl, by simp [mcnt], Below.refl _ _⟩
  case round =>
    obtain ⟨j, m, hj, rfl, rfl, hm, hbel⟩ := hrel
    have Hm := Lib.hid hm
    clear hm
    by_cases hlt : j < n
    · have hl1 : j < l.length := by have := Hn.out; omega
      have hl2 : j < (mkL k l).length := by rw [mkL_len]; exact hl1
      have hg := List.getElem?_eq_getElem hl2
      rw [mkL_get hl1] at hg
      have hg2 := Option.some.inj hg
      obtain ⟨b, off, A1, c1, rfl, hSb, hc, hr⟩ := h.row hl2
      rw [← hg2, ← Hm.out] at hc hr
      have e6 : (Mark.mrk m l[j]).length = l[j].length := mkL_len m l[j]
      rw [e6] at hc hr
      have hc0 : wr.cell? ⟨b, off + j, none⟩ = some (.slice A1 l[j].length c1) := (hbel.cell (hS _ hSb)).trans hc
      have hr1 := hr.keep (w' := wr) (fun p hp => hbel.cell (hS _ hp))
      have hcnt := mcnt_take hl1
      have hcnl := mcnt_le l (j + 1)
      have e5 : Mark.cnt l[j] = mcnt l[j] := rfl
      have hm := Hm.out
      have CM := Lib.hid (heldIntS_u l[j] m (by omega) (by omega) wr S (fun x hx => Nat.lt_of_lt_of_le (hS x hx) hbel.size) A1 _ c1 hr1)
      have Hcnt := Lib.hid hcnt
      have hmb : m + mcnt l[j] ≤ 100000000 := by omega
      clear hc hr hr1 hcnt hcnl hg hg2 hm e6
      go_wp2_with (go_at_call 20; refine CM.out.mono ?_; rintro e w1 ⟨rfl, hb1⟩)
      go_roundw
      case rel => exact ⟨j + 1, m + mcnt l[j], by omega, by go_num, rfl, by rw [Hcnt.out, e5, Hm.out]; omega, hbel.trans (hb1.mono hbel.size)⟩
      case measure => simp [intOf]; omega
    · obtain rfl : j = n := by omega
      go_wp2_with fail
      go_ret
      have e1 : l.take j = l := List.take_of_length_le (by have := Hn.out; omega)
      have hm := Hm.out
      rw [e1] at hm
      exact ⟨by rw [hm]; rfl, hbel⟩

end Go.Proofs.Ytmkhahiefdcinaa
