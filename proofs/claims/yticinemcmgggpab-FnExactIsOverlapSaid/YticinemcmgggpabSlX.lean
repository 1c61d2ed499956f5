/-
  slices.Index, Contains at []int.
-/
import Derived.Test.YticinemcmgggpabSlP
namespace Go.Proofs.Yticinemcmgggpab
open Go.ChangeShapes Go.WideShapes Go.ChangeAt Go.RowKit Go.BigFrame
set_option linter.unusedVariables false

theorem indexInt_any (l : List Int) (x : Int) (w : World) (S : Nat → Prop) (hS : ∀ b, S b → b < w.heap.size) (A : Option Addr) (n c : Nat) (hl0 : RepL w S l A n c) :
    Calls Try.prog 58 #[.slice A n c, .int .i64 x] w fun e w' => e = .returned (.int .i64 (idxP (fun y => y == x) l)) ∧ Below w.heap.size w w' := by
  have hbd := hl0.bd
  obtain ⟨hn, -⟩ := id hl0
  have Hn := Lib.hid hn
  clear hn
  go_enter Try.func58, Try.ntmps58
  go_wp2_with fail
  go_loopw [8] (fun i wr => ∃ k : Nat, k ≤ n ∧ i = .int .i64 k ∧ (∀ i y, i < k → l[i]? = some y → (y == x) = false) ∧ Below w.heap.size w wr) (fun i _ => n - (intOf i).toNat)
  case atStart => exact ⟨0, Nat.zero_le _, rfl, fun i y hi => absurd hi (by omega), Below.refl _ _⟩
  case round =>
    obtain ⟨k, hk, rfl, hpre, hbel⟩ := hrel
    have Hpre := Lib.hid hpre
    clear hpre
    by_cases hlt : k < n
    · have hl1 : k < l.length := by have := Hn.out; omega
      obtain ⟨b, off, rfl, hSb, hc, hok⟩ := hl0.at1 rfl hl1
      have hc0 : wr.cell? ⟨b, off + k, none⟩ = some (.int .i64 l[k]) := (hbel.cell (hS _ hSb)).trans (hc _ rfl)
      have Hk := Lib.hid (show l[k]? = some l[k] from List.getElem?_eq_getElem hl1)
      clear hc hok
      by_cases he : l[k] = x
      · have hd : (x == l[k]) = true := by simp [he]
        have Hf := Lib.hid (idxP_hit (p := fun y => y == x) Hpre.out Hk.out (by simp [he]))
        clear he
        go_wp2_with fail
        go_ret
        exact ⟨by rw [Hf.out]; rfl, hbel⟩
      · have hd : (x == l[k]) = false := by simp; omega
        have Hq := Lib.hid (show (l[k] == x) = false by simp [he])
        clear he
        go_wp2_with fail
        go_roundw
        case rel =>
          refine ⟨k + 1, by omega, by go_num, fun i y hi hy => ?_, hbel⟩
          by_cases hik : i = k
          · subst hik
            rw [Hk.out] at hy
            obtain rfl := Option.some.inj hy
            exact Hq.out
          · exact Hpre.out i y (by omega) hy
        case measure => simp [intOf]; omega
    · have Hf := Lib.hid (idxP_miss (p := fun y => y == x) (l := l) fun i y hi hy => Hpre.out i y (by have := Hn.out; omega) hy)
      go_wp2_with fail
      go_ret
      exact ⟨by rw [Hf.out]; rfl, hbel⟩

theorem containsInt_any (l : List Int) (x : Int) (r : Bool) (hr : l.any (fun y => y == x) = r) (w : World) (S : Nat → Prop) (hS : ∀ b, S b → b < w.heap.size) (A : Option Addr) (n c : Nat) (hl0 : RepL w S l A n c) :
    Calls Try.prog 52 #[.slice A n c, .int .i64 x] w fun e w' => e = .returned (.bool r) ∧ Below w.heap.size w w' := by
  have C1 := Lib.hid (indexInt_any l x w S hS A n c hl0)
  obtain ⟨q, hq⟩ : ∃ q, idxP (fun y => y == x) l = q := ⟨_, rfl⟩
  rw [hq] at C1
  have hd : decide (0 ≤ q) = r := by rw [← hq, idxP_any, hr]
  clear hq hr
  go_enter Try.func52, Try.ntmps52
  go_wp2_with fail
  refine C1.out.mono ?_
  rintro e w1 ⟨rfl, b1⟩
  go_wp2_with fail
  go_ret
  exact ⟨rfl, b1⟩

end Go.Proofs.Yticinemcmgggpab
