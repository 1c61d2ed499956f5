/-
  slices.IndexFunc, ContainsFunc at []int.
-/
import Derived.Test.YtmkhahiefdcinaaSlP
namespace Go.Proofs.Ytmkhahiefdcinaa
open Go.ChangeShapes Go.WideShapes Go.ChangeAt Go.RowKit Go.BigFrame
set_option linter.unusedVariables false


theorem indexFuncInt_any (p : Int → Bool) (gg : Nat) (lb : Array Value) (eg : ∀ args w, (callFunc gg args).run Try.prog w = .ok (.enter gg args) w) (l : List Int) (w : World) (S : Nat → Prop) (hS : ∀ b, S b → b < w.heap.size) (A : Option Addr) (n c : Nat) (hl0 : RepL w S l A n c)
    (hp : Pred Try.prog gg lb (fun x : Int => .int .i64 x) Flat.ok p w) :
    Calls Try.prog 75 #[.slice A n c, .func (.func gg) #[] lb] w fun x w' => x = .returned (.int .i64 (idxP p l)) ∧ Below w.heap.size w w' := by
  have hbd := hl0.bd
  obtain ⟨hn, -⟩ := id hl0
  have Hn := Lib.hid hn
  have Hp := Lib.hid hp
  clear hn hp
  go_enter Try.func75, Try.ntmps75
  go_wp2_with fail
  go_loopw [8] (fun i wr => ∃ k : Nat, k ≤ n ∧ i = .int .i64 k ∧ (∀ i y, i < k → l[i]? = some y → p y = false) ∧ Below w.heap.size w wr) (fun i _ => n - (intOf i).toNat)
  case atStart => exact ⟨0, Nat.zero_le _, rfl, fun i y hi => absurd hi (by omega), Below.refl _ _⟩
  case round =>
    obtain ⟨k, hk, rfl, hpre, hbel⟩ := hrel
    have Hpre := Lib.hid hpre
    clear hpre
    by_cases hlt : k < n
    · have hl1 : k < l.length := by have := Hn.out; omega
      obtain ⟨b, off, rfl, hSb, hc, hok⟩ := hl0.at1 rfl hl1
      have hc0 : wr.cell? ⟨b, off + k, none⟩ = some (.int .i64 l[k]) := (hbel.cell (hS _ hSb)).trans (hc _ rfl)
      have Hk := Lib.hid (show l[k]? = some l[k] from List.getElem?_eq_getElem hl1)
      have Hc := Lib.hid (Hp.out wr l[k] hok hbel)
      clear hc hok
      cases hq : p l[k] with
      | true =>
        rw [hq] at Hc
        have Hf := Lib.hid (idxP_hit Hpre.out Hk.out hq)
        clear hq
        go_wp2_with (go_at_fn gg; refine Hc.out.mono ?_; rintro e w1 ⟨rfl, b1⟩)
        go_ret
        exact ⟨by rw [Hf.out]; rfl, hbel.trans (b1.mono hbel.size)⟩
      | false =>
        rw [hq] at Hc
        have Hq := Lib.hid hq
        clear hq
        go_wp2_with (go_at_fn gg; refine Hc.out.mono ?_; rintro e w1 ⟨rfl, b1⟩)
        go_roundw
        case rel =>
          refine ⟨k + 1, by omega, by go_num, fun i y hi hy => ?_, hbel.trans (b1.mono hbel.size)⟩
          by_cases hik : i = k
          · subst hik
            rw [Hk.out] at hy
            obtain rfl := Option.some.inj hy
            exact Hq.out
          · exact Hpre.out i y (by omega) hy
        case measure => simp [intOf]; omega
    · have Hf := Lib.hid (idxP_miss (p := p) (l := l) fun i y hi hy => Hpre.out i y (by have := Hn.out; omega) hy)
      go_wp2_with fail
      go_ret
      exact ⟨by rw [Hf.out]; rfl, hbel⟩

theorem containsFuncInt_any (p : Int → Bool) (gg : Nat) (lb : Array Value) (eg : ∀ args w, (callFunc gg args).run Try.prog w = .ok (.enter gg args) w) (l : List Int) (w : World) (S : Nat → Prop) (hS : ∀ b, S b → b < w.heap.size) (A : Option Addr) (n c : Nat) (hl0 : RepL w S l A n c)
    (hp : Pred Try.prog gg lb (fun x : Int => .int .i64 x) Flat.ok p w) (r : Bool) (hr : l.any p = r) :
    Calls Try.prog 70 #[.slice A n c, .func (.func gg) #[] lb] w fun x w' => x = .returned (.bool r) ∧ Below w.heap.size w w' := by
  have C1 := Lib.hid (indexFuncInt_any p gg lb eg l w S hS A n c hl0 hp)
  obtain ⟨q, hq⟩ : ∃ q, idxP p l = q := ⟨_, rfl⟩
  rw [hq] at C1
  have hd : decide (0 ≤ q) = r := by rw [← hq, idxP_any, hr]
  clear hq hr hp
  go_enter Try.func70, Try.ntmps70
  go_wp2_with fail
  refine C1.out.mono ?_
  rintro e w1 ⟨rfl, b1⟩
  go_wp2_with fail
  go_ret
  exact ⟨rfl, b1⟩

end Go.Proofs.Ytmkhahiefdcinaa
