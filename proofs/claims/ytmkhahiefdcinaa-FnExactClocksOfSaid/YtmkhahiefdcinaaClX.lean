/-
  Contracts: ClocksOf of the reference and of the program.
-/
import Derived.Test.YtmkhahiefdcinaaClI
namespace Go.Proofs.Ytmkhahiefdcinaa
open Go.ChangeShapes Go.WideShapes Go.ChangeAt Go.RowKit Go.BigFrame Go.Deep
set_option linter.unusedVariables false

set_option maxHeartbeats 1000000
theorem ck_cnt (nodes : Int) (l : List P2) : mcnt (ckOf nodes l) ≤ 1000 := by
  unfold ckOf
  split
  · rename_i h
    obtain ⟨h1, h2, h3, -⟩ := goodEv_get h
    have key : ∀ k, mcnt (ckTo nodes.toNat l k) ≤ 5 * k := by
      intro k
      induction k with
      | zero => exact Nat.le_refl _
      | succ k ih =>
        have hm := ckTo_is nodes.toNat l (k + 1) _ (List.getElem_mem (by rw [ckTo_len]; omega : k < (ckTo nodes.toNat l (k + 1)).length))
        have hc := mcnt_take (l := ckTo nodes.toNat l (k + 1)) (j := k) (by rw [ckTo_len]; omega)
        rw [ckTo_take _ _ (by omega : k ≤ k + 1), List.take_of_length_le (by rw [ckTo_len]; omega)] at hc
        have e : ∀ c : List Int, Mark.cnt c = c.length := fun c => mcnt_int c
        rw [e, hm.1] at hc
        omega
    have := key l.length
    omega
  · exact Nat.zero_le _
theorem OwnL.nil_ {α : Type} [Rep α] [Own α] (w : World) : OwnL w [] ([] : List α) none 0 0 := by
  have := OwnL.mk_ (α := α) (w := w) (l := []) (n := 0) (e := 0) (base := 0) rfl (World.ownsRow_nil _ _ _ _) (⟨rfl, rfl⟩ : OwnEls w ([] : List α) [] [])
  simpa [Value.ownBlock] using this

theorem spec_ClocksOf_any (nodes : Int) (hnodes : I64 nodes) (l : List P2) (w : World) (S : Nat → Prop) (hS : ∀ b, S b → b < w.heap.size) (A : Option Addr) (n c : Nat) (hl0 : RepL w S l A n c) :
    Calls Try.prog 24 #[.int .i64 nodes, .slice A n c] w fun x w' => ∃ A2 m c2 B, x = .returned (.tuple #[.slice A2 m c2, .bool (goodEv nodes l)]) ∧ m ≤ 40 ∧ OwnL w' B (ckOf nodes l) A2 m c2 ∧ B.Nodup ∧ (∀ b ∈ B, w.heap.size ≤ b) ∧ Below w.heap.size w w' := by
  obtain ⟨r0, hr0⟩ : ∃ r, goodEv nodes l = r := ⟨_, rfl⟩
  have C1 := Lib.hid (spec_GoodEvents_any nodes hnodes l w S hS A n c hl0)
  rw [hr0] at C1 ⊢
  have R0 := Lib.hid hr0
  clear hr0
  cases r0 with
  | false =>
    have Hf := Lib.hid (show ckOf nodes l = [] by unfold ckOf; rw [R0.out]; rfl)
    go_enter Try.func24, Try.ntmps24
    go_wp2_with fail
    refine (C1.out).mono ?_
    rintro e w1 ⟨rfl, b1⟩
    go_wp2_with fail
    go_ret2
    exact ⟨none, 0, 0, [], rfl, by omega, by rw [Hf.out]; exact OwnL.nil_ _, List.nodup_nil, fun b hb => (nomatch hb), b1⟩
  | true =>
    obtain ⟨hg1, hg2, hg3, hg4⟩ := goodEv_get R0.out
    obtain ⟨N, rfl⟩ := Int.eq_ofNat_of_zero_le (show 0 ≤ nodes by omega)
    have hn := hl0.1
    have Hf := Lib.hid (show ckOf (N : Int) l = ckTo N l n by unfold ckOf; rw [R0.out, Int.toNat_natCast, hn]; rfl)
    have hn40 : n ≤ 40 := by omega
    have Hev := Lib.hid (fun (i : Nat) (hi : i < l.length) (e : P2) (he : l[i]? = some e) => (show 0 ≤ e.a ∧ e.a ≤ (N : Int) - 1 ∧ -1 ≤ e.b ∧ e.b ≤ (i : Int) - 1 from let h := hg4 i hi e he; ⟨h.1, h.2.1, h.2.2.1, h.2.2.2.1⟩))
    have Hn := Lib.hid hn
    clear hn
    clear hg4
    go_enter Try.func24, Try.ntmps24
    go_wp2_with fail
    refine (C1.out).mono ?_
    rintro e w1 ⟨rfl, b1⟩
    go_wp2_with fail
    refine (l11Clocks_any N (by omega) (by omega) l Hev.out hg3 w1 S (fun b hb => Nat.lt_of_lt_of_le (hS b hb) b1.size) A n c (hl0.keep (fun p hp => b1.cell (hS _ hp)))).mono ?_
    rintro e w2 ⟨A2, c2, B, rfl, hO, hnd, hlo, b2⟩
    have HO' := Lib.hid hO
    have Hnd := Lib.hid hnd
    have Hlo := Lib.hid hlo
    clear hO hnd hlo
    go_wp2_with fail
    go_ret2
    exact ⟨A2, n, c2, B, rfl, hn40, by rw [Hf.out]; exact HO'.out, Hnd.out, fun b hb => Nat.le_trans b1.size (Hlo.out b hb), bnext b1 b2⟩

theorem impl_ClocksOf_any (nodes : Int) (hnodes : I64 nodes) (l : List P2) (w : World) (S : Nat → Prop) (hS : ∀ b, S b → b < w.heap.size) (A : Option Addr) (n c : Nat) (hl0 : RepL w S l A n c) :
    Calls Try.prog 25 #[.int .i64 nodes, .slice A n c] w fun x w' => ∃ A2 m c2 B, x = .returned (.tuple #[.slice A2 m c2, .bool (goodEv nodes l)]) ∧ m ≤ 40 ∧ OwnL w' B (ckOf nodes l) A2 m c2 ∧ B.Nodup ∧ (∀ b ∈ B, w.heap.size ≤ b) ∧ Below w.heap.size w w' := by
  obtain ⟨r0, hr0⟩ : ∃ r, goodEv nodes l = r := ⟨_, rfl⟩
  have C1 := Lib.hid (areEvents_any nodes hnodes l w S hS A n c hl0)
  rw [hr0] at C1 ⊢
  have R0 := Lib.hid hr0
  clear hr0
  cases r0 with
  | false =>
    have Hf := Lib.hid (show ckOf nodes l = [] by unfold ckOf; rw [R0.out]; rfl)
    go_enter Try.func25, Try.ntmps25
    go_wp2_with fail
    refine (C1.out).mono ?_
    rintro e w1 ⟨rfl, b1⟩
    go_wp2_with fail
    go_ret2
    exact ⟨none, 0, 0, [], rfl, by omega, by rw [Hf.out]; exact OwnL.nil_ _, List.nodup_nil, fun b hb => (nomatch hb), b1⟩
  | true =>
    obtain ⟨hg1, hg2, hg3, hg4⟩ := goodEv_get R0.out
    obtain ⟨N, rfl⟩ := Int.eq_ofNat_of_zero_le (show 0 ≤ nodes by omega)
    have hn := hl0.1
    have Hf := Lib.hid (show ckOf (N : Int) l = ckTo N l n by unfold ckOf; rw [R0.out, Int.toNat_natCast, hn]; rfl)
    have hn40 : n ≤ 40 := by omega
    have Hev := Lib.hid (fun (i : Nat) (hi : i < l.length) (e : P2) (he : l[i]? = some e) => (show 0 ≤ e.a ∧ e.a ≤ (N : Int) - 1 ∧ -1 ≤ e.b ∧ e.b ≤ (i : Int) - 1 from let h := hg4 i hi e he; ⟨h.1, h.2.1, h.2.2.1, h.2.2.2.1⟩))
    have Hn := Lib.hid hn
    clear hn
    clear hg4
    go_enter Try.func25, Try.ntmps25
    go_wp2_with fail
    refine (C1.out).mono ?_
    rintro e w1 ⟨rfl, b1⟩
    go_wp2_with fail
    refine (clocksOf_any N (by omega) (by omega) l Hev.out hg3 w1 S (fun b hb => Nat.lt_of_lt_of_le (hS b hb) b1.size) A n c (hl0.keep (fun p hp => b1.cell (hS _ hp)))).mono ?_
    rintro e w2 ⟨A2, c2, B, rfl, hO, hnd, hlo, b2⟩
    have HO' := Lib.hid hO
    have Hnd := Lib.hid hnd
    have Hlo := Lib.hid hlo
    clear hO hnd hlo
    go_wp2_with fail
    go_ret2
    exact ⟨A2, n, c2, B, rfl, hn40, by rw [Hf.out]; exact HO'.out, Hnd.out, fun b hb => Nat.le_trans b1.size (Hlo.out b hb), bnext b1 b2⟩
end Go.Proofs.Ytmkhahiefdcinaa
