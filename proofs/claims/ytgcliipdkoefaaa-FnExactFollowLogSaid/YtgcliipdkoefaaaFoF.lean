/-
  Contract: FollowLog of the program.
-/
import Derived.Test.YtgcliipdkoefaaaFoS
import Derived.Test.YtgcliipdkoefaaaFpF
import Derived.Test.YtgcliipdkoefaaaSlE
import Derived.Deep.RegionHeld3
namespace Go.Proofs.Ytgcliipdkoefaaa
open Go.ChangeShapes Go.WideShapes Go.ChangeAt Go.RowKit Go.BigFrame Go.Deep
set_option linter.unusedVariables false

set_option maxHeartbeats 1000000
theorem concatEnt2 (a b : List IS) (w w0 : World) (hb0 : Below w0.heap.size w0 w) (S : Nat → Prop) (hS : ∀ b, S b → b < w0.heap.size) (A A' : Option Addr) (n c n' c' : Nat) (h0 : RepL w0 S a A n c) (h1 : RepL w0 S b A' n' c') (hsm : n + n' ≤ 1000000) :
    Calls Try.prog 59 #[.slice (some ⟨w.heap.size, 0, none⟩) 2 2] (w.alloc (.cells #[.slice A n c, .slice A' n' c'] 26)).drew fun x w' => ∃ A2 c2, x = .returned (.slice A2 (n + n') c2) ∧ MadeE w0 w' 52 (a ++ b) A2 (n + n') c2 ∧ Below w0.heap.size w0 w' := by
  obtain ⟨W, hW⟩ : ∃ W, W = (w.alloc (.cells #[.slice A n c, .slice A' n' c'] 26)).drew := ⟨_, rfl⟩
  have bW : Below w0.heap.size w0 W := by rw [hW]; exact (hb0.alloc hb0.size _).drew
  have hg : W.heap[w.heap.size]? = some (.cells #[.slice A n c, .slice A' n' c'] 26 (0, 0)) := by rw [hW]; exact heap_alloc_new w _
  have h2 := RepL.two_ (h0.keep (w' := W) (fun p hp => bW.cell (hS _ hp))) (h1.keep (w' := W) (fun p hp => bW.cell (hS _ hp))) hg
  have hlt : w.heap.size < W.heap.size := (Array.getElem?_eq_some_iff.1 hg).1
  have ht : total [a, b] = n + n' := by unfold total; simp; rw [h0.1, h1.1]
  rw [← hW]
  refine (concatEnt_any [a, b] W _ (fun x hx => by rcases hx with hx | rfl; (· exact Nat.lt_of_lt_of_le (hS _ hx) bW.size); exact hlt) _ _ _ h2 (by omega)).mono ?_
  rintro e w2 ⟨A2, c2, rfl, o2, r2, b2⟩
  rw [ht] at o2 r2
  have hf : [a, b].flatten = a ++ b := by simp
  rw [hf] at o2 r2
  exact ⟨A2, c2, by rw [ht], MadeE.from_ ⟨o2, r2⟩ bW.size, bnext bW b2⟩
set_option maxRecDepth 20000 in
theorem impl_FollowLog_any (l l' : List IS) (w : World) (S : Nat → Prop) (hS : ∀ b, S b → b < w.heap.size) (A A' : Option Addr) (n c n' c' : Nat) (hl0 : RepL w S l A n c) (hl1 : RepL w S l' A' n' c') :
    Calls Try.prog 25 #[.slice A n c, .slice A' n' c'] w fun x w' => ∃ A2 m c2, x = .returned (.tuple #[.slice A2 m c2, .int .i64 (foPl l l'), .bool (goodEn l && goodEn l')]) ∧ m ≤ 40 ∧ MadeE w w' 52 (foAns l l') A2 m c2 ∧ Below w.heap.size w w' := by
  obtain ⟨r, hr⟩ : ∃ r, goodEn l = r := ⟨_, rfl⟩
  obtain ⟨r', hr'⟩ : ∃ r, goodEn l' = r := ⟨_, rfl⟩
  have C1 := Lib.hid (fun w S hS h => areEntries_any l w S hS A n c h)
  have C2 := Lib.hid (fun w S hS h => areEntries_any l' w S hS A' n' c' h)
  have hP : foPl l l' = if (r && r') then (foAt l l' : Int) else 0 := by unfold foPl; rw [hr, hr']
  have hA : foAns l l' = if (r && r') then foL l l' else [] := by unfold foAns; rw [hr, hr']
  rw [hr, hr', hP, hA]
  rw [hr] at C1
  rw [hr'] at C2
  have hbd := hl0.bd
  have hbd' := hl1.bd
  have hn := hl0.1
  have hn' := hl1.1
  have Hr := Lib.hid hr
  have Hr' := Lib.hid hr'
  clear hr hr'
  clear hP hA
  cases r with
  | false =>
    have Hn := Lib.hid hn
    have Hn' := Lib.hid hn'
    clear hn hn'
    go_enter Try.func25, Try.ntmps25
    go_wp2_with fail
    refine (C1.out w S hS hl0).mono ?_
    rintro e w1 ⟨rfl, b1⟩
    go_wp2_with fail
    go_ret3
    exact ⟨none, 0, 0, rfl, by omega, MadeE.nil_ _ _ _, b1⟩
  | true =>
    cases r' with
    | false =>
      have Hn := Lib.hid hn
      have Hn' := Lib.hid hn'
      clear hn hn'
      go_enter Try.func25, Try.ntmps25
      go_wp2_with fail
      refine (C1.out w S hS hl0).mono ?_
      rintro e w1 ⟨rfl, b1⟩
      go_wp2_with fail
      refine (C2.out w1 S (fun b hb => Nat.lt_of_lt_of_le (hS b hb) b1.size) (hl1.keep (fun p hp => b1.cell (hS _ hp)))).mono ?_
      rintro e w2 ⟨rfl, b2⟩
      go_wp2_with fail
      go_ret3
      exact ⟨none, 0, 0, rfl, by omega, MadeE.nil_ _ _ _, bnext b1 b2⟩
    | true =>
      have hlen := goodEn_len Hr.out
      have hlen' := goodEn_len Hr'.out
      obtain ⟨at_, hat⟩ : ∃ a, foAt l l' = a := ⟨_, rfl⟩
      obtain ⟨hf1, hf2, hf3⟩ := foAt_bd l l'
      rw [hat] at hf1 hf2 hf3 ⊢
      have hk1 : at_ ≤ n := by omega
      have hk2 : at_ ≤ n' := by omega
      have hkI : (0 : Int) ≤ (at_ : Int) := by omega
      have hkI1 : (at_ : Int) ≤ (n : Int) := by omega
      have hkI2 : (at_ : Int) ≤ (n' : Int) := by omega
      have hkI3 : (at_ : Int) ≤ (c : Int) := by omega
      have hkI4 : (at_ : Int) ≤ (c' : Int) := by omega
      have hcI : (n' : Int) ≤ (c' : Int) := by omega
      have hn40 : n' ≤ 40 := by omega
      have Hf1 := Lib.hid (show (findL l (startsTo l' l'.length) (n' : Int)).1 = (at_ : Int) by rw [hn']; exact hf1)
      have Htot := Lib.hid (show total [l.take at_, l'.drop at_] = n' by unfold total; simp; omega)
      have Hn := Lib.hid hn
      have Hn' := Lib.hid hn'
      have Hat := Lib.hid hat
      clear hn hn' hat
      clear hf1 hf2 hf3
      go_enter Try.func25, Try.ntmps25
      go_wp2_with fail
      refine (C1.out w S hS hl0).mono ?_
      rintro e w1 ⟨rfl, b1⟩
      go_wp2_with fail
      refine (C2.out w1 S (fun b hb => Nat.lt_of_lt_of_le (hS b hb) b1.size) (hl1.keep (fun p hp => b1.cell (hS _ hp)))).mono ?_
      rintro e w2 ⟨rfl, b2⟩
      have B2 := bnext b1 b2
      go_wp2_with fail
      refine (startsOf_any l' hlen' w2 S (fun b hb => Nat.lt_of_lt_of_le (hS b hb) B2.size) A' n' c' (hl1.keep (fun p hp => B2.cell (hS _ hp)))).mono ?_
      rintro e w3 ⟨A3, m, c3, rfl, hm40, ⟨-, hrs⟩, b3⟩
      have B3 := bnext B2 b3
      have hr1 := hrs.more (S' := fun b => S b ∨ (w2.heap.size ≤ b ∧ b < w3.heap.size)) (fun _ h => .inr h)
      have h0 := (hl0.keep (w' := w3) (fun p hp => B3.cell (hS _ hp))).more (S' := fun b => S b ∨ (w2.heap.size ≤ b ∧ b < w3.heap.size)) (fun _ h => .inl h)
      have hS3 : ∀ b, (S b ∨ (w2.heap.size ≤ b ∧ b < w3.heap.size)) → b < w3.heap.size := fun b hb => by
        rcases hb with hb | hb
        · exact Nat.lt_of_lt_of_le (hS b hb) B3.size
        · exact hb.2
      have Hrs := Lib.hid hrs
      clear hrs
      go_wp2_with fail
      refine (findPart_any l Hr.out hlen (startsTo l' l'.length) (n' : Int) ⟨by omega, by omega⟩ w3 _ hS3 A A3 n c m c3 h0 hr1).mono ?_
      rintro e w4 ⟨rfl, b4⟩
      rw [Hf1.out]
      have B4 := bnext B3 b4
      clear hr1 h0 hS3
      go_wp2_with fail
      have hfo : foL l l' = l.take at_ ++ l'.drop at_ := by unfold foL; rw [Hat.out]
      have hnn : at_ + (n' - at_) = n' := by omega
      have hd := hl1.drop_if hk2 (rfl : 2 = Rep.size IS)
      have ht := hl0.take_ hk1
      by_cases hcc : c' = at_
      · rw [if_pos hcc, show c' - at_ = 0 by omega] at hd
        have HC := concatEnt2 _ _ w4 w B4 S hS _ _ _ _ _ _ ht hd (by omega)
        rw [← hfo, hnn] at HC
        have HC' := Lib.hid HC
        clear HC hfo hnn
        clear hd ht
        go_region_held3 (fun _ => True) (exact trivial) ((go_at_call 59; refine HC'.out.mono ?_; rintro e w5 ⟨A2, c2, rfl, hm, b5⟩))
        go_wp2_with fail
        go_ret3
        exact ⟨A2, n', c2, rfl, hn40, hm, b5⟩
      · rw [if_neg hcc] at hd
        have HC := concatEnt2 _ _ w4 w B4 S hS _ _ _ _ _ _ ht hd (by omega)
        rw [← hfo, hnn] at HC
        have HC' := Lib.hid HC
        clear HC hfo hnn
        clear hd ht
        go_region_held3 (fun _ => True) (exact trivial) ((go_at_call 59; refine HC'.out.mono ?_; rintro e w5 ⟨A2, c2, rfl, hm, b5⟩))
        go_wp2_with fail
        go_ret3
        exact ⟨A2, n', c2, rfl, hn40, hm, b5⟩
end Go.Proofs.Ytgcliipdkoefaaa
