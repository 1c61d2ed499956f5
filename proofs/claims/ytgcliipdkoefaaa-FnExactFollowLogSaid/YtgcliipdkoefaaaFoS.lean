/-
  Contracts: l7Follow, FollowLog of the reference.
-/
import Derived.Test.YtgcliipdkoefaaaFoA
import Derived.Test.YtgcliipdkoefaaaFoQ
import Derived.Test.YtgcliipdkoefaaaFpS
import Derived.Test.YtgcliipdkoefaaaMlS
import Derived.Deep.RegionHeld3
namespace Go.Proofs.Ytgcliipdkoefaaa
open Go.ChangeShapes Go.WideShapes Go.ChangeAt Go.RowKit Go.BigFrame Go.Deep
set_option linter.unusedVariables false

set_option maxHeartbeats 1000000
set_option maxRecDepth 20000 in
theorem l7Follow_any (l l' : List IS) (hlen : l.length ≤ 40) (hlen' : l'.length ≤ 40) (w : World) (S : Nat → Prop) (hS : ∀ b, S b → b < w.heap.size) (A A' : Option Addr) (n c n' c' : Nat) (hl0 : RepL w S l A n c) (hl1 : RepL w S l' A' n' c') :
    Calls Try.prog 58 #[.slice A n c, .slice A' n' c'] w fun x w' => ∃ A2 c2, x = .returned (.tuple #[.slice A2 n' c2, .int .i64 (foAt l l')]) ∧ w'.ownsRow w.heap.size 52 2 (.slice A2 n' c2) n' (encs (foL l l')) ∧ RepL w' (fun b => w.heap.size ≤ b ∧ b < w'.heap.size) (foL l l') A2 n' c2 ∧ Below w.heap.size w w' := by
  obtain ⟨i0, hi, hz0, hz1, hz2⟩ := info_parts infoEntry
  have hbd := hl0.bd
  have hbd' := hl1.bd
  have hn := hl0.1
  have hn' := hl1.1
  obtain ⟨at_, hat⟩ : ∃ a, foAt l l' = a := ⟨_, rfl⟩
  obtain ⟨hf1, hf2, hf3⟩ := foAt_bd l l'
  rw [hat] at hf1 hf2 hf3 ⊢
  have hk1 : at_ ≤ n := by omega
  have hk2 : at_ ≤ n' := by omega
  have hkc1 : at_ ≤ c := by omega
  have hkc2 : at_ ≤ c' := by omega
  have hkI : (0 : Int) ≤ (at_ : Int) := by omega
  have hkI1 : (at_ : Int) ≤ (n : Int) := by omega
  have hkI2 : (at_ : Int) ≤ (n' : Int) := by omega
  have hkI3 : (at_ : Int) ≤ (c : Int) := by omega
  have hkI4 : (at_ : Int) ≤ (c' : Int) := by omega
  have hcI : (n' : Int) ≤ (c' : Int) := by omega
  have hn40 : n' ≤ 40 := by omega
  have Hf1 := Lib.hid (show (findL l (startsTo l' l'.length) (n' : Int)).1 = (at_ : Int) by rw [hn']; exact hf1)
  have Hn := Lib.hid hn
  have Hn' := Lib.hid hn'
  have Hat := Lib.hid hat
  clear hn hn' hat
  clear hf1 hf2 hf3
  go_enter Try.func58, Try.ntmps58
  go_wp2_with fail
  refine (l7Starts_any l' hlen' w S hS A' n' c' hl1).mono ?_
  rintro e w1 ⟨A3, m, c3, rfl, hm40, ⟨-, hr⟩, b1⟩
  have hr1 := hr.more (S' := fun b => S b ∨ (w.heap.size ≤ b ∧ b < w1.heap.size)) (fun _ h => .inr h)
  have h0 := (hl0.keep (w' := w1) (fun p hp => b1.cell (hS _ hp))).more (S' := fun b => S b ∨ (w.heap.size ≤ b ∧ b < w1.heap.size)) (fun _ h => .inl h)
  have hS1 : ∀ b, (S b ∨ (w.heap.size ≤ b ∧ b < w1.heap.size)) → b < w1.heap.size := fun b hb => by
    rcases hb with hb | hb
    · exact Nat.lt_of_lt_of_le (hS b hb) b1.size
    · exact hb.2
  have Hr := Lib.hid hr
  clear hr
  go_wp2_with fail
  refine (l7Find_any l hlen (startsTo l' l'.length) (n' : Int) ⟨by omega, by omega⟩ w1 _ hS1 A A3 n c m c3 h0 hr1).mono ?_
  rintro e w2 ⟨rfl, b2⟩
  rw [Hf1.out]
  have B2 := bnext b1 b2
  clear hr1 h0 hS1
  go_wp2_with fail
  have hbW : Below w.heap.size w (w2.alloc (.cells #[] 52)).drew := (B2.alloc B2.size _).drew
  have ht := Lib.hid ((hl0.keep (w' := (w2.alloc (.cells #[] 52)).drew) (fun p hp => hbW.cell (hS _ hp))).take_ hk1)
  have o0 := (World.ownsRow_lit (w2.drew) #[] 0 (Nat.le_refl _) (Nat.zero_le _) (by simp) : (w2.drew.alloc (.cells #[] 52)).ownsRow w2.heap.size 52 2 (.slice (some ⟨w2.heap.size, 0, none⟩) 0 0) 0 (encs ([] : List IS)))
  go_region_held3 (fun _ => True) (exact trivial) (first
    | (refine step_append_list _ (by rfl) _ _ _ (by rfl) w2.heap.size 52 i0 _ 2 24 Try.underlying26 hi hz0 hz1 hz2 (by rfl) (by omega) (by rfl) (.slice (some ⟨w2.heap.size, 0, none⟩) 0 0) [] 0 (by rfl) o0 S A at_ c (l.take at_) (by rfl) ht.out (by omega) (by omega) (by simp) ?_; intro v1 w3 hown1 hg1 hat1)
    | (refine step_append_list _ (by rfl) _ _ _ (by rfl) w2.heap.size 52 i0 _ 2 24 Try.underlying26 hi hz0 hz1 hz2 (by rfl) (by omega) (by rfl) v1 ([] ++ l.take at_) (0 + at_) (by rfl) hown1 S _ _ _ (l'.drop at_) (by rfl) (((sliceL hl1 hS (own_base o0 hbW B2.size hg1 hbW.size)).drop_if hk2 rfl)) (by omega) (by omega) (by have := hg1.size; simp at this; omega) ?_; intro v2 w4 hown2 hg2 hat2))
  have B3 := own_base o0 hbW B2.size hg1 hbW.size
  have B4 := own_base hown1 B3 B2.size hg2 B3.size
  have hlen2 : 0 + at_ + (n' - at_) = n' := by omega
  rw [hlen2, List.nil_append] at hown2
  obtain ⟨A4, c4, rfl⟩ := own_slice hown2
  have hfo : foL l l' = l.take at_ ++ l'.drop at_ := by unfold foL; rw [Hat.out]
  rw [← hfo] at hown2
  have hown3 : w4.ownsRow w.heap.size 52 2 (.slice A4 n' c4) n' (encs (foL l l')) := ⟨hown2.1, hown2.2.imp id fun ⟨g, cap, cur, e1, e2, e3⟩ => ⟨g, cap, cur, e1, Nat.le_trans B2.size e2, e3⟩⟩
  have Hown2 := Lib.hid hown2
  have Hown3 := Lib.hid hown3
  have Hfo := Lib.hid hfo
  clear hown2 hown3 hfo
  go_wp2_with fail
  all_goals
    go_ret2
    refine ⟨A4, c4, rfl, Hown3.out, RepL.of_own' rfl (by rw [foL_len]; exact Hn'.out) Hown3.out fun a ha => ?_, B4⟩
    unfold foL at ha
    rcases List.mem_append.1 ha with ha | ha
    · exact hl0.ok a (List.mem_of_mem_take ha)
    · exact hl1.ok a (List.mem_of_mem_drop ha)
/-- What FollowLog answers. -/
noncomputable def foAns (l l' : List IS) : List IS := if goodEn l && goodEn l' then foL l l' else []
noncomputable def foPl (l l' : List IS) : Int := if goodEn l && goodEn l' then foAt l l' else 0
/-- Entries that the call has made. -/
def MadeE (w w' : World) (T : TypeId) (l : List IS) (A : Option Addr) (n c : Nat) : Prop :=
  w'.ownsRow w.heap.size T 2 (.slice A n c) n (encs l) ∧ RepL w' (fun b => w.heap.size ≤ b ∧ b < w'.heap.size) l A n c
theorem MadeE.from_ {w w0 w' : World} {T : TypeId} {l : List IS} {A : Option Addr} {n c : Nat} (h : MadeE w w' T l A n c) (hs : w0.heap.size ≤ w.heap.size) : MadeE w0 w' T l A n c :=
  ⟨⟨h.1.1, h.1.2.imp id fun ⟨g, cap, cur, e1, e2, e3⟩ => ⟨g, cap, cur, e1, Nat.le_trans hs e2, e3⟩⟩, h.2.more fun b hb => ⟨Nat.le_trans hs hb.1, hb.2⟩⟩
theorem MadeE.nil_ (w w' : World) (T : TypeId) : MadeE w w' T [] none 0 0 :=
  ⟨World.ownsRow_nil _ _ _ _, RepL.of_own' (e := T) (base := w.heap.size) (s := 2) rfl rfl (World.ownsRow_nil _ _ _ _) (fun a ha => by cases ha)⟩
theorem spec_FollowLog_any (l l' : List IS) (w : World) (S : Nat → Prop) (hS : ∀ b, S b → b < w.heap.size) (A A' : Option Addr) (n c n' c' : Nat) (hl0 : RepL w S l A n c) (hl1 : RepL w S l' A' n' c') :
    Calls Try.prog 24 #[.slice A n c, .slice A' n' c'] w fun x w' => ∃ A2 m c2, x = .returned (.tuple #[.slice A2 m c2, .int .i64 (foPl l l'), .bool (goodEn l && goodEn l')]) ∧ m ≤ 40 ∧ MadeE w w' 52 (foAns l l') A2 m c2 ∧ Below w.heap.size w w' := by
  obtain ⟨r, hr⟩ : ∃ r, (goodEn l && goodEn l') = r := ⟨_, rfl⟩
  have C1 := Lib.hid (l7Both_any l l' w S hS A A' n c n' c' hl0 hl1)
  rw [hr] at C1 ⊢
  have hn' := hl1.1
  have Hr := Lib.hid hr
  have Hn' := Lib.hid hn'
  clear hr hn'
  cases r with
  | false =>
    go_enter Try.func24, Try.ntmps24
    go_wp2_with fail
    refine (C1.out).mono ?_
    rintro e w1 ⟨rfl, b1⟩
    go_wp2_with fail
    go_ret3
    exact ⟨none, 0, 0, by unfold foPl; rw [Hr.out]; rfl, by omega, by unfold foAns; rw [Hr.out]; exact MadeE.nil_ _ _ _, b1⟩
  | true =>
    have hg := Hr.out
    rw [Bool.and_eq_true] at hg
    have hlen := goodEn_len hg.1
    have hlen' := goodEn_len hg.2
    clear hg
    go_enter Try.func24, Try.ntmps24
    go_wp2_with fail
    refine (C1.out).mono ?_
    rintro e w1 ⟨rfl, b1⟩
    go_wp2_with fail
    refine (l7Follow_any l l' hlen hlen' w1 S (fun b hb => Nat.lt_of_lt_of_le (hS b hb) b1.size) A A' n c n' c' (hl0.keep (fun p hp => b1.cell (hS _ hp))) (hl1.keep (fun p hp => b1.cell (hS _ hp)))).mono ?_
    rintro e w2 ⟨A2, c2, rfl, ho, hr2, b2⟩
    have Ho := Lib.hid ho
    have Hr2 := Lib.hid hr2
    clear ho hr2
    go_wp2_with fail
    go_ret3
    exact ⟨A2, n', c2, by unfold foPl; rw [Hr.out]; rfl, by have := Hn'.out; omega, by unfold foAns; rw [Hr.out]; exact MadeE.from_ ⟨Ho.out, Hr2.out⟩ b1.size, bnext b1 b2⟩
end Go.Proofs.Ytgcliipdkoefaaa
