/-
  slices.Clone at []int.
-/
import Derived.Test.YtmkhahiefdcinaaApp
namespace Go.Proofs.Ytmkhahiefdcinaa
open Go.ChangeShapes Go.WideShapes Go.ChangeAt Go.RowKit Go.BigFrame
set_option linter.unusedVariables false


theorem cloneInt_any (l : List Int) (w : World) (S : Nat → Prop) (hS : ∀ b, S b → b < w.heap.size) (A : Option Addr) (n c : Nat) (hl0 : RepL w S l A n c) (hsm : n ≤ 100000000) :
    Calls Try.prog 65 #[.slice A n c] w fun x w' => ∃ A' c', x = .returned (.slice A' n c') ∧ w'.ownsRow w.heap.size 3 1 (.slice A' n c') n (encs l) ∧ RepL w' (fun b => w.heap.size ≤ b ∧ b < w'.heap.size) l A' n c' ∧ Below w.heap.size w w' := by
  have hinfo : (Try.prog.info? 3).map (fun i => (i.zero, i.size, i.bytes)) = some (some (.int .i64 0), 1, 8) := by kernel_rfl
  obtain ⟨i0, hi, hz0, hz1, hz2⟩ := info_parts hinfo
  have hbd := hl0.bd
  obtain ⟨hn, -⟩ := id hl0
  have Hn := Lib.hid hn
  clear hn
  have heq := fun W : World => Lib.run_eql_slice_nil (P := Try.prog) W 30 3 A n c 0 0 Try.underlying30
  cases A with
  | none =>
    obtain ⟨rfl, rfl⟩ := hl0.none_
    go_enter Try.func65, Try.ntmps65
    go_wp2
    go_ret
    exact ⟨none, 0, rfl, World.ownsRow_nil _ _ _ _, RepL.of_own' (e := 3) (base := w.heap.size) rfl rfl (World.ownsRow_nil _ _ _ _) hl0.ok, Below.refl _ _⟩
  | some ad =>
    have hr := Lib.hid (hl0.keep (w' := w.alloc (.cells #[] 3)) (fun p hp => World.cell?_alloc_lt w _ p (hS _ hp)))
    go_enter Try.func65, Try.ntmps65
    go_wp2_with (at_builtin; refine wpList_append_list (α := Int) _ rfl (.tmp 5) (.tmp 6) _ rfl w.heap.size 3 i0 _ 1 8 Try.underlying30 hi hz0 hz1 hz2 rfl (by omega) rfl (.slice (some ⟨w.heap.size, 0, none⟩) 0 0) [] 0 rfl (World.ownsRow_lit w #[] 0 (Nat.le_refl _) (Nat.zero_le _) rfl) S (some ad) n c l rfl hr.out (by omega) (by omega) (by simp) ?_; intro v1 w1 hown1 hg1 hat1)
    go_ret
    simp only [Nat.zero_add, List.nil_append] at hown1
    obtain ⟨A', c', rfl⟩ := own_slice hown1
    refine ⟨A', c', rfl, hown1, RepL.of_own' rfl Hn.out hown1 hl0.ok, ?_⟩
    exact ((Below.refl _ w).alloc (Nat.le_refl _) (.cells #[] 3)).grown hg1 (by simp) (fun k hk => by simp [Value.ownBlock] at hk; omega)

end Go.Proofs.Ytmkhahiefdcinaa
