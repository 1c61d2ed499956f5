/-
  Marks on lists of integers, in the form of XOwn.
-/
import Derived.Test.YtmkhahiefdcinaaOwn
import Derived.Test.YtmkhahiefdcinaaInM
namespace Go.Proofs.Ytmkhahiefdcinaa
open Go.ChangeShapes Go.WideShapes Go.ChangeAt Go.RowKit Go.BigFrame Go.Deep
set_option linter.unusedVariables false

instance : Mark Int := ⟨fun _ => 1, fun k _ => (k : Int)⟩
theorem mcnt_int (l : List Int) : mcnt l = l.length := by
  unfold mcnt
  induction l with
  | nil => rfl
  | cons a l ih => rw [List.map_cons, List.sum_cons, ih, List.length_cons]; show 1 + _ = _; omega
theorem mkL_int (k : Nat) (l : List Int) : mkL k l = ups (k : Int) l.length := by
  apply List.ext_getElem?
  intro i
  by_cases h : i < l.length
  · rw [mkL_get h, List.getElem?_eq_getElem (by rw [ups_len]; exact h), ups_get, mcnt_int, List.length_take, Nat.min_eq_left (by omega)]
    show some (((k + i : Nat)) : Int) = _
    rw [Int.natCast_add]
  · rw [List.getElem?_eq_none (by rw [mkL_len]; omega), List.getElem?_eq_none (by rw [ups_len]; omega)]
/-- Of a flat list that is owned. -/
theorem OwnL.flat_open {α : Type} [Flat α] {w : World} {l : List α} {A : Option Addr} {n c : Nat} {C : List Nat} (h : OwnL w C l A n c) : ∃ e, w.ownsRow 0 e (Flat.size α) (.slice A n c) n (encs l) ∧ C = (Value.slice A n c).ownBlock.toList ∧ ∀ a ∈ l, Flat.ok a := by
  obtain ⟨xs, Bs, e, h1, h2, h3⟩ := h.open_
  obtain ⟨k1, k2, k3⟩ := ownEls_flat.1 h2
  subst k1 k2
  exact ⟨e, h1, by rw [h3, List.append_nil], k3⟩
theorem markIntS_u (l : List Int) (k : Nat) (h0 : 0 < k) (h1 : k + mcnt l ≤ 100000000) (w : World) (C : List Nat) (hC : C.Nodup) (A : Option Addr) (n c : Nat) (h : OwnL w C l A n c) :
    Calls Try.prog 19 #[.slice A n c, .int .i64 k] w fun e w' => e = .returned (.int .i64 ((k + mcnt l : Nat) : Int)) ∧ OwnL w' C (mkL k l) A n c ∧ Touch C w w' := by
  obtain ⟨e, ho, hCe, hok⟩ := h.flat_open
  have hn := h.1
  rw [mcnt_int] at h1 ⊢
  have key := markIntS_anyE l k e (by omega) (by omega) w 0 A n c hn (by omega) ho
  refine key.mono ?_
  rintro e' w' ⟨rfl, q, gr, hs⟩
  refine ⟨by rw [hn]; rfl, ?_, Touch.grown gr (fun k hk => by rw [hCe, hk]; simp)⟩
  rw [mkL_int, hCe]
  rw [hn] at q ⊢
  exact OwnL.flat rfl (by rw [ups_len]) q (ups_ok _ _ (by omega) (by omega))
theorem heldIntS_u (l : List Int) (k : Nat) (h0 : 0 < k) (h1 : k + mcnt l ≤ 100000000) (w : World) (S : Nat → Prop) (hS : ∀ b, S b → b < w.heap.size) (A : Option Addr) (n c : Nat) (h : RepL w S (mkL k l) A n c) :
    Calls Try.prog 20 #[.slice A n c, .int .i64 k] w fun e w' => e = .returned (.int .i64 ((k + mcnt l : Nat) : Int)) ∧ Below w.heap.size w w' := by
  have hn := h.1
  rw [mkL_len] at hn
  rw [mcnt_int] at h1 ⊢
  rw [mkL_int, ← hn] at h
  refine (heldIntS_any k (by omega) (by omega) w S hS A n c (by omega) h).mono ?_
  rintro e w' ⟨rfl, b⟩
  exact ⟨by rw [hn]; rfl, b⟩
end Go.Proofs.Ytmkhahiefdcinaa
