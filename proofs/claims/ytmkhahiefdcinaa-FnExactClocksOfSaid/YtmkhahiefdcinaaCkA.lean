/-
  Contracts: l1All, l11Clock of the reference; areClocks of the program.
-/
import Derived.Test.YtmkhahiefdcinaaWi
import Derived.Test.YtmkhahiefdcinaaSlI
import Derived.Test.YtmkhahiefdcinaaSlK
namespace Go.Proofs.Ytmkhahiefdcinaa
open Go.ChangeShapes Go.WideShapes Go.ChangeAt Go.RowKit Go.BigFrame
set_option linter.unusedVariables false

/-- A row of two rows. -/
theorem RepL.two {α : Type} [Rep α] {W : World} {S : Nat → Prop} {a b : List α} {A A' : Option Addr} {n c n' c' g : Nat} {T : TypeId} (h : RepL W S a A n c) (h' : RepL W S b A' n' c') (hg : W.heap[g]? = some (.cells #[.slice A n c, .slice A' n' c'] T (0, 0))) :
    RepL W (fun x => S x ∨ x = g) [a, b] (some ⟨g, 0, none⟩) 2 2 := by
  refine ⟨rfl, some ⟨g, 0, none⟩, 2, rfl, Nat.le_refl _, by simp [maxLen], (fun e => by cases e), fun i hi => ?_⟩
  have hz : Rep.size (List α) = 1 := rfl
  match i, hi with
  | 0, _ =>
    obtain ⟨rfl, hr⟩ := h
    refine ⟨g, 0, [.slice A a.length c], rfl, .inr rfl, fun j u hu => ?_, Rep.more hr (fun _ hx => .inl hx)⟩
    cases j with
    | zero =>
      rw [cell_of_row W g _ _ T (0, 0) hg]
      simpa using hu
    | succ j => simp at hu
  | 1, _ =>
    obtain ⟨rfl, hr⟩ := h'
    refine ⟨g, 0, [.slice A' b.length c'], rfl, .inr rfl, fun j u hu => ?_, Rep.more hr (fun _ hx => .inl hx)⟩
    cases j with
    | zero =>
      rw [cell_of_row W g _ _ T (0, 0) hg]
      simpa [hz] using hu
    | succ j => simp at hu

/-- All numbers lie from lo to hi. -/
def allIn (lo hi : Int) (l : List Int) : Bool := l.all fun x => decide (lo ≤ x ∧ x ≤ hi)

theorem l1All_any (lo hi : Int) (l : List Int) (r : Bool) (hr : allIn lo hi l = r) (w : World) (S : Nat → Prop) (hS : ∀ b, S b → b < w.heap.size) (A : Option Addr) (n c : Nat) (hl0 : RepL w S l A n c) :
    Calls Try.prog 74 #[.slice A n c, .int .i64 lo, .int .i64 hi] w fun x w' => x = .returned (.bool r) ∧ Below w.heap.size w w' := by
  have hbd := hl0.bd
  obtain ⟨hn, -⟩ := id hl0
  have Hn := Lib.hid hn
  have Hr := Lib.hid hr
  clear hn hr
  go_enter Try.func74, Try.ntmps74
  go_wp2_with fail
  go_loopw [11] (fun i wr => ∃ k : Nat, k ≤ n ∧ i = .int .i64 k ∧ allIn lo hi (l.take k) = true ∧ Below w.heap.size w wr) (fun i _ => n - (intOf i).toNat)
  case atStart => exact ⟨0, Nat.zero_le _, rfl, rfl, Below.refl _ _⟩
  case round =>
    obtain ⟨k, hk, rfl, hpre, hbel⟩ := hrel
    have Hpre := Lib.hid hpre
    clear hpre
    by_cases hlt : k < n
    · have hl1 : k < l.length := by have := Hn.out; omega
      obtain ⟨b, off, rfl, hSb, hc, hok⟩ := hl0.at1 rfl hl1
      have hc0 : wr.cell? ⟨b, off + k, none⟩ = some (.int .i64 l[k]) := (hbel.cell (hS _ hSb)).trans (hc _ rfl)
      clear hc hok
      by_cases hin : lo ≤ l[k] ∧ l[k] ≤ hi
      · have Hd := Lib.hid (decide_eq_true hin)
        have Hs := Lib.hid (show allIn lo hi (l.take (k + 1)) = true by have := Hpre.out; unfold allIn at *; rw [List.take_succ_eq_append_getElem hl1, List.all_append, this]; simp [hin])
        go_wp2_with (go_at_call 67; refine (l1In_any _ _ _ _ Hd.out _).mono ?_; rintro e w1 ⟨rfl, hb1⟩)
        go_roundw
        case rel => exact ⟨k + 1, by omega, by go_num, Hs.out, hbel.trans (hb1.mono hbel.size)⟩
        case measure => simp [intOf]; omega
      · have Hd := Lib.hid (decide_eq_false hin)
        have Hf := Lib.hid (show r = false by rw [← Hr.out]; unfold allIn; rw [List.all_eq_false]; exact ⟨l[k], List.getElem_mem hl1, by simpa using hin⟩)
        go_wp2_with (go_at_call 67; refine (l1In_any _ _ _ _ Hd.out _).mono ?_; rintro e w1 ⟨rfl, hb1⟩)
        go_ret
        exact ⟨by rw [Hf.out]; rfl, hbel.trans (hb1.mono hbel.size)⟩
    · have Hf := Lib.hid (show r = true by rw [← Hr.out, ← Hpre.out, List.take_of_length_le (by have := Hn.out; omega)])
      go_wp2_with fail
      go_ret
      exact ⟨by rw [Hf.out]; rfl, hbel⟩

/-- A clock of the document. -/
def clockOk (l : List Int) : Bool := decide (1 ≤ (l.length : Int) ∧ (l.length : Int) ≤ 5) && allIn 0 40 l
theorem l11Clock_any (l : List Int) (r : Bool) (hr : clockOk l = r) (w : World) (S : Nat → Prop) (hS : ∀ b, S b → b < w.heap.size) (A : Option Addr) (n c : Nat) (hl0 : RepL w S l A n c) :
    Calls Try.prog 63 #[.slice A n c] w fun x w' => x = .returned (.bool r) ∧ Below w.heap.size w w' := by
  obtain ⟨hn, -⟩ := id hl0
  unfold clockOk at hr
  rw [← hn] at hr
  by_cases hin : 1 ≤ (n : Int) ∧ (n : Int) ≤ 5
  · have Hd := Lib.hid (decide_eq_true hin)
    rw [decide_eq_true hin, Bool.true_and] at hr
    have Hr := Lib.hid hr
    clear hr hn hin
    go_enter Try.func63, Try.ntmps63
    go_wp2_with fail
    refine (l1In_any _ _ _ _ Hd.out _).mono ?_
    rintro e w1 ⟨rfl, b1⟩
    go_wp2_with fail
    refine (l1All_any _ _ l _ Hr.out w1 S (fun b hb => Nat.lt_of_lt_of_le (hS b hb) b1.size) A n c (hl0.keep (fun p hp => b1.cell (hS _ hp)))).mono ?_
    rintro e w2 ⟨rfl, b2⟩
    go_wp2_with fail
    go_ret
    exact ⟨rfl, bnext b1 b2⟩
  · have Hd := Lib.hid (decide_eq_false hin)
    rw [decide_eq_false hin, Bool.false_and] at hr
    subst hr
    clear hn hin
    go_enter Try.func63, Try.ntmps63
    go_wp2_with fail
    refine (l1In_any _ _ _ _ Hd.out _).mono ?_
    rintro e w1 ⟨rfl, b1⟩
    go_wp2_with fail
    go_ret
    exact ⟨rfl, b1⟩

/-- Two clocks of as many nodes. -/
def okCk (a b : List Int) : Bool := decide (1 ≤ (a.length : Int) ∧ (a.length : Int) ≤ 5) && (decide (a.length = b.length) && (allIn 0 40 a && allIn 0 40 b))
theorem okCk_spec (a b : List Int) : okCk a b = (clockOk a && (clockOk b && decide (a.length = b.length))) := by
  unfold okCk clockOk
  by_cases h : a.length = b.length
  · rw [h]
    generalize decide (1 ≤ (b.length : Int) ∧ (b.length : Int) ≤ 5) = x
    cases x <;> simp
  · rw [decide_eq_false h]
    simp
theorem okCk_len {a b : List Int} (h : okCk a b = true) : a.length = b.length := by
  unfold okCk at h
  simp only [Bool.and_eq_true, decide_eq_true_eq] at h
  exact h.2.1
theorem any_out (a b : List Int) : (a ++ b).any (fun x => !decide (0 ≤ x ∧ x ≤ 40)) = !(allIn 0 40 a && allIn 0 40 b) := by
  unfold allIn
  rw [← List.all_append, List.not_all_eq_any_not]

theorem areClocks1_pred (w : World) : Pred Try.prog 72 #[] (fun x : Int => .int .i64 x) Flat.ok (fun x => !decide (0 ≤ x ∧ x ≤ 40)) w := by
  intro W x _ hW
  have key : ∀ r, decide (0 ≤ x ∧ x ≤ 40) = r → Calls Try.prog 72 #[.int .i64 x] W fun e w' => e = .returned (.bool (!r)) ∧ Below W.heap.size W w' := by
    intro r hr
    have Hr := Lib.hid hr
    clear hr
    go_enter Try.func72, Try.ntmps72
    go_wp2_with fail
    refine (within_any _ _ _ _ Hr.out _).mono ?_
    rintro e w1 ⟨rfl, b1⟩
    go_wp2_with fail
    go_ret
    exact ⟨rfl, b1⟩
  have e : (#[Value.int .i64 x] ++ #[] : Array Value) = #[.int .i64 x] := by simp
  show Calls Try.prog 72 (#[Value.int .i64 x] ++ #[]) W fun e w' => e = .returned (.bool (!decide (0 ≤ x ∧ x ≤ 40))) ∧ Below W.heap.size W w'
  rw [e]
  exact key _ rfl

theorem areClocks_any (a b : List Int) (r : Bool) (hr : okCk a b = r) (w : World) (S : Nat → Prop) (hS : ∀ b, S b → b < w.heap.size) (A A' : Option Addr) (n c n' c' : Nat) (hl0 : RepL w S a A n c) (hl1 : RepL w S b A' n' c') :
    Calls Try.prog 59 #[.slice A n c, .slice A' n' c'] w fun x w' => x = .returned (.bool r) ∧ Below w.heap.size w w' := by
  obtain ⟨hn, -⟩ := id hl0
  obtain ⟨hn', -⟩ := id hl1
  have eg := enters_of Try.func72 (by kernel_rfl) rfl
  unfold okCk at hr
  rw [← hn, ← hn'] at hr
  by_cases hin : 1 ≤ (n : Int) ∧ (n : Int) ≤ 5
  · have Hd := Lib.hid (decide_eq_true hin)
    rw [decide_eq_true hin, Bool.true_and] at hr
    by_cases he : n = n'
    · have hd2 : ((n : Int) == (n' : Int)) = true := by simp [he]
      rw [decide_eq_true he, Bool.true_and] at hr
      have Hr := Lib.hid (show (([a, b].flatten).any fun x => !decide (0 ≤ x ∧ x ≤ 40)) = !r by simp only [List.flatten_cons, List.flatten_nil, List.append_nil]; rw [any_out, hr])
      have Ht := Lib.hid (show total [a, b] ≤ 100 by unfold total; simp; omega)
      clear hr hn hn' hin he
      go_enter Try.func59, Try.ntmps59
      go_wp2_with fail
      refine (within_any _ _ _ _ Hd.out _).mono ?_
      rintro e w1 ⟨rfl, b1⟩
      have h0 := hl0.keep (w' := w1) (fun p hp => b1.cell (hS _ hp))
      have h1 := hl1.keep (w' := w1) (fun p hp => b1.cell (hS _ hp))
      have hS1 : ∀ b, S b → b < w1.heap.size := fun b hb => Nat.lt_of_lt_of_le (hS b hb) b1.size
      obtain ⟨W, hW⟩ : ∃ W, W = w1.alloc (.cells #[.slice A n c, .slice A' n' c'] 30) := ⟨_, rfl⟩
      have bW : Below w1.heap.size w1 W := by rw [hW]; exact (Below.refl _ _).alloc (Nat.le_refl _) _
      have hg : W.heap[w1.heap.size]? = some (.cells #[.slice A n c, .slice A' n' c'] 30 (0, 0)) := by rw [hW]; exact heap_alloc_new w1 _
      have h2 := Lib.hid (RepL.two (h0.keep (w' := W) (fun p hp => bW.cell (hS1 _ hp))) (h1.keep (w' := W) (fun p hp => bW.cell (hS1 _ hp))) hg)
      have hlt : w1.heap.size < W.heap.size := (Array.getElem?_eq_some_iff.1 hg).1
      have HW := Lib.hid hW
      clear hW hg
      go_wp2_with fail
      rw [← HW.out]
      refine (concatInt_any [a, b] W _ (fun x hx => by rcases hx with hx | rfl; (· exact Nat.lt_of_lt_of_le (hS1 _ hx) bW.size); exact hlt) _ _ _ h2.out (by have := Ht.out; omega)).mono ?_
      rintro e w2 ⟨A2, c2, rfl, -, r2, b2⟩
      go_wp2_with fail
      refine (containsFuncInt_any (fun x => !decide (0 ≤ x ∧ x ≤ 40)) 72 #[] eg [a, b].flatten w2 _ (fun x hx => hx.2) A2 _ c2 r2 (areClocks1_pred w2) _ Hr.out).mono ?_
      rintro e w3 ⟨rfl, b3⟩
      go_wp2_with fail
      go_ret
      exact ⟨rfl, bnext b1 (bnext bW (bnext b2 b3))⟩
    · have hd2 : ((n : Int) == (n' : Int)) = false := by simp; omega
      rw [decide_eq_false he, Bool.false_and] at hr
      subst hr
      clear hn hn' hin he
      go_enter Try.func59, Try.ntmps59
      go_wp2_with fail
      refine (within_any _ _ _ _ Hd.out _).mono ?_
      rintro e w1 ⟨rfl, b1⟩
      go_wp2_with fail
      go_ret
      exact ⟨rfl, b1⟩
  · have Hd := Lib.hid (decide_eq_false hin)
    rw [decide_eq_false hin, Bool.false_and] at hr
    subst hr
    clear hn hn' hin
    go_enter Try.func59, Try.ntmps59
    go_wp2_with fail
    refine (within_any _ _ _ _ Hd.out _).mono ?_
    rintro e w1 ⟨rfl, b1⟩
    go_wp2_with fail
    go_ret
    exact ⟨rfl, b1⟩

end Go.Proofs.Ytmkhahiefdcinaa
