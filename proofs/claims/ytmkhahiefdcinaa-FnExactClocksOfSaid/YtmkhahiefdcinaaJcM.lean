/-
  Contracts: l11Most of the reference.
-/
import Derived.Test.YtmkhahiefdcinaaCkA
import Derived.Test.YtmkhahiefdcinaaSlC
import Derived.Test.YtmkhahiefdcinaaInM
namespace Go.Proofs.Ytmkhahiefdcinaa
open Go.ChangeShapes Go.WideShapes Go.ChangeAt Go.RowKit Go.BigFrame
set_option linter.unusedVariables false

/-- The greater of two numbers at each place. -/
def mostL (a b : List Int) : List Int := List.zipWith max a b
/-- .. at the first k places. -/
def mostTo (a b : List Int) (k : Nat) : List Int := List.zipWith max (a.take k) (b.take k) ++ a.drop k
theorem mostTo_zero (a b : List Int) : mostTo a b 0 = a := by simp [mostTo]
theorem mostTo_all {a b : List Int} (h : a.length = b.length) : mostTo a b a.length = mostL a b := by
  unfold mostTo mostL
  rw [List.take_of_length_le (Nat.le_refl _), List.take_of_length_le (by omega), List.drop_length, List.append_nil]
theorem mostTo_len {a b : List Int} {k : Nat} (h : a.length = b.length) : (mostTo a b k).length = a.length := by
  unfold mostTo
  simp
  omega
theorem mostTo_get {a b : List Int} {k : Nat} (h : a.length = b.length) (ha : k < a.length) : (mostTo a b k)[k]? = some a[k] := by
  unfold mostTo
  rw [List.getElem?_append_right (by simp; omega)]
  have : (List.zipWith max (a.take k) (b.take k)).length = k := by simp; omega
  rw [this, Nat.sub_self, List.getElem?_drop]
  simp
theorem mostTo_succ {a b : List Int} {k : Nat} (h : a.length = b.length) (ha : k < a.length) : mostTo a b (k + 1) = (mostTo a b k).set k (max a[k] (b[k]'(by omega))) := by
  unfold mostTo
  have hl : (List.zipWith max (a.take k) (b.take k)).length = k := by simp; omega
  rw [List.set_append_right _ _ (by omega), hl, Nat.sub_self, List.drop_eq_getElem_cons ha, List.set_cons_zero, List.take_succ_eq_append_getElem ha, List.take_succ_eq_append_getElem (show k < b.length by omega),
    List.zipWith_append (by simp; omega)]
  simp
theorem mostTo_same {a b : List Int} {k : Nat} (h : a.length = b.length) (ha : k < a.length) (hle : ¬ a[k] < b[k]'(by omega)) : mostTo a b (k + 1) = mostTo a b k := by
  rw [mostTo_succ h ha, Int.max_eq_left (by omega)]
  have h1 := mostTo_get h ha
  obtain ⟨h2, h3⟩ := List.getElem?_eq_some_iff.1 h1
  rw [← h3, List.set_getElem_self]
theorem ok_max {a b : List Int} (ha : ∀ x ∈ a, (Flat.ok x : Prop)) (hb : ∀ x ∈ b, (Flat.ok x : Prop)) : ∀ x ∈ mostL a b, (Flat.ok x : Prop) := by
  intro x hx
  unfold mostL at hx
  obtain ⟨i, hi, rfl⟩ := List.mem_iff_getElem.1 hx
  simp only [List.length_zipWith] at hi
  rw [List.getElem_zipWith]
  rcases Int.le_total a[i] b[i] with h | h
  · rw [Int.max_eq_right h]; exact hb _ (List.getElem_mem _)
  · rw [Int.max_eq_left h]; exact ha _ (List.getElem_mem _)
theorem set_enc (l : List Int) (k : Nat) (x : Int) (hk : k < l.length) : (encs l).set k (.int .i64 x) = encs (l.set k x) := by
  have e3 := encs_set l k x hk
  have e4 : k * Flat.size Int = k := Nat.mul_one k
  rw [e4] at e3
  exact e3
theorem get_enc (l : List Int) (k : Nat) (x : Int) (hk : l[k]? = some x) : (encs l)[k]? = some (.int .i64 x) := by
  obtain ⟨h1, rfl⟩ := List.getElem?_eq_some_iff.1 hk
  have e3 := encs_get l h1 (j := 0) (by decide)
  have e4 : k * Flat.size Int + 0 = k := by show k * 1 + 0 = k; omega
  rw [e4] at e3
  exact e3

theorem l11Most_any (a b : List Int) (hlen : a.length = b.length) (w : World) (S : Nat → Prop) (hS : ∀ b, S b → b < w.heap.size) (A A' : Option Addr) (n c n' c' : Nat) (hsm : n ≤ 1000000) (hl0 : RepL w S a A n c) (hl1 : RepL w S b A' n' c') :
    Calls Try.prog 66 #[.slice A n c, .slice A' n' c'] w fun x w' => ∃ A2 c2, x = .returned (.slice A2 n c2) ∧ w'.ownsRow w.heap.size 3 1 (.slice A2 n c2) n (encs (mostL a b)) ∧ RepL w' (fun b => w.heap.size ≤ b ∧ b < w'.heap.size) (mostL a b) A2 n c2 ∧ Below w.heap.size w w' := by
  obtain ⟨i0, hi, hz0, hz1, hz2⟩ := info_parts infoInt
  have hbd := hl0.bd
  have hbd' := hl1.bd
  obtain ⟨hn, -⟩ := id hl0
  obtain ⟨hn', -⟩ := id hl1
  have Hn := Lib.hid hn
  have Hn' := Lib.hid hn'
  have Hlen := Lib.hid hlen
  clear hn hn' hlen
  have hr := Lib.hid (hl0.keep (w' := w.alloc (.cells #[] 3)) (fun p hp => World.cell?_alloc_lt w _ p (hS _ hp)))
  go_enter Try.func66, Try.ntmps66
  go_wp2_with (at_builtin; refine wpList_append_list (α := Int) _ rfl (.tmp 8) (.tmp 9) _ rfl w.heap.size 3 i0 _ 1 8 Try.underlying30 hi hz0 hz1 hz2 rfl (by omega) rfl (.slice (some ⟨w.heap.size, 0, none⟩) 0 0) [] 0 rfl (World.ownsRow_lit w #[] 0 (Nat.le_refl _) (Nat.zero_le _) rfl) S A n c a rfl hr.out (by omega) (by omega) (by simp) ?_; intro v1 w1 hown1 hg1 hat1)
  simp only [Nat.zero_add, List.nil_append] at hown1
  obtain ⟨A2, c2, rfl⟩ := own_slice hown1
  have hb1 : Below w.heap.size w w1 := ((Below.refl _ w).alloc (Nat.le_refl _) (.cells #[] 3)).grown hg1 (by simp) (fun k hk => by simp [Value.ownBlock] at hk; omega)
  clear hg1 hat1
  have Hown1 := Lib.hid hown1
  have hc2 : n ≤ 9223372036854775807 := by omega
  clear hown1
  go_loopw [13] (fun i wr => ∃ k : Nat, k ≤ n ∧ i = .int .i64 k ∧ wr.ownsRow w.heap.size 3 1 (.slice A2 n c2) n (encs (mostTo a b k)) ∧ Below w.heap.size w wr) (fun i _ => n - (intOf i).toNat)
  case atStart => exact ⟨0, Nat.zero_le _, by have := Hn.out; have := Hn'.out; have := Hlen.out; rfl, by rw [mostTo_zero]; exact Hown1.out, hb1⟩
  case round =>
    obtain ⟨k, hk, rfl, hown, hbel⟩ := hrel
    have hnn : n' = n := by have := Hn.out; have := Hn'.out; have := Hlen.out; omega
    have Hnn := Lib.hid hnn
    clear hnn
    by_cases hlt : k < n
    · have hlt' : k < n' := by have := Hnn.out; omega
      have hk1 : k < a.length := by have := Hn.out; omega
      have hk2 : k < b.length := by have := Hn'.out; omega
      obtain ⟨bb, off', rfl, hSb', hc', hi1'⟩ := hl1.at1 rfl hk2
      have hd0 : wr.cell? ⟨bb, off' + k, none⟩ = some (.int .i64 b[k]) := (hbel.cell (hS _ hSb')).trans (hc' _ rfl)
      obtain ⟨g, rfl⟩ : ∃ g, A2 = some ⟨g, 0, none⟩ := by
        rcases hown.2 with ⟨_, e⟩ | ⟨g, cap, cur, e, _⟩
        · omega
        · simp only [Value.slice.injEq] at e
          exact ⟨g, e.1⟩
      have hu0 : wr.cell? ⟨g, k, none⟩ = some (.int .i64 a[k]) := by rw [hown.cellAt k (by omega)]; exact get_enc _ _ _ (mostTo_get Hlen.out hk1)
      have hf0 := hown.frozenAt k
      have hgB := (hown.lt g rfl).1
      have Hown := Lib.hid hown
      clear hc' hi1' hown
      by_cases hgt : a[k] < b[k]
      · have hd : decide (a[k] < b[k]) = true := decide_eq_true hgt
        have Hs := Lib.hid (show mostTo a b (k + 1) = (mostTo a b k).set k b[k] by rw [mostTo_succ Hlen.out hk1, Int.max_eq_right (by omega)])
        go_wp2_with fail
        go_roundw
        case rel => exact ⟨k + 1, by omega, by go_num, by rw [Hs.out, ← set_enc _ _ _ (by rw [mostTo_len Hlen.out]; exact hk1)]; exact (Hown.out.stored k _).1, hbel.setCell hgB _⟩
        case measure => simp [intOf]; omega
      · have hd : decide (a[k] < b[k]) = false := decide_eq_false hgt
        have Hs := Lib.hid (mostTo_same Hlen.out hk1 hgt)
        go_wp2_with fail
        go_roundw
        case rel => exact ⟨k + 1, by omega, by go_num, by rw [Hs.out]; exact Hown.out, hbel⟩
        case measure => simp [intOf]; omega
    · have hlt' : ¬ k < n' := by have := Hnn.out; omega
      go_wp2_with fail
      go_ret
      have e1 : k = a.length := by have := Hn.out; omega
      rw [e1, mostTo_all Hlen.out] at hown
      refine ⟨A2, c2, rfl, hown, RepL.of_own' rfl ?_ hown (ok_max hl0.ok hl1.ok), hbel⟩
      unfold mostL
      have := Hn.out
      have := Hlen.out
      simp
      omega

end Go.Proofs.Ytmkhahiefdcinaa
