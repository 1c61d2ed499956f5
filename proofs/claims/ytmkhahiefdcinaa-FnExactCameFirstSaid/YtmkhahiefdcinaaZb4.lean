/-
  Proved: the law FnExactCameFirst returns true for every input: the program's CameFirst answers what the reference's does, and leaves its arguments alone. Conditions: none.
-/
import Derived.Deep.Fields
import Derived.Test.YtmkhahiefdcinaaZb1
import Derived.Test.YtmkhahiefdcinaaZb3
/-
  The plain law of cuts: the vector clock of an event counts what came first for it, node by node.
-/
namespace Go.Proofs.Ytmkhahiefdcinaa
open Go.ChangeShapes Go.WideShapes Go.ChangeAt Go.RowKit Go.BigFrame Go.Deep
set_option linter.unusedVariables false

set_option linter.unusedSimpArgs false
def rowV (N : Nat) (l : List P2) (k : Nat) : List Int := (ckTo N l l.length).getD k []
/-- What event p has at node j, none for no event. -/
def clk (N : Nat) (l : List P2) (p : Int) (j : Nat) : Int := if 0 ≤ p then (rowV N l p.toNat).getD j 0 else 0
theorem ckTo_get {N : Nat} {l : List P2} {j m : Nat} (hj : j < m) (hm : m ≤ l.length) : (ckTo N l m).getD j [] = ckV N l j (ckTo N l j) (ev l j) := by
  have h1 : (ckTo N l m).getD j [] = ((ckTo N l m).take (j + 1)).getD j [] := by
    rw [List.getD_eq_getElem?_getD, List.getD_eq_getElem?_getD, List.getElem?_take, if_pos (by omega)]
  rw [h1, ckTo_take N l (show j + 1 ≤ m by omega), ckTo_succ (ev_some (show j < l.length by omega))]
  rw [List.getD_eq_getElem?_getD, List.getElem?_append_right (by rw [ckTo_len]; omega), ckTo_len]
  simp
theorem rowV_is {N : Nat} {l : List P2} {k : Nat} (hk : k < l.length) : ckIs N (l.length : Int) (rowV N l k) := by
  refine ckTo_is N l l.length _ ?_
  unfold rowV
  rw [List.getD_eq_getElem?_getD, List.getElem?_eq_getElem (by rw [ckTo_len]; exact hk)]
  exact List.getElem_mem _
theorem rowAt_clk {N : Nat} {l : List P2} {k : Nat} (hk : k < l.length) {p : Int} (hp : p < k) (j : Nat) (hj : j < N) : (rowAt N (ckTo N l k) p).getD j 0 = clk N l p j := by
  unfold clk
  by_cases h0 : 0 ≤ p
  · rw [if_pos h0]
    unfold rowAt
    rw [if_pos h0]
    have e1 : (ckTo N l k).getD p.toNat (zs N) = (ckTo N l k).getD p.toNat [] := by
      rw [List.getD_eq_getElem?_getD, List.getD_eq_getElem?_getD, List.getElem?_eq_getElem (by rw [ckTo_len]; omega)]; rfl
    rw [e1, ckTo_get (by omega) (by omega)]
    unfold rowV
    rw [ckTo_get (by omega) (Nat.le_refl _)]
  · rw [if_neg h0, rowAt_neg _ h0]
    simp [zs, List.getD_eq_getElem?_getD, List.getElem?_replicate, hj]
theorem rowAt_len {N : Nat} {l : List P2} {k : Nat} (p : Int) : (rowAt N (ckTo N l k) p).length = N := (rowAt_is (by omega) (ckTo_is N l k) p).1
theorem mostL_get {N : Nat} {a b : List Int} (ha : a.length = N) (hb : b.length = N) {j : Nat} (hj : j < N) : (mostL a b).getD j 0 = max (a.getD j 0) (b.getD j 0) := by
  unfold mostL
  rw [List.getD_eq_getElem?_getD, List.getD_eq_getElem?_getD, List.getD_eq_getElem?_getD, List.getElem?_zipWith, List.getElem?_eq_getElem (by omega), List.getElem?_eq_getElem (by omega)]
  rfl
theorem clk_nonneg {N : Nat} {l : List P2} {p : Int} (hp : p < l.length) (j : Nat) : 0 ≤ clk N l p j := by
  unfold clk
  by_cases h0 : 0 ≤ p
  · rw [if_pos h0, List.getD_eq_getElem?_getD]
    cases hx : (rowV N l p.toNat)[j]? with
    | none => exact Int.le_refl _
    | some x => exact ((rowV_is (N := N) (l := l) (k := p.toNat) (by omega)).2 x (List.mem_of_getElem? hx)).1
  · rw [if_neg h0]; exact Int.le_refl _
/-- The clock of an event, out of those of the two ahead. -/
theorem clk_eq {N : Nat} {l : List P2} (he : Evs l) {k : Nat} (hk : k < l.length) (hn : 0 ≤ (ev l k).a) {j : Nat} (hj : j < N) : clk N l k j = max (clk N l (pr0 l k) j) (clk N l (pr1 l k) j) + if (ev l k).a = j then 1 else 0 := by
  have h0 := he.lt0 k hk
  have h1 := he.lt1 k hk
  have e1 : clk N l k j = (ckV N l k (ckTo N l k) (ev l k)).getD j 0 := by
    unfold clk
    rw [if_pos (by omega), Int.toNat_natCast]
    unfold rowV
    rw [ckTo_get hk (Nat.le_refl _)]
  have eB : (ckB N l k (ckTo N l k) (ev l k)).getD j 0 = max (clk N l (pr0 l k) j) (clk N l (pr1 l k) j) := by
    unfold ckB
    by_cases hb : 0 ≤ (ev l k).b
    · rw [if_pos hb, mostL_get (rowAt_len _) (rowAt_len _) hj]
      show max ((rowAt N (ckTo N l k) (pr0 l k)).getD j 0) ((rowAt N (ckTo N l k) (pr1 l k)).getD j 0) = _
      rw [rowAt_clk hk h0 j hj, rowAt_clk hk h1 j hj]
    · rw [if_neg hb]
      show (rowAt N (ckTo N l k) (pr0 l k)).getD j 0 = _
      rw [rowAt_clk hk h0 j hj]
      have : clk N l (pr1 l k) j = 0 := if_neg hb
      rw [this]
      have := clk_nonneg (N := N) (l := l) (p := pr0 l k) (by omega) j
      omega
  have hlen : (ckB N l k (ckTo N l k) (ev l k)).length = N := (ckB_is (l := l) (k := k) (e := ev l k) (by omega) (ckTo_is N l k)).1
  rw [e1]
  unfold ckV incAt
  rw [List.getD_eq_getElem?_getD, List.getElem?_set]
  by_cases hj2 : (ev l k).a = j
  · rw [hj2, Int.toNat_natCast, if_pos rfl, if_pos (by omega), if_pos rfl, ← eB]; rfl
  · rw [if_neg (by omega), if_neg hj2, Int.add_zero, ← eB, List.getD_eq_getElem?_getD]
/-! The number of an event among those of its node. -/
theorem cnt_mono {l : List P2} {a b : Nat} (h : a ≤ b) (hb : b ≤ l.length) (x : Int) : cnt l a x ≤ cnt l b x := by
  induction b with
  | zero => obtain rfl : a = 0 := by omega
            exact Nat.le_refl _
  | succ b ih =>
    by_cases e : a = b + 1
    · rw [e]; exact Nat.le_refl _
    · have := ih (by omega) (by omega)
      rw [cnt_succ (ev_some (show b < l.length by omega))]
      omega
theorem prior_cnt {l : List P2} {x : Int} : ∀ {k : Nat}, k ≤ l.length → (lastAt l k x < 0 → cnt l k x = 0) ∧ (0 ≤ lastAt l k x → (ev l (lastAt l k x).toNat).a = x ∧ cnt l k x = cnt l ((lastAt l k x).toNat + 1) x)
  | 0, _ => ⟨fun _ => cnt_zero l x, fun h => absurd h (by show ¬ (0 : Int) ≤ -1; decide)⟩
  | k + 1, hk => by
    obtain ⟨h1, h2⟩ := prior_cnt (l := l) (x := x) (k := k) (by omega)
    have he := ev_some (show k < l.length by omega)
    by_cases hx : (ev l k).a = x
    · rw [lastAt_hit he hx]
      exact ⟨fun h => by omega, fun _ => ⟨by simpa using hx, by simp⟩⟩
    · rw [lastAt_miss he hx, cnt_succ he, if_neg hx, Nat.add_zero]
      exact ⟨h1, h2⟩
theorem atV_ev {l : List P2} {k : Nat} (hk : k < l.length) : atV l k = (cnt l k (ev l k).a : Int) + 1 := atV_eq (ev_some hk)
theorem atV_suc {l : List P2} {k : Nat} (hk : k < l.length) : atV l k = (cnt l (k + 1) (ev l k).a : Int) := by
  rw [atV_ev hk, cnt_succ (ev_some hk), if_pos rfl]; simp
/-- What the clock of an event says: of each node the last event that came first. -/
theorem clk_law {N : Nat} {l : List P2} (he : Evs l) (hn : ∀ k, k < l.length → 0 ≤ (ev l k).a ∧ (ev l k).a < N) : ∀ (k : Nat), k < l.length → (∀ a, An l a k → atV l a ≤ clk N l k (ev l a).a.toNat) ∧ ∀ j, j < N → clk N l k j = 0 ∨ ∃ a, An l a k ∧ (ev l a).a = j ∧ atV l a = clk N l k j := by
  intro k
  induction k using Nat.strongRecOn with
  | ind k ih =>
    intro hk
    have h0 := he.lt0 k hk
    have h1 := he.lt1 k hk
    have side : ∀ p : Int, (p = pr0 l k ∨ p = pr1 l k) → ∀ j, j < N → clk N l p j = 0 ∨ ∃ a, An l a k ∧ a < k ∧ (ev l a).a = j ∧ atV l a = clk N l p j := by
      intro p hp j hj
      by_cases hp0 : 0 ≤ p
      · have hpk : p.toNat < k := by rcases hp with rfl | rfl <;> omega
        have hpe : ((p.toNat : Nat) : Int) = p := Int.toNat_of_nonneg hp0
        rcases (ih p.toNat hpk (by omega)).2 j hj with h | ⟨a, h2, h3, h4⟩
        · left; rw [hpe] at h; exact h
        · right
          have := h2.le he (by omega)
          exact ⟨a, .step (by rw [hpe]; exact hp) h2, by omega, h3, by rw [hpe] at h4; exact h4⟩
      · left; unfold clk; rw [if_neg hp0]
    have eqk : ∀ j, j < N → clk N l k j = max (clk N l (pr0 l k) j) (clk N l (pr1 l k) j) + if (ev l k).a = j then 1 else 0 := fun j hj => clk_eq he hk (hn k hk).1 hj
    -- at its own node
    have bound : ∀ p : Int, (p = pr0 l k ∨ p = pr1 l k) → ∀ j, j < N → (ev l k).a = j → clk N l p j ≤ cnt l k j := by
      intro p hp j hj hjk
      rcases side p hp j hj with h | ⟨a, h2, h3, h4, h5⟩
      · rw [h]; omega
      · rw [← h5, atV_suc (by omega), h4]
        have := cnt_mono (l := l) (a := a + 1) (b := k) (by omega) (by omega) (j : Int)
        omega
    have own : ∀ j, j < N → (ev l k).a = j → clk N l k j = atV l k := by
      intro j hj hjk
      rw [eqk j hj, if_pos hjk, atV_ev hk, hjk]
      have b0 := bound _ (.inl rfl) j hj hjk
      have b1 := bound _ (.inr rfl) j hj hjk
      have ge : (cnt l k j : Int) ≤ clk N l (pr0 l k) j := by
        obtain ⟨q1, q2⟩ := prior_cnt (l := l) (x := (ev l k).a) (k := k) (by omega)
        by_cases hp : 0 ≤ pr0 l k
        · obtain ⟨q3, q4⟩ := q2 hp
          have hpe : (((pr0 l k).toNat : Nat) : Int) = pr0 l k := Int.toNat_of_nonneg hp
          have hlt : (pr0 l k).toNat < k := by omega
          have := (ih (pr0 l k).toNat hlt (by omega)).1 _ (.self _)
          have q3' : (ev l (pr0 l k).toNat).a = j := q3.trans hjk
          rw [q3', Int.toNat_natCast, atV_suc (by omega), q3', hpe] at this
          have q4' : cnt l k j = cnt l ((pr0 l k).toNat + 1) j := by rw [← hjk]; exact q4
          rw [q4']; exact this
        · have := q1 (by unfold pr0 at hp; omega)
          rw [← hjk, this]
          exact clk_nonneg (by omega) _
      omega
    refine ⟨fun a ha => ?_, fun j hj => ?_⟩
    · have hak := ha.le he hk
      have hna := hn a (by omega)
      have hj : (ev l a).a.toNat < N := by omega
      have hja : (((ev l a).a.toNat : Nat) : Int) = (ev l a).a := Int.toNat_of_nonneg hna.1
      by_cases hnk : (ev l k).a = (ev l a).a
      · rw [own _ hj (by rw [hja]; exact hnk), atV_suc (by omega), atV_suc hk, hnk]
        have := cnt_mono (l := l) (a := a + 1) (b := k + 1) (by omega) (by omega) (ev l a).a
        omega
      · cases ha with
        | self => exact absurd rfl hnk
        | step hp h =>
          rename_i p
          have hpk : p < k := by rcases hp with e | e <;> omega
          have h2 := (ih p hpk (by omega)).1 a h
          rw [eqk _ hj]
          have : (clk N l (p : Int) (ev l a).a.toNat) ≤ max (clk N l (pr0 l k) (ev l a).a.toNat) (clk N l (pr1 l k) (ev l a).a.toNat) := by
            rcases hp with e | e <;> rw [e] <;> omega
          have h3 : (0 : Int) ≤ if (ev l k).a = (((ev l a).a.toNat : Nat) : Int) then 1 else 0 := by split <;> decide
          omega
    · by_cases hnk : (ev l k).a = j
      · exact .inr ⟨k, .self k, hnk, (own j hj hnk).symm⟩
      · have e := eqk j hj
        rw [if_neg hnk, Int.add_zero] at e
        have hmax : max (clk N l (pr0 l k) j) (clk N l (pr1 l k) j) = clk N l (pr0 l k) j ∨ max (clk N l (pr0 l k) j) (clk N l (pr1 l k) j) = clk N l (pr1 l k) j := by omega
        rcases hmax with hm | hm
        · rcases side _ (.inl rfl) j hj with h | ⟨a, h2, _, h4, h5⟩
          · left; rw [e, hm, h]
          · exact .inr ⟨a, h2, h4, by rw [e, hm, h5]⟩
        · rcases side _ (.inr rfl) j hj with h | ⟨a, h2, _, h4, h5⟩
          · left; rw [e, hm, h]
          · exact .inr ⟨a, h2, h4, by rw [e, hm, h5]⟩
theorem evs_nd {N : Nat} {l : List P2} (h : goodEvs N l = true) : ∀ k, k < l.length → 0 ≤ (ev l k).a ∧ (ev l k).a < N := fun k hk => by
  obtain ⟨_, _, _, h4⟩ := goodEvs_get h
  obtain ⟨g1, g2, _⟩ := h4 k hk _ (ev_some hk)
  exact ⟨g1, by omega⟩
/-- One event came first for another just if its clock has it. -/
theorem came_first {N : Nat} {l : List P2} (h : goodEvs N l = true) {a b : Nat} (ha : a < l.length) (hb : b < l.length) : (firstV l b).contains (a : Int) = (!decide (a = b) && decide (clk N l a (ev l a).a.toNat ≤ clk N l b (ev l a).a.toNat)) := by
  have he := evs_of h
  have hn := evs_nd h
  have ho : clk N l a (ev l a).a.toNat = atV l a := by
    have h1 := (clk_law he hn a ha).1 a (.self a)
    have hj : (((ev l a).a.toNat : Nat) : Int) = (ev l a).a := Int.toNat_of_nonneg (hn a ha).1
    rcases (clk_law he hn a ha).2 (ev l a).a.toNat (by have := hn a ha; omega) with h2 | ⟨c, h2, h3, h4⟩
    · have : 1 ≤ atV l a := by rw [atV_ev ha]; omega
      omega
    · have hca := h2.le he ha
      rw [← h4, atV_suc (by omega), atV_suc ha, h3, hj]
      have := cnt_mono (l := l) (a := c + 1) (b := a + 1) (by omega) (by omega) (ev l a).a
      rw [atV_suc ha, ← h4, atV_suc (by omega), h3, hj] at h1
      omega
  rw [Bool.eq_iff_iff]
  simp only [List.contains_eq_mem, decide_eq_true_eq, Bool.and_eq_true, Bool.not_eq_true', decide_eq_false_iff_not]
  rw [first_iff he hb, ho]
  constructor
  · rintro ⟨h1, h2⟩
    exact ⟨h1, (clk_law he hn b hb).1 a h2⟩
  · rintro ⟨h1, h2⟩
    refine ⟨h1, ?_⟩
    have hj : (((ev l a).a.toNat : Nat) : Int) = (ev l a).a := Int.toNat_of_nonneg (hn a ha).1
    have h1' : 1 ≤ atV l a := by rw [atV_ev ha]; omega
    rcases (clk_law he hn b hb).2 (ev l a).a.toNat (by have := hn a ha; omega) with h3 | ⟨c, h3, h4, h5⟩
    · omega
    · rw [hj] at h4
      have hcb := h3.le he hb
      -- a is at or ahead of c at their node
      have key : ∀ (c : Nat), c < l.length → (ev l c).a = (ev l a).a → atV l a ≤ atV l c → An l a c := by
        intro c
        induction c using Nat.strongRecOn with
        | ind c ihc =>
          intro hc hcn hle
          by_cases e : a = c
          · subst e; exact .self _
          · obtain ⟨q1, q2⟩ := prior_cnt (l := l) (x := (ev l c).a) (k := c) (by omega)
            rw [atV_suc ha, atV_ev hc, hcn] at hle
            have hac : a < c := by
              apply Classical.byContradiction
              intro hge
              have := cnt_mono (l := l) (a := c + 1) (b := a) (by omega) (by omega) (ev l a).a
              rw [cnt_succ (ev_some hc), if_pos hcn] at this
              rw [cnt_succ (ev_some ha), if_pos rfl] at hle
              omega
            have hpos : 0 ≤ lastAt l c (ev l c).a := by
              apply Classical.byContradiction
              intro hneg
              have h0 := q1 (by omega)
              have := cnt_mono (l := l) (a := a + 1) (b := c) (by omega) (by omega) (ev l a).a
              rw [cnt_succ (ev_some ha), if_pos rfl] at this
              rw [hcn] at h0
              omega
            obtain ⟨q3, q4⟩ := q2 hpos
            have hlt := (lastAt_bd l c (ev l c).a).2
            have hpe : (((lastAt l c (ev l c).a).toNat : Nat) : Int) = lastAt l c (ev l c).a := Int.toNat_of_nonneg hpos
            refine .step (p := (lastAt l c (ev l c).a).toNat) (.inl hpe) (ihc _ (by omega) (by omega) (q3.trans hcn) ?_)
            rw [atV_suc ha, atV_suc (by omega), q3, hcn]
            have := cnt_mono (l := l) (a := a + 1) (b := c) (by omega) (by omega) (ev l a).a
            rw [hcn] at q4
            omega
      exact h3.trans (key c (by omega) h4 (by omega))
/-- The greatest number of each node in a list of events. -/
def cutF (l : List P2) (L : List Int) : Nat → Nat → Int
  | 0, _ => 0
  | t + 1, j => if (ev l (L.getD t 0).toNat).a = j ∧ cutF l L t j < atV l (L.getD t 0).toNat then atV l (L.getD t 0).toNat else cutF l L t j
theorem cutF_ge {l : List P2} {L : List Int} {j : Nat} : ∀ {t s : Nat}, s < t → (ev l (L.getD s 0).toNat).a = j → atV l (L.getD s 0).toNat ≤ cutF l L t j
  | t + 1, s, hs, hj => by
    simp only [cutF]
    by_cases e : s = t
    · subst e
      split <;> omega
    · have := cutF_ge (l := l) (L := L) (j := j) (t := t) (s := s) (by omega) hj
      split <;> omega
theorem cutF_is {l : List P2} {L : List Int} {j : Nat} : ∀ {t : Nat}, t ≤ L.length → cutF l L t j = 0 ∨ ∃ s, s < t ∧ (ev l (L.getD s 0).toNat).a = j ∧ atV l (L.getD s 0).toNat = cutF l L t j
  | 0, _ => .inl rfl
  | t + 1, ht => by
    by_cases h : (ev l (L.getD t 0).toNat).a = j ∧ cutF l L t j < atV l (L.getD t 0).toNat
    · right
      refine ⟨t, by omega, h.1, ?_⟩
      simp only [cutF]
      rw [if_pos h]
    · have e : cutF l L (t + 1) j = cutF l L t j := if_neg h
      rw [e]
      rcases cutF_is (l := l) (L := L) (j := j) (t := t) (by omega) with h | ⟨s, h1, h2, h3⟩
      · exact .inl h
      · exact .inr ⟨s, by omega, h2, h3⟩
theorem cutF_nonneg {l : List P2} {L : List Int} {j : Nat} : ∀ {t : Nat}, 0 ≤ cutF l L t j
  | 0 => Int.le_refl _
  | t + 1 => by
    simp only [cutF]
    have := cutF_nonneg (l := l) (L := L) (j := j) (t := t)
    have := (atV_bd l (L.getD t 0).toNat).1
    split <;> omega
/-- The cut of an event is its clock. -/
theorem cut_clk {N : Nat} {l : List P2} (h : goodEvs N l = true) {k : Nat} (hk : k < l.length) {j : Nat} (hj : j < N) : cutF l (firstV l k ++ [(k : Int)]) (firstV l k ++ [(k : Int)]).length j = (rowV N l k).getD j 0 := by
  have he := evs_of h
  have hn := evs_nd h
  have ec : (rowV N l k).getD j 0 = clk N l k j := by unfold clk; rw [if_pos (by omega), Int.toNat_natCast]
  rw [ec]
  have mem : ∀ s, s < (firstV l k ++ [(k : Int)]).length → ∃ a : Nat, (firstV l k ++ [(k : Int)]).getD s 0 = a ∧ a < l.length ∧ An l a k := by
    intro s hs
    have hm : (firstV l k ++ [(k : Int)]).getD s 0 ∈ firstV l k ++ [(k : Int)] := by
      rw [List.getD_eq_getElem?_getD, List.getElem?_eq_getElem hs]; exact List.getElem_mem _
    rcases List.mem_append.1 hm with h1 | h1
    · have hb := first_bd he hk _ h1
      have e : (((firstV l k ++ [(k : Int)]).getD s 0).toNat : Int) = (firstV l k ++ [(k : Int)]).getD s 0 := Int.toNat_of_nonneg hb.1
      refine ⟨_, e.symm, by omega, ?_⟩
      rw [← e] at h1
      exact ((first_iff he hk _).1 h1).2
    · exact ⟨k, List.mem_singleton.1 h1, hk, .self k⟩
  have upper : cutF l (firstV l k ++ [(k : Int)]) (firstV l k ++ [(k : Int)]).length j ≤ clk N l k j := by
    rcases cutF_is (l := l) (L := firstV l k ++ [(k : Int)]) (j := j) (Nat.le_refl _) with h1 | ⟨s, h1, h2, h3⟩
    · rw [h1]; exact clk_nonneg (by omega) _
    · obtain ⟨a, h4, h5, h6⟩ := mem s h1
      rw [← h3, h4, Int.toNat_natCast]
      rw [h4, Int.toNat_natCast] at h2
      have := (clk_law he hn k hk).1 a h6
      rwa [h2, Int.toNat_natCast] at this
  have lower : clk N l k j ≤ cutF l (firstV l k ++ [(k : Int)]) (firstV l k ++ [(k : Int)]).length j := by
    rcases (clk_law he hn k hk).2 j hj with h1 | ⟨a, h1, h2, h3⟩
    · rw [h1]; exact cutF_nonneg
    · have hm : (a : Int) ∈ firstV l k ++ [(k : Int)] := by
        rw [List.mem_append]
        by_cases e : a = k
        · right; rw [e]; exact List.mem_singleton_self _
        · left; exact (first_iff he hk a).2 ⟨e, h1⟩
      obtain ⟨s, hs, es⟩ := List.mem_iff_getElem.1 hm
      have eg : (firstV l k ++ [(k : Int)]).getD s 0 = a := by rw [List.getD_eq_getElem?_getD, List.getElem?_eq_getElem hs]; exact es
      have := cutF_ge (l := l) (L := firstV l k ++ [(k : Int)]) (j := j) (t := (firstV l k ++ [(k : Int)]).length) (s := s) hs (by rw [eg, Int.toNat_natCast]; exact h2)
      rw [eg, Int.toNat_natCast] at this
      omega
  omega
end Go.Proofs.Ytmkhahiefdcinaa

/-
  Sets of events in the reference.
-/
namespace Go.Proofs.Ytmkhahiefdcinaa
open Go.ChangeShapes Go.WideShapes Go.ChangeAt Go.RowKit Go.BigFrame Go.Deep
set_option linter.unusedVariables false
set_option linter.unusedSimpArgs false
theorem vca_el_30_1 : elemB Try.prog 30 1 = true := by kernel_rfl
theorem vca_pl_3 : plainB Try.prog 3 = true := by kernel_rfl
theorem vca_sl_30 : sliceB Try.prog 30 = true := by kernel_rfl
theorem has_no {l : List Int} {p : Int} (h : ∀ j, j < l.length → l.getD j 0 ≠ p) : l.contains p = false := by
  rw [List.contains_eq_mem]
  refine decide_eq_false fun hm => ?_
  obtain ⟨i, hi, e⟩ := List.mem_iff_getElem.1 hm
  refine h i hi ?_
  rw [List.getD_eq_getElem?_getD, List.getElem?_eq_getElem hi]; exact e
theorem has_yes {l : List Int} {p : Int} {k : Nat} (hk : k < l.length) (h : l.getD k 0 = p) : l.contains p = true := by
  rw [List.contains_eq_mem]
  refine decide_eq_true ?_
  rw [← h, List.getD_eq_getElem?_getD, List.getElem?_eq_getElem hk]; exact List.getElem_mem _
theorem posI_eq {o : List Int} {p : Int} {k : Nat} (hk : k ≤ o.length) (h1 : ∀ j, j < k → o.getD j 0 < p) (h2 : k < o.length → ¬ o.getD k 0 < p) : posI o p = k := by
  have at_ : ∀ j (hj : j < o.length), o.getD j 0 = o[j] := fun j hj => by rw [List.getD_eq_getElem?_getD, List.getElem?_eq_getElem hj]; rfl
  unfold posI
  rcases Nat.lt_trichotomy (o.findIdx fun x => decide (p ≤ x)) k with h | h | h
  · have hl : (o.findIdx fun x => decide (p ≤ x)) < o.length := by omega
    have := of_decide_eq_true (List.findIdx_getElem (w := hl))
    have g := h1 _ h
    rw [at_ _ hl] at g
    omega
  · exact h
  · have hle : (o.findIdx fun x => decide (p ≤ x)) ≤ o.length := List.findIdx_le_length
    have hl : k < o.length := by omega
    have g := of_decide_eq_false (List.not_of_lt_findIdx h)
    have := h2 hl
    rw [at_ _ hl] at this
    omega
theorem put_at {o : List Int} {p : Int} {k i : Nat} (hk : k ≤ o.length) : (o.take k ++ (p :: o.drop k)).getD i 0 = if i < k then o.getD i 0 else if i = k then p else o.getD (i - (k + 1) + k) 0 := by
  rw [List.getD_eq_getElem?_getD]
  by_cases h : i < k
  · rw [if_pos h, List.getElem?_append_left (by rw [List.length_take]; omega), List.getElem?_take, if_pos h, List.getD_eq_getElem?_getD]
  · rw [if_neg h, List.getElem?_append_right (by rw [List.length_take]; omega), List.length_take, Nat.min_eq_left hk]
    by_cases e : i = k
    · rw [if_pos e, e, Nat.sub_self]; rfl
    · rw [if_neg e, show i - k = (i - (k + 1)) + 1 by omega, List.getElem?_cons_succ, List.getElem?_drop, List.getD_eq_getElem?_getD, Nat.add_comm k]
theorem q_push {q q1 n : Nat} {F H : Nat → Nat → AV} {w : List Int} {p : Int} (hF : ∀ i, i < w.length → F (q + i) 0 = .int .i64 (w.getD i 0)) (hn : n - q = w.length)
    (hv : ∀ i j, i < n - q + 1 → j < 1 → H (q1 + i) j = if i < n - q then F (q + i) j else (fun _ jc => ([.int .i64 p] : List AV).getD jc (.con undef)) (i - (n - q)) j) : ∀ i, i < (w ++ [p]).length → H (q1 + i) 0 = .int .i64 ((w ++ [p]).getD i 0) := by
  intro i hi
  rw [List.length_append, List.length_singleton] at hi
  rw [hv i 0 (by omega) (by omega), hn]
  by_cases h : i < w.length
  · rw [if_pos h, hF i h]
    congr 1
    rw [List.getD_eq_getElem?_getD, List.getD_eq_getElem?_getD, List.getElem?_append_left h]
  · obtain rfl : i = w.length := by omega
    rw [if_neg h, List.getD_eq_getElem?_getD, List.getElem?_append_right (Nat.le_refl _), Nat.sub_self]; rfl
def pj (l : List P2) (i j : Nat) : Int := if j = 0 then pr0 l i else pr1 l i
def inO (o : List Int) (p0 p1 : Int) : Nat → List Int
  | 0 => o
  | 1 => stpO o p0
  | _ => stpO (stpO o p0) p1
def inW (o wl : List Int) (p0 p1 : Int) : Nat → List Int
  | 0 => wl
  | 1 => stpW o wl p0
  | _ => stpW (stpO o p0) (stpW o wl p0) p1
theorem inO_suc {o : List Int} {l : List P2} {i j : Nat} (hj : j < 2) : inO o (pr0 l i) (pr1 l i) (j + 1) = stpO (inO o (pr0 l i) (pr1 l i) j) (pj l i j) := by
  match j, hj with
  | 0, _ => rfl
  | 1, _ => rfl
theorem inW_suc {o wl : List Int} {l : List P2} {i j : Nat} (hj : j < 2) : inW o wl (pr0 l i) (pr1 l i) (j + 1) = stpW (inO o (pr0 l i) (pr1 l i) j) (inW o wl (pr0 l i) (pr1 l i) j) (pj l i j) := by
  match j, hj with
  | 0, _ => rfl
  | 1, _ => rfl
theorem inO_len {o : List Int} {p0 p1 : Int} : ∀ j, (inO o p0 p1 j).length ≤ o.length + 2 := by
  have h : ∀ (o : List Int) p, (stpO o p).length ≤ o.length + 1 := fun o p => by unfold stpO; split; (· rw [put_len]; exact Nat.le_refl _); (· omega)
  intro j
  match j with
  | 0 => exact Nat.le_add_right _ _
  | 1 => have := h o p0; show (stpO o p0).length ≤ _; omega
  | _ + 2 => have := h o p0; have := h (stpO o p0) p1; show (stpO (stpO o p0) p1).length ≤ _; omega
theorem inW_len {o wl : List Int} {p0 p1 : Int} : ∀ j, (inW o wl p0 p1 j).length ≤ wl.length + 2 := by
  have h : ∀ (o wl : List Int) p, (stpW o wl p).length ≤ wl.length + 1 := fun o wl p => by unfold stpW; split; (· simp); (· omega)
  intro j
  match j with
  | 0 => exact Nat.le_add_right _ _
  | 1 => have := h o wl p0; show (stpW o wl p0).length ≤ _; omega
  | _ + 2 => have := h o wl p0; have := h (stpO o p0) (stpW o wl p0) p1; show (stpW (stpO o p0) (stpW o wl p0) p1).length ≤ _; omega
structure Q1 where
  o : List Int
  wl : List Int
  q : Nat
  m : Nat
  F : Nat → Nat → AV
structure Q2 where
  j : Nat
  q : Nat
  F : Nat → Nat → AV
structure Q1ok (l : List P2) (k : Nat) (v : Q1) : Prop where
  scl : ∀ i j, (v.F i j).scl = true
  val : ∀ i, i < v.wl.length → v.F (v.q + i) 0 = .int .i64 (v.wl.getD i 0)
  run : bfs l v.m v.o v.wl = firstV l k
  meas : measI l v.o v.wl ≤ v.m
  ino : inL l v.o
  inw : inL l v.wl
  bq : v.q + v.m ≤ 2 * l.length + 1
  bo : v.o.length + 2 * v.m ≤ 4 * l.length + 2
theorem v_Has (l : List Int) (p : Int) : Fn Try.prog 45 [.one (.lst 1 l.length (fun i0 _ => .int .i64 (l.getD i0 0))), .one (.int .i64 p)] (.one (.bool (l.contains p))) := by
  refine Fn.of_body (fn := Try.f45) Try.func45 rfl (Nat.le_of_ble_eq_true rfl) trivial ?_
  intro w0
  show AW _ 17 _ _ _ _
  refine AW.bound (t := 0) rfl fun hx => ?_
  refine AW.seq ?_
  refine AW.region ?_
  refine ARun.pure (PureOp.assign rfl .bool) rfl rfl (Nat.le_of_ble_eq_true rfl) ?_
  refine ARun.nil ?_
  refine AW.seq ?_
  refine AW.seq ?_
  refine AW.region ?_
  refine ARun.pure (PureOp.move rfl (.tmp rfl)) rfl rfl (Nat.le_of_ble_eq_true rfl) ?_
  refine ARun.pure (PureOp.lenLst rfl (.tmp rfl) vca_sl_30) rfl rfl (Nat.le_of_ble_eq_true rfl) ?_
  refine ARun.pure (PureOp.move rfl .int) rfl rfl (Nat.le_of_ble_eq_true rfl) ?_
  refine ARun.nil ?_
  refine AW.block ?_
  refine AW.loop (ι := Nat) (fun k => ⟨[(1, .one (.int .i64 p)), (7, .one (.lst 1 l.length (fun i0 _ => .int .i64 (l.getD i0 0)))), (8, .one (.int .i64 (l.length : Int))), (9, .one (.int .i64 (k : Int)))], []⟩) (fun k => k ≤ l.length ∧ ∀ j, j < k → l.getD j 0 ≠ p) (fun k => l.length - k) 0 ⟨Nat.zero_le _, fun j hj => absurd hj (by omega)⟩ ⟨⟨⟨_, rfl, rfl⟩, ⟨_, rfl, rfl⟩, ⟨_, rfl, rfl⟩, ⟨_, rfl, rfl⟩, trivial⟩, trivial⟩ ?_
  intro k hI
  obtain ⟨hk, hks⟩ := hI
  refine AW.seq ?_
  refine AW.region ?_
  refine ARun.pure (PureOp.intOp rfl (.tmp rfl) (.tmp rfl) rfl) rfl rfl (Nat.le_of_ble_eq_true rfl) ?_
  refine ARun.nil ?_
  refine AW.seq ?_
  refine AW.cond (.tmp rfl) (fun hb1 => ?_) (fun hb1 => ?_)
  · have _u := True.intro
    replace hb1 := of_decide_eq_true hb1
    have hkl : k < l.length := by omega
    refine AW.skip ?_
    refine AW.seq ?_
    refine AW.block ?_
    refine AW.seq ?_
    refine AW.region ?_
    refine ARun.pure (PureOp.indexLst (i := k) rfl (.tmp rfl) vca_el_30_1 (.tmp rfl) rfl (by omega)) rfl rfl (Nat.le_of_ble_eq_true rfl) ?_
    refine ARun.pure (PureOp.loadRef rfl (.tmp rfl) vca_pl_3 (Nat.le_of_ble_eq_true rfl)) rfl rfl (Nat.le_of_ble_eq_true rfl) ?_
    refine ARun.pure (PureOp.assign rfl (.tmp rfl)) rfl rfl (Nat.le_of_ble_eq_true rfl) ?_
    refine ARun.nil ?_
    refine AW.seq ?_
    refine AW.region ?_
    refine ARun.pure (PureOp.move rfl (.tmp rfl)) rfl rfl (Nat.le_of_ble_eq_true rfl) ?_
    refine ARun.pure (PureOp.move rfl (.tmp rfl)) rfl rfl (Nat.le_of_ble_eq_true rfl) ?_
    refine ARun.pure (PureOp.intOp rfl (.tmp rfl) (.tmp rfl) rfl) rfl rfl (Nat.le_of_ble_eq_true rfl) ?_
    refine ARun.nil ?_
    refine AW.cond (.tmp rfl) (fun hb2 => ?_) (fun hb2 => ?_)
    · have _u := True.intro
      replace hb2 := of_decide_eq_true hb2
      refine AW.seq ?_
      refine AW.region ?_
      refine ARun.pure (PureOp.assign rfl .bool) rfl rfl (Nat.le_of_ble_eq_true rfl) ?_
      refine ARun.nil ?_
      refine AW.ret (show ResL _ _ [.tmp 4] _ from resB rfl ?_)
      exact (has_yes hkl hb2).symm
    · have _u := True.intro
      replace hb2 := of_decide_eq_false hb2
      have hne := hb2
      refine AW.skip ?_
      refine AW.region ?_
      refine ARun.pure (PureOp.add (c := ((k + 1 : Nat) : Int)) rfl (.tmp rfl) .int (by rw [wrap_id (by omega) (by omega)]; omega)) rfl rfl (Nat.le_of_ble_eq_true rfl) ?_
      refine ARun.pure (PureOp.move rfl (.tmp rfl)) rfl rfl (Nat.le_of_ble_eq_true rfl) ?_
      refine ARun.nil ?_
      exact ⟨k + 1, ⟨by omega, rng_succ (p := fun j => l.getD j 0 ≠ p) hks hne⟩, by dsimp only; omega, ⟨⟨⟨_, rfl, rfl⟩, ⟨_, rfl, rfl⟩, ⟨_, rfl, rfl⟩, ⟨_, rfl, rfl⟩, trivial⟩, trivial⟩⟩
  · have _u := True.intro
    replace hb1 := of_decide_eq_false hb1
    have hkl : ¬ k < l.length := by omega
    refine AW.exit ?_
    refine AW.seq ?_
    refine AW.region ?_
    refine ARun.pure (PureOp.assign rfl .bool) rfl rfl (Nat.le_of_ble_eq_true rfl) ?_
    refine ARun.nil ?_
    refine AW.ret (show ResL _ _ [.tmp 4] _ from resB rfl ?_)
    exact (has_no (fun j hj => hks j (by omega))).symm

theorem and_cond {a b : Bool} (h : cond a b false = true) : a = true ∧ b = true := by revert h; revert a b; decide
theorem and_cond2 {a b : Bool} (h : cond a b false = false) (ha : a = true) : b = false := by revert h ha; revert a b; decide
theorem v_Put (l : List Int) (p : Int) (hl : l.length ≤ 1000) (hno : l.contains p = false) : FnT Try.prog 68 [.one (.lst 1 l.length (fun i0 _ => .int .i64 (l.getD i0 0))), .one (.int .i64 p)] (.one (.lst 1 ((putI l p).length) (fun i0 _ => .int .i64 ((putI l p).getD i0 0)))) := by
  refine FnT.of_body (fn := Try.f68) Try.func68 rfl (Nat.le_of_ble_eq_true rfl)  ?_
  intro w0
  show AW _ 48 _ _ _ _
  refine AW.bound (t := 0) rfl fun hx => ?_
  refine AW.seq ?_
  refine AW.region ?_
  refine ARun.pure (PureOp.assign rfl .con) rfl rfl (Nat.le_of_ble_eq_true rfl) ?_
  refine ARun.nil ?_
  refine AW.seq ?_
  refine AW.region ?_
  refine ARun.pure (PureOp.assign rfl .int) rfl rfl (Nat.le_of_ble_eq_true rfl) ?_
  refine ARun.nil ?_
  refine AW.seq ?_
  refine AW.block ?_
  refine AW.loop (ι := Nat) (fun k => ⟨[(0, .one (.lst 1 l.length (fun i0 _ => .int .i64 (l.getD i0 0)))), (1, .one (.int .i64 p)), (5, .one (.int .i64 (k : Int)))], []⟩) (fun k => k ≤ l.length ∧ ∀ j, j < k → l.getD j 0 < p) (fun k => l.length - k) 0 ⟨Nat.zero_le _, fun j hj => absurd hj (by omega)⟩ ⟨⟨⟨_, rfl, rfl⟩, ⟨_, rfl, rfl⟩, ⟨_, rfl, rfl⟩, trivial⟩, trivial⟩ ?_
  intro k hI
  obtain ⟨hk, hq⟩ := hI
  refine AW.seq ?_
  refine AW.seq ?_
  refine AW.region ?_
  refine ARun.pure (PureOp.move rfl (.tmp rfl)) rfl rfl (Nat.le_of_ble_eq_true rfl) ?_
  refine ARun.pure (PureOp.move rfl (.tmp rfl)) rfl rfl (Nat.le_of_ble_eq_true rfl) ?_
  refine ARun.pure (PureOp.lenLst rfl (.tmp rfl) vca_sl_30) rfl rfl (Nat.le_of_ble_eq_true rfl) ?_
  refine ARun.pure (PureOp.intOp rfl (.tmp rfl) (.tmp rfl) rfl) rfl rfl (Nat.le_of_ble_eq_true rfl) ?_
  refine ARun.pure (PureOp.move rfl (.tmp rfl)) rfl rfl (Nat.le_of_ble_eq_true rfl) ?_
  refine ARun.gpure (want := true) (.tt rfl) (fun hg1 => PureOp.move rfl (.tmp rfl)) rfl rfl (Nat.le_of_ble_eq_true rfl) rfl (Nat.le_of_ble_eq_true rfl) ?_
  refine ARun.gpure (want := true) (.tt rfl) (fun hg2 => PureOp.move rfl (.tmp rfl)) rfl rfl (Nat.le_of_ble_eq_true rfl) rfl (Nat.le_of_ble_eq_true rfl) ?_
  refine ARun.gpure (want := true) (.tt rfl) (fun hg3 => PureOp.indexLst (i := k) rfl (.gtmp rfl hg3) vca_el_30_1 (.gtmp rfl hg3) rfl (by have q := hg3; simp only [Bool.cond_true_left, Bool.cond_false_right, Bool.not_eq_true', Bool.or_eq_false_iff, Bool.not_eq_false', Bool.and_eq_true, Bool.not_not, decide_eq_true_eq, decide_eq_false_iff_not, inB] at q; omega)) rfl rfl (Nat.le_of_ble_eq_true rfl) rfl (Nat.le_of_ble_eq_true rfl) ?_
  refine ARun.gpure (want := true) (.tt rfl) (fun hg4 => PureOp.loadRef rfl (.gtmp rfl hg4) vca_pl_3 (Nat.le_of_ble_eq_true rfl)) rfl rfl (Nat.le_of_ble_eq_true rfl) rfl (Nat.le_of_ble_eq_true rfl) ?_
  refine ARun.gpure (want := true) (.tt rfl) (fun hg5 => PureOp.move rfl (.tmp rfl)) rfl rfl (Nat.le_of_ble_eq_true rfl) rfl (Nat.le_of_ble_eq_true rfl) ?_
  refine ARun.gpure (want := true) (.tt rfl) (fun hg6 => PureOp.intOp rfl (.gtmp rfl hg6) (.gtmp rfl hg6) rfl) rfl rfl (Nat.le_of_ble_eq_true rfl) rfl (Nat.le_of_ble_eq_true rfl) ?_
  refine ARun.pure (PureOp.pick rfl (.tmp rfl) (fun hp7 => .gtmp rfl hp7) (fun _ => .bool)) rfl rfl (Nat.le_of_ble_eq_true rfl) ?_
  refine ARun.nil ?_
  refine AW.cond (.tmp rfl) (fun hb9 => ?_) (fun hb9 => ?_)
  · have _u := True.intro
    obtain ⟨ha, hb⟩ := and_cond hb9
    have hkl : k < l.length := by have := of_decide_eq_true ha; omega
    have hlt := of_decide_eq_true hb
    refine AW.skip ?_
    refine AW.block ?_
    refine AW.region ?_
    refine ARun.pure (PureOp.move rfl (.tmp rfl)) rfl rfl (Nat.le_of_ble_eq_true rfl) ?_
    refine ARun.pure (PureOp.add (c := ((k + 1 : Nat) : Int)) rfl (.tmp rfl) .int (by rw [wrap_id (by omega) (by omega)]; omega)) rfl rfl (Nat.le_of_ble_eq_true rfl) ?_
    refine ARun.pure (PureOp.assign rfl (.tmp rfl)) rfl rfl (Nat.le_of_ble_eq_true rfl) ?_
    refine ARun.nil ?_
    exact ⟨k + 1, ⟨by omega, fun j hj => (Nat.lt_succ_iff_lt_or_eq.1 hj).elim (hq j) (fun e => e ▸ hlt)⟩, by dsimp only; omega, ⟨⟨⟨_, rfl, rfl⟩, ⟨_, rfl, rfl⟩, ⟨_, rfl, rfl⟩, trivial⟩, trivial⟩⟩
  · have _u := True.intro
    have hge : k < l.length → ¬ l.getD k 0 < p := fun hkl => of_decide_eq_false (and_cond2 hb9 (decide_eq_true (by omega)))
    have hpos : posI l p = k := posI_eq hk hq hge
    refine AW.exit ?_
    refine AW.seq ?_
    refine AW.seq ?_
    refine AW.region ?_
    refine ARun.pure (PureOp.move rfl (.tmp rfl)) rfl rfl (Nat.le_of_ble_eq_true rfl) ?_
    refine ARun.pure (PureOp.move rfl (.tmp rfl)) rfl rfl (Nat.le_of_ble_eq_true rfl) ?_
    refine ARun.pure (PureOp.lenLst rfl (.tmp rfl) vca_sl_30) rfl rfl (Nat.le_of_ble_eq_true rfl) ?_
    refine ARun.pure (PureOp.intOp rfl (.tmp rfl) (.tmp rfl) rfl) rfl rfl (Nat.le_of_ble_eq_true rfl) ?_
    refine ARun.pure (PureOp.move rfl (.tmp rfl)) rfl rfl (Nat.le_of_ble_eq_true rfl) ?_
    refine ARun.gpure (want := true) (.tt rfl) (fun hg10 => PureOp.move rfl (.tmp rfl)) rfl rfl (Nat.le_of_ble_eq_true rfl) rfl (Nat.le_of_ble_eq_true rfl) ?_
    refine ARun.gpure (want := true) (.tt rfl) (fun hg11 => PureOp.move rfl (.tmp rfl)) rfl rfl (Nat.le_of_ble_eq_true rfl) rfl (Nat.le_of_ble_eq_true rfl) ?_
    refine ARun.gpure (want := true) (.tt rfl) (fun hg12 => PureOp.indexLst (i := k) rfl (.gtmp rfl hg12) vca_el_30_1 (.gtmp rfl hg12) rfl (by have q := hg12; simp only [Bool.cond_true_left, Bool.cond_false_right, Bool.not_eq_true', Bool.or_eq_false_iff, Bool.not_eq_false', Bool.and_eq_true, Bool.not_not, decide_eq_true_eq, decide_eq_false_iff_not, inB] at q; omega)) rfl rfl (Nat.le_of_ble_eq_true rfl) rfl (Nat.le_of_ble_eq_true rfl) ?_
    refine ARun.gpure (want := true) (.tt rfl) (fun hg13 => PureOp.loadRef rfl (.gtmp rfl hg13) vca_pl_3 (Nat.le_of_ble_eq_true rfl)) rfl rfl (Nat.le_of_ble_eq_true rfl) rfl (Nat.le_of_ble_eq_true rfl) ?_
    refine ARun.gpure (want := true) (.tt rfl) (fun hg14 => PureOp.move rfl (.tmp rfl)) rfl rfl (Nat.le_of_ble_eq_true rfl) rfl (Nat.le_of_ble_eq_true rfl) ?_
    refine ARun.gpure (want := true) (.tt rfl) (fun hg15 => PureOp.intOp rfl (.gtmp rfl hg15) (.gtmp rfl hg15) rfl) rfl rfl (Nat.le_of_ble_eq_true rfl) rfl (Nat.le_of_ble_eq_true rfl) ?_
    refine ARun.pure (PureOp.pick rfl (.tmp rfl) (fun hp16 => .gtmp rfl hp16) (fun _ => .bool)) rfl rfl (Nat.le_of_ble_eq_true rfl) ?_
    refine ARun.nil ?_
    refine AW.cond (.tmp rfl) (fun hb18 => ?_) (fun hb18 => ?_)
    · have _u := True.intro
      exfalso
      obtain ⟨ha, hb⟩ := and_cond hb18
      have hkl : k < l.length := by have := of_decide_eq_true ha; omega
      rw [has_yes hkl (of_decide_eq_true hb)] at hno
      cases hno
      --end
    · have _u := True.intro
      have hpl : (putI l p).length = l.length + 1 := put_len l p
      refine AW.skip ?_
      refine AW.seq ?_
      refine AW.region ?_
      refine ARun.pure (PureOp.assign rfl .con) rfl rfl (Nat.le_of_ble_eq_true rfl) ?_
      refine ARun.nil ?_
      refine AW.seq ?_
      refine AW.region ?_
      refine ARun.pure (PureOp.move rfl (.tmp rfl)) rfl rfl (Nat.le_of_ble_eq_true rfl) ?_
      refine ARun.pure (PureOp.move rfl (.tmp rfl)) rfl rfl (Nat.le_of_ble_eq_true rfl) ?_
      refine ARun.pure (PureOp.move rfl (.tmp rfl)) rfl rfl (Nat.le_of_ble_eq_true rfl) ?_
      refine ARun.pure (PureOp.takeLst (k := k) rfl (.tmp rfl) (.tmp rfl) rfl (by omega) vca_el_30_1) rfl rfl (Nat.le_of_ble_eq_true rfl) ?_
      refine ARun.append (id := 0) (sz := 1) (n := 0) (m := k) (by_ := 8) (z := (.int .i64 0)) (f := fun _ _ => .con undef) (g := fun i0 _ => .int .i64 (l.getD i0 0)) (h := fun ia ja => if ia < 0 then (fun _ _ => .con undef) ia ja else (fun i0 _ => .int .i64 (l.getD i0 0)) (ia - 0) ja) rfl (by kernel_rfl) rfl vca_sl_30 (.nil (.tmp rfl) rfl) (.lst (.tmp rfl)) (by decide) (fun i j hi hj => match j, hj with | 0, _ => rfl | _ + 1, h => absurd h (by omega)) (fun _ _ _ _ => rfl) (by omega) (by omega) ⟨rfl, (by repeat first | exact trivial | refine ⟨by decide, by first | rfl | exact trivial | (intro i j; first | rfl | exact getD_no rfl | (dsimp only; split <;> first | rfl | exact getD_no rfl) | exact scl_no (by apply_assumption) _), ?_⟩)⟩ (fun i j => by dsimp only; (repeat' split) <;> first | rfl | exact getD_no rfl) rfl rfl (Nat.le_of_ble_eq_true rfl) ?_
      refine ARun.pure (PureOp.assign rfl (.tmp rfl)) rfl rfl (Nat.le_of_ble_eq_true rfl) ?_
      refine ARun.nil ?_
      refine AW.seq ?_
      refine AW.region ?_
      refine ARun.pure (PureOp.move rfl (.tmp rfl)) rfl rfl (Nat.le_of_ble_eq_true rfl) ?_
      refine ARun.pure (PureOp.move rfl (.tmp rfl)) rfl rfl (Nat.le_of_ble_eq_true rfl) ?_
      refine ARun.slice1 (id := 1) (z := (.int .i64 0)) (by_ := 8) rfl (.tmp rfl) trivial (by kernel_rfl) rfl rfl (by decide) (by decide) ⟨rfl, (by repeat first | exact trivial | refine ⟨by decide, by first | rfl | exact trivial | (intro i j; first | rfl | exact getD_no rfl | (dsimp only; split <;> first | rfl | exact getD_no rfl) | exact scl_no (by apply_assumption) _), ?_⟩)⟩ rfl rfl rfl (Nat.le_of_ble_eq_true rfl) ?_
      refine ARun.append (id := 2) (sz := 1) (n := (0 + k)) (m := 1) (by_ := 8) (z := (.int .i64 0)) (f := fun ia ja => if ia < 0 then (fun _ _ => .con undef) ia ja else (fun i0 _ => .int .i64 (l.getD i0 0)) (ia - 0) ja) (g := fun _ jc => ([.int .i64 p] : List AV).getD jc (.con undef)) (h := fun ia ja => if ia < (0 + k) then (fun ia ja => if ia < 0 then (fun _ _ => .con undef) ia ja else (fun i0 _ => .int .i64 (l.getD i0 0)) (ia - 0) ja) ia ja else (fun _ jc => ([.int .i64 p] : List AV).getD jc (.con undef)) (ia - (0 + k)) ja) rfl (by kernel_rfl) rfl vca_sl_30 (.own (.tmp rfl) rfl rfl rfl (Nat.le_refl _) (fun _ _ _ _ => rfl)) (.own (.tmp rfl) rfl rfl (Nat.le_refl _) (fun _ _ _ _ => rfl)) (by decide) (fun i j hi hj => match j, hj with | 0, _ => rfl | _ + 1, h => absurd h (by omega)) (fun _ _ _ _ => rfl) (by omega) (by omega) ⟨rfl, (by repeat first | exact trivial | refine ⟨by decide, by first | rfl | exact trivial | (intro i j; first | rfl | exact getD_no rfl | (dsimp only; split <;> first | rfl | exact getD_no rfl) | exact scl_no (by apply_assumption) _), ?_⟩)⟩ (fun i j => by dsimp only; (repeat' split) <;> first | rfl | exact getD_no rfl) rfl rfl (Nat.le_of_ble_eq_true rfl) ?_
      refine ARun.pure (PureOp.assign rfl (.tmp rfl)) rfl rfl (Nat.le_of_ble_eq_true rfl) ?_
      refine ARun.nil ?_
      refine AW.seq ?_
      refine AW.region ?_
      refine ARun.pure (PureOp.move rfl (.tmp rfl)) rfl rfl (Nat.le_of_ble_eq_true rfl) ?_
      refine ARun.pure (PureOp.move rfl (.tmp rfl)) rfl rfl (Nat.le_of_ble_eq_true rfl) ?_
      refine ARun.pure (PureOp.move rfl (.tmp rfl)) rfl rfl (Nat.le_of_ble_eq_true rfl) ?_
      refine ARun.pure (PureOp.dropLst (k := k) rfl (.tmp rfl) (.tmp rfl) rfl (by omega) vca_el_30_1) rfl rfl (Nat.le_of_ble_eq_true rfl) ?_
      refine ARun.append (id := 3) (sz := 1) (n := ((0 + k) + 1)) (m := (l.length - k)) (by_ := 8) (z := (.int .i64 0)) (f := fun ia ja => if ia < (0 + k) then (fun ia ja => if ia < 0 then (fun _ _ => .con undef) ia ja else (fun i0 _ => .int .i64 (l.getD i0 0)) (ia - 0) ja) ia ja else (fun _ jc => ([.int .i64 p] : List AV).getD jc (.con undef)) (ia - (0 + k)) ja) (g := fun id_ jd_ => (fun i0 _ => .int .i64 (l.getD i0 0)) (id_ + k) jd_) (h := fun ia ja => if ia < ((0 + k) + 1) then (fun ia ja => if ia < (0 + k) then (fun ia ja => if ia < 0 then (fun _ _ => .con undef) ia ja else (fun i0 _ => .int .i64 (l.getD i0 0)) (ia - 0) ja) ia ja else (fun _ jc => ([.int .i64 p] : List AV).getD jc (.con undef)) (ia - (0 + k)) ja) ia ja else (fun id_ jd_ => (fun i0 _ => .int .i64 (l.getD i0 0)) (id_ + k) jd_) (ia - ((0 + k) + 1)) ja) rfl (by kernel_rfl) rfl vca_sl_30 (.own (.tmp rfl) rfl rfl rfl (Nat.le_refl _) (fun _ _ _ _ => rfl)) (.lst (.tmp rfl)) (by decide) (fun i j hi hj => match j, hj with | 0, _ => rfl | _ + 1, h => absurd h (by omega)) (fun _ _ _ _ => rfl) (by omega) (by omega) ⟨rfl, (by repeat first | exact trivial | refine ⟨by decide, by first | rfl | exact trivial | (intro i j; first | rfl | exact getD_no rfl | (dsimp only; split <;> first | rfl | exact getD_no rfl) | exact scl_no (by apply_assumption) _), ?_⟩)⟩ (fun i j => by dsimp only; (repeat' split) <;> first | rfl | exact getD_no rfl) rfl rfl (Nat.le_of_ble_eq_true rfl) ?_
      refine ARun.pure (PureOp.assign rfl (.tmp rfl)) rfl rfl (Nat.le_of_ble_eq_true rfl) ?_
      refine ARun.nil ?_
      exact AW.ret (show ∃ s t, ResL _ _ [.tmp 4] s ∧ TvS _ (ofLeaf t) 0 s _ from ⟨_, fun a b => if a = 3 then 0 else 1000, .inl ⟨_, rfl, .tmp rfl⟩, (Tv.flatN (by rw [hpl]; omega) rfl rfl rfl (Nat.le_refl _) (by rfl) (fun i j hi hj => by
      obtain rfl : j = 0 := by omega
      show _ = AV.int .i64 ((putI l p).getD i 0)
      unfold putI; rw [hpos, put_at hk]
      show (if i < 0 + k + 1 then (if i < 0 + k then (if i < 0 then _ else _) else _) else _) = _
      by_cases h1 : i < k
      · rw [if_pos (by omega), if_pos (by omega), if_neg (by omega), if_pos h1]; rfl
      · by_cases h2 : i = k
        · rw [if_pos (by omega), if_neg (by omega), if_neg h1, if_pos h2]; rfl
        · rw [if_neg (by omega), if_neg h1, if_neg h2]; show AV.int .i64 (l.getD (i - (0 + k + 1) + k) 0) = _; rw [Nat.zero_add]) (fun i j hi hj => match j, hj with | 0, _ => rfl | _ + 1, h => absurd h (by omega)))⟩)
end Go.Proofs.Ytmkhahiefdcinaa

/-
  What came first for an event, in the reference.
-/
namespace Go.Proofs.Ytmkhahiefdcinaa
open Go.ChangeShapes Go.WideShapes Go.ChangeAt Go.RowKit Go.BigFrame Go.Deep
set_option linter.unusedVariables false
set_option linter.unusedSimpArgs false
theorem vcf_ca_45 : callB Try.prog 45 = true := by kernel_rfl
theorem vcf_ca_52 : callB Try.prog 52 = true := by kernel_rfl
theorem vcf_ca_68 : callB Try.prog 68 = true := by kernel_rfl
theorem vcf_el_26_2 : elemB Try.prog 26 2 = true := by kernel_rfl
theorem vcf_el_30_1 : elemB Try.prog 30 1 = true := by kernel_rfl
theorem vcf_fi_64_1_1 : fieldB Try.prog 64 1 1 = true := by kernel_rfl
theorem vcf_pl_3 : plainB Try.prog 3 = true := by kernel_rfl
theorem vcf_sl_30 : sliceB Try.prog 30 = true := by kernel_rfl
theorem bfs_nil {l : List P2} {m : Nat} {o wl : List Int} (h : wl = []) : bfs l m o wl = o := by subst h; cases m <;> rfl
theorem newI_has {o : List Int} {p : Int} (h : newI o p = true) : o.contains p = false := by
  unfold newI at h; revert h; generalize o.contains p = a; generalize decide (0 ≤ p) = b; revert a b; decide
theorem q1_start {l : List P2} (he : Evs l) {k : Nat} (hk : k < l.length) : Q1ok l k ⟨[], [(k : Int)], 0, 2 * l.length + 1, fun _ jc => ([.int .i64 (k : Int)] : List AV).getD jc (.con undef)⟩ := by
  have hmiss : missI l [] ≤ l.length := by
    unfold missI
    exact Nat.le_trans (List.length_filter_le ..) (by simp)
  refine ⟨fun _ j => by cases j <;> rfl, fun i hi => ?_, rfl, by show measI l [] [(k : Int)] ≤ 2 * l.length + 1; unfold measI; simp; omega, fun x hx => (nomatch hx), fun x hx => ?_, by show 0 + (2 * l.length + 1) ≤ _; omega, by show 0 + 2 * (2 * l.length + 1) ≤ _; omega⟩
  · have hi : i < 1 := hi
    obtain rfl : i = 0 := by omega
    rfl
  · rw [List.mem_singleton.1 hx]; omega
theorem q1_pop {l : List P2} {v : Q1} (hmeas : measI l v.o v.wl ≤ v.m) (hinw : inL l v.wl) (h : 0 < v.wl.length) : ∃ (i : Nat) (w0 : List Int) (m' : Nat), v.wl = (i : Int) :: w0 ∧ i < l.length ∧ v.m = m' + 1 := by
  unfold measI at hmeas
  cases hw : v.wl with
  | nil => rw [hw] at h; simp at h
  | cons x w0 =>
    have hx := hinw x (by rw [hw]; exact List.mem_cons_self ..)
    refine ⟨x.toNat, w0, v.m - 1, ?_, by omega, by rw [hw, List.length_cons] at hmeas; omega⟩
    rw [Int.toNat_of_nonneg hx.1]
theorem q1_next {l : List P2} (he : Evs l) {k i m' : Nat} {v : Q1} {w0 : List Int} (hi : i < l.length) (hwl : v.wl = (i : Int) :: w0) (hm : v.m = m' + 1) (hrun : bfs l v.m v.o v.wl = firstV l k) (hmeas : measI l v.o v.wl ≤ v.m) (hino : inL l v.o) (hinw : inL l v.wl) {q : Nat} {F : Nat → Nat → AV} (hbq : q + m' ≤ 2 * l.length + 1) (hbo : v.o.length + 2 + 2 * m' ≤ 4 * l.length + 2)
    (hF : ∀ i j, (F i j).scl = true) (hval : ∀ r, r < (inW v.o w0 (pr0 l i) (pr1 l i) 2).length → F (q + r) 0 = .int .i64 ((inW v.o w0 (pr0 l i) (pr1 l i) 2).getD r 0)) : Q1ok l k ⟨inO v.o (pr0 l i) (pr1 l i) 2, inW v.o w0 (pr0 l i) (pr1 l i) 2, q, m', F⟩ := by
  have h0 : pr0 l i < l.length := by have := he.lt0 i hi; omega
  have h1 : pr1 l i < l.length := by have := he.lt1 i hi; omega
  have hw0 : inL l w0 := fun x hx => hinw x (by rw [hwl]; exact List.mem_cons_of_mem _ hx)
  refine ⟨hF, hval, ?_, ?_, inL_stp (inL_stp hino h0) h1, inL_stpW (inL_stpW hw0 h0) h1, hbq, ?_⟩
  · rw [hm, hwl] at hrun
    exact hrun
  · have g1 := meas_stp (l := l) (o := v.o) (wl := w0) h0
    have g2 := meas_stp (l := l) (o := stpO v.o (pr0 l i)) (wl := stpW v.o w0 (pr0 l i)) h1
    have g3 : measI l v.o v.wl = measI l v.o w0 + 1 := by unfold measI; rw [hwl, List.length_cons]; omega
    show measI l (stpO (stpO v.o (pr0 l i)) (pr1 l i)) _ ≤ m'
    show measI l (stpO (stpO v.o (pr0 l i)) (pr1 l i)) (stpW (stpO v.o (pr0 l i)) (stpW v.o w0 (pr0 l i)) (pr1 l i)) ≤ m'
    omega
  · have := inO_len (o := v.o) (p0 := pr0 l i) (p1 := pr1 l i) 2
    show (inO v.o (pr0 l i) (pr1 l i) 2).length + 2 * m' ≤ _
    omega
theorem v_First (n : Int) (l : List GEvent) (hg : goodEvs n l = true) (k : Nat) (hk : k < l.length) : FnT Try.prog 46 [.one (.lst 2 l.length (fun i0 j0 => ([.int .i64 ((l.getD i0 (default : GEvent)).a), .int .i64 ((l.getD i0 (default : GEvent)).b)] : List AV).getD j0 (.con undef))), .one (.int .i64 (k : Int))] (.one (.lst 1 ((firstV l k).length) (fun i0 _ => .int .i64 ((firstV l k).getD i0 0)))) := by
  have he := evs_of hg
  have hlen := (goodEvs_get hg).2.2.1
  obtain ⟨gn0, gn1, _⟩ := goodEvs_get hg
  refine FnT.of_body (fn := Try.f46) Try.func46 rfl (Nat.le_of_ble_eq_true rfl)  ?_
  intro w0
  show AW _ 51 _ _ _ _
  refine AW.seq ?_
  refine AW.region ?_
  refine ARun.pure (PureOp.assign rfl .con) rfl rfl (Nat.le_of_ble_eq_true rfl) ?_
  refine ARun.nil ?_
  refine AW.seq ?_
  refine AW.region ?_
  refine ARun.pure (PureOp.assign rfl .con) rfl rfl (Nat.le_of_ble_eq_true rfl) ?_
  refine ARun.nil ?_
  refine AW.seq ?_
  refine AW.region ?_
  refine ARun.pure (PureOp.move rfl (.tmp rfl)) rfl rfl (Nat.le_of_ble_eq_true rfl) ?_
  refine ARun.slice1 (id := 0) (z := (.int .i64 0)) (by_ := 8) rfl (.tmp rfl) trivial (by kernel_rfl) rfl rfl (by decide) (by decide) ⟨rfl, (by repeat first | exact trivial | refine ⟨by decide, by first | rfl | exact trivial | (intro i j; first | rfl | exact getD_no rfl | (dsimp only; split <;> first | rfl | exact getD_no rfl) | exact scl_no (by apply_assumption) _), ?_⟩)⟩ rfl rfl rfl (Nat.le_of_ble_eq_true rfl) ?_
  refine ARun.pure (PureOp.assign rfl (.tmp rfl)) rfl rfl (Nat.le_of_ble_eq_true rfl) ?_
  refine ARun.nil ?_
  refine AW.seq ?_
  refine AW.block ?_
  refine AW.nilSlot 5 900 1 (fun i _ => .int .i64 (([] : List Int).getD i 0)) rfl ⟨rfl, (by repeat first | exact trivial | refine ⟨by decide, by first | rfl | exact trivial | (intro i j; first | rfl | exact getD_no rfl | (dsimp only; split <;> first | rfl | exact getD_no rfl) | exact scl_no (by apply_assumption) _), ?_⟩)⟩ ?_
  refine AW.asTl 6 0 1 1 rfl ?_
  -- objects are renamed
  refine AW.loopR (ι := Q1) (fun v => ⟨[(0, .one (.lst 2 l.length (fun i0 j0 => ([.int .i64 ((l.getD i0 (default : GEvent)).a), .int .i64 ((l.getD i0 (default : GEvent)).b)] : List AV).getD j0 (.con undef)))), (5, .one (.own 900 1 v.o.length)), (6, .one (.tl 0 1 v.q (v.q + v.wl.length)))], [(0, .arr 1 (v.q + v.wl.length) v.F), (900, .arr 1 v.o.length (fun ii_ _ => .int .i64 (v.o.getD ii_ 0)))]⟩) (fun v => Q1ok l k v) (fun v => v.m) ⟨[], [(k : Int)], 0, 2 * l.length + 1, fun _ jc => ([.int .i64 (k : Int)] : List AV).getD jc (.con undef)⟩ (q1_start he hk) ⟨⟨⟨_, rfl, rfl⟩, ⟨_, rfl, rfl⟩, ⟨_, rfl, rfl⟩, trivial⟩, HeapLe.one rfl (HeapLe.one rfl trivial)⟩ ?_
  intro v hv
  obtain ⟨hF, hval, hrun, hmeas, hino, hinw, hbq, hbo⟩ := hv
  refine AW.seq ?_
  refine AW.seq ?_
  refine AW.region ?_
  refine ARun.pure (PureOp.move rfl (.tmp rfl)) rfl rfl (Nat.le_of_ble_eq_true rfl) ?_
  refine ARun.pure (PureOp.lenTl rfl (.tmp rfl) vcf_sl_30) rfl rfl (Nat.le_of_ble_eq_true rfl) ?_
  refine ARun.pure (PureOp.intOp rfl (.tmp rfl) .int rfl) rfl rfl (Nat.le_of_ble_eq_true rfl) ?_
  refine ARun.nil ?_
  refine AW.cond (.tmp rfl) (fun hb1 => ?_) (fun hb1 => ?_)
  · have _u := True.intro
    replace hb1 := of_decide_eq_true hb1
    obtain ⟨i, w0', m', hwl, hi, hm⟩ := q1_pop hmeas hinw (by omega)
    have hl0 : v.wl.length = w0'.length + 1 := by rw [hwl]; rfl
    have hwm : v.wl.length ≤ v.m := Nat.le_trans (Nat.le_add_left _ _) hmeas
    have hval_i : v.F (v.q + 0) 0 = .int .i64 (i : Int) := by rw [hval 0 (by omega), hwl]; rfl
    have hval0 : ∀ r, r < w0'.length → v.F (v.q + 1 + r) 0 = .int .i64 (w0'.getD r 0) := fun r hr => by rw [show v.q + 1 + r = v.q + (r + 1) by omega, hval (r + 1) (by omega), hwl]; rfl
    refine AW.skip ?_
    refine AW.block ?_
    refine AW.seq ?_
    refine AW.region ?_
    refine ARun.pure (PureOp.move rfl (.tmp rfl)) rfl rfl (Nat.le_of_ble_eq_true rfl) ?_
    refine ARun.pure (PureOp.indexTl (i := 0) rfl (.tmp rfl) vcf_el_30_1 .int rfl (by omega)) rfl rfl (Nat.le_of_ble_eq_true rfl) ?_
    refine ARun.pure (PureOp.loadPtrE (y := .int .i64 (i : Int)) rfl (.tmp rfl) vcf_pl_3 rfl rfl (show v.q + 0 < v.q + v.wl.length by omega) (Nat.le_of_ble_eq_true rfl) (hval_i)) rfl rfl (Nat.le_of_ble_eq_true rfl) ?_
    refine ARun.pure (PureOp.assign rfl (.tmp rfl)) rfl rfl (Nat.le_of_ble_eq_true rfl) ?_
    refine ARun.nil ?_
    refine AW.seq ?_
    refine AW.region ?_
    refine ARun.pure (PureOp.move rfl (.tmp rfl)) rfl rfl (Nat.le_of_ble_eq_true rfl) ?_
    refine ARun.pure (PureOp.dropTl (k := 1) rfl (.tmp rfl) .int rfl (by omega) vcf_el_30_1) rfl rfl (Nat.le_of_ble_eq_true rfl) ?_
    refine ARun.pure (PureOp.assign rfl (.tmp rfl)) rfl rfl (Nat.le_of_ble_eq_true rfl) ?_
    refine ARun.nil ?_
    refine AW.seq ?_
    refine AW.any (by kernel_rfl) (by kernel_rfl) ?_
    refine AD.pure (PureOp.move rfl (.tmp rfl)) rfl rfl (Nat.le_of_ble_eq_true rfl) ?_
    refine AD.pure (PureOp.move rfl (.tmp rfl)) rfl rfl (Nat.le_of_ble_eq_true rfl) ?_
    refine AD.pure (PureOp.call rfl (v_Prior n l hg i (by omega)) ⟨⟨_, (.tmp rfl), .lst⟩, ⟨_, (.tmp rfl), .int⟩, trivial⟩ vcf_ca_52 trivial) rfl rfl (Nat.le_of_ble_eq_true rfl) ?_
    refine AD.pure (PureOp.move rfl (.tmp rfl)) rfl rfl (Nat.le_of_ble_eq_true rfl) ?_
    refine AD.pure (PureOp.move rfl (.tmp rfl)) rfl rfl (Nat.le_of_ble_eq_true rfl) ?_
    refine AD.pure (PureOp.indexLst (i := i) rfl (.tmp rfl) vcf_el_26_2 (.tmp rfl) rfl (by omega)) rfl rfl (Nat.le_of_ble_eq_true rfl) ?_
    refine AD.pure (PureOp.fieldRef rfl (.tmp rfl) vcf_fi_64_1_1 (Nat.le_of_ble_eq_true rfl)) rfl rfl (Nat.le_of_ble_eq_true rfl) ?_
    refine AD.pure (PureOp.loadRef rfl (.tmp rfl) vcf_pl_3 (Nat.le_of_ble_eq_true rfl)) rfl rfl (Nat.le_of_ble_eq_true rfl) ?_
    refine AD.fresh (FreshOp.pair (a1 := pr0 l i) (a2 := (l.getD i (default : GEvent)).b) rfl (.tmp rfl) (.tmp rfl) Try.underlying30 (by kernel_rfl)) rfl rfl (Nat.le_of_ble_eq_true rfl) ?_
    refine AD.pure (PureOp.lenLst rfl (.frs (.tmp rfl)) vcf_sl_30) rfl rfl (Nat.le_of_ble_eq_true rfl) ?_
    refine AD.pure (PureOp.move rfl .int) rfl rfl (Nat.le_of_ble_eq_true rfl) ?_
    refine AD.nil ?_
    refine AW.block ?_
    -- objects are renamed
    refine AW.loopR (ι := Q2) (fun u => ⟨[(0, .one (.lst 2 l.length (fun i0 j0 => ([.int .i64 ((l.getD i0 (default : GEvent)).a), .int .i64 ((l.getD i0 (default : GEvent)).b)] : List AV).getD j0 (.con undef)))), (5, .one (.own 900 1 ((inO v.o (pr0 l i) (pr1 l i) u.j).length))), (6, .one (.tl 0 1 u.q (u.q + (inW v.o w0' (pr0 l i) (pr1 l i) u.j).length))), (28, .one (.frs (.lst 1 2 (fun i_ _ => .int .i64 (if i_ = 0 then pr0 l i else (l.getD i (default : GEvent)).b))))), (29, .one (.int .i64 (2 : Int))), (30, .one (.int .i64 (u.j : Int)))], [(0, .arr 1 (u.q + (inW v.o w0' (pr0 l i) (pr1 l i) u.j).length) u.F), (900, .arr 1 ((inO v.o (pr0 l i) (pr1 l i) u.j).length) (fun ii_ _ => .int .i64 ((inO v.o (pr0 l i) (pr1 l i) u.j).getD ii_ 0)))]⟩) (fun u => u.j ≤ 2 ∧ (∀ i j, (u.F i j).scl = true) ∧ (∀ r, r < (inW v.o w0' (pr0 l i) (pr1 l i) u.j).length → u.F (u.q + r) 0 = .int .i64 ((inW v.o w0' (pr0 l i) (pr1 l i) u.j).getD r 0)) ∧ u.q ≤ v.q + 1) (fun u => 2 - u.j) ⟨0, v.q + 1, v.F⟩ ⟨Nat.zero_le _, hF, (fun r hr => hval0 r hr), Nat.le_refl _⟩ ⟨⟨⟨_, rfl, rfl⟩, ⟨_, rfl, rfl⟩, ⟨_, rfl, congrArg (fun z : Nat => SV.one (.tl 0 1 (v.q + 1) z)) (show v.q + v.wl.length = v.q + 1 + w0'.length by omega)⟩, ⟨_, rfl, rfl⟩, ⟨_, rfl, rfl⟩, ⟨_, rfl, rfl⟩, trivial⟩, ⟨⟨_, rfl, rfl, Nat.le_of_eq (show v.q + 1 + w0'.length = v.q + v.wl.length by omega), fun _ _ _ _ => rfl⟩, ⟨_, rfl, rfl, Nat.le_refl _, fun _ _ _ _ => rfl⟩, trivial⟩⟩ ?_
    intro u hu
    obtain ⟨hu1, huF, huv, hu3⟩ := hu
    have hlo := inO_len (o := v.o) (p0 := pr0 l i) (p1 := pr1 l i) u.j
    have hlw := inW_len (o := v.o) (wl := w0') (p0 := pr0 l i) (p1 := pr1 l i) u.j
    refine AW.seq ?_
    refine AW.region ?_
    refine ARun.pure (PureOp.intOp rfl (.tmp rfl) (.tmp rfl) rfl) rfl rfl (Nat.le_of_ble_eq_true rfl) ?_
    refine ARun.nil ?_
    refine AW.seq ?_
    refine AW.cond (.tmp rfl) (fun hb2 => ?_) (fun hb2 => ?_)
    · have _u := True.intro
      replace hb2 := of_decide_eq_true hb2
      have hj2 : u.j < 2 := by omega
      refine AW.skip ?_
      refine AW.seq ?_
      refine AW.block ?_
      refine AW.seq ?_
      refine AW.region ?_
      refine ARun.pure (PureOp.indexLst (i := u.j) rfl (.frs (.tmp rfl)) vcf_el_30_1 (.tmp rfl) rfl (by omega)) rfl rfl (Nat.le_of_ble_eq_true rfl) ?_
      refine ARun.pure (PureOp.loadRef rfl (.tmp rfl) vcf_pl_3 (Nat.le_of_ble_eq_true rfl)) rfl rfl (Nat.le_of_ble_eq_true rfl) ?_
      refine ARun.pure (PureOp.assign rfl (.tmp rfl)) rfl rfl (Nat.le_of_ble_eq_true rfl) ?_
      refine ARun.nil ?_
      refine AW.seq ?_
      refine AW.region ?_
      refine ARun.pure (PureOp.move rfl (.tmp rfl)) rfl rfl (Nat.le_of_ble_eq_true rfl) ?_
      refine ARun.pure (PureOp.intOp rfl (.tmp rfl) .int rfl) rfl rfl (Nat.le_of_ble_eq_true rfl) ?_
      refine ARun.pure (PureOp.move rfl (.tmp rfl)) rfl rfl (Nat.le_of_ble_eq_true rfl) ?_
      refine ARun.gpure (want := true) (.tt rfl) (fun hg3 => PureOp.move rfl (.tmp rfl)) rfl rfl (Nat.le_of_ble_eq_true rfl) rfl (Nat.le_of_ble_eq_true rfl) ?_
      refine ARun.gpure (want := true) (.tt rfl) (fun hg4 => PureOp.move rfl (.tmp rfl)) rfl rfl (Nat.le_of_ble_eq_true rfl) rfl (Nat.le_of_ble_eq_true rfl) ?_
      refine ARun.gpure (want := true) (.tt rfl) (fun hg5 => PureOp.call rfl (v_Has (inO v.o (pr0 l i) (pr1 l i) u.j) (pj l i u.j)) ⟨⟨_, (.gtmp rfl hg5), (.own rfl rfl (Nat.le_refl _) (fun i j hi hj => (match j, hj with | 0, _ => .int | _ + 1, h => absurd h (by omega))))⟩, ⟨_, (.gtmp rfl hg5), .int⟩, trivial⟩ vcf_ca_45 trivial) rfl rfl (Nat.le_of_ble_eq_true rfl) rfl (Nat.le_of_ble_eq_true rfl) ?_
      refine ARun.gpure (want := true) (.tt rfl) (fun hg6 => PureOp.not rfl (.gtmp rfl hg6)) rfl rfl (Nat.le_of_ble_eq_true rfl) rfl (Nat.le_of_ble_eq_true rfl) ?_
      refine ARun.pure (PureOp.pick rfl (.tmp rfl) (fun hp7 => .gtmp rfl hp7) (fun _ => .bool)) rfl rfl (Nat.le_of_ble_eq_true rfl) ?_
      refine ARun.nil ?_
      refine AW.cond (.tmp rfl) (fun hb9 => ?_) (fun hb9 => ?_)
      · have _u := True.intro
        have hnew : newI (inO v.o (pr0 l i) (pr1 l i) u.j) (pj l i u.j) = true := hb9
        have hnc : (inO v.o (pr0 l i) (pr1 l i) u.j).contains (pj l i u.j) = false := newI_has hnew
        have hso : inO v.o (pr0 l i) (pr1 l i) (u.j + 1) = putI (inO v.o (pr0 l i) (pr1 l i) u.j) (pj l i u.j) := (inO_suc hj2).trans (if_pos hnew)
        have hsw : inW v.o w0' (pr0 l i) (pr1 l i) (u.j + 1) = inW v.o w0' (pr0 l i) (pr1 l i) u.j ++ [pj l i u.j] := (inW_suc hj2).trans (if_pos hnew)
        refine AW.seq ?_
        refine AW.region ?_
        refine ARun.pure (PureOp.move rfl (.tmp rfl)) rfl rfl (Nat.le_of_ble_eq_true rfl) ?_
        refine ARun.pure (PureOp.move rfl (.tmp rfl)) rfl rfl (Nat.le_of_ble_eq_true rfl) ?_
        refine ARun.prod (K := 1) rfl (v_Put (inO v.o (pr0 l i) (pr1 l i) u.j) (pj l i u.j) (by omega) hnc) ⟨rfl, (by repeat first | exact trivial | refine ⟨by decide, by first | rfl | exact trivial | (intro i j; first | rfl | exact getD_no rfl | (dsimp only; split <;> first | rfl | exact getD_no rfl) | exact scl_no (by apply_assumption) _), ?_⟩)⟩ ⟨⟨_, (.tmp rfl), (.own rfl rfl (Nat.le_refl _) (fun i j hi hj => (match j, hj with | 0, _ => .int | _ + 1, h => absurd h (by omega))))⟩, ⟨_, (.tmp rfl), .int⟩, trivial⟩ vcf_ca_68 rfl rfl rfl rfl rfl (Nat.le_of_ble_eq_true rfl) ?_
        refine ARun.openRow 44 1 0 1 1 ((putI (inO v.o (pr0 l i) (pr1 l i) u.j) (pj l i u.j)).length) 2 _ (fun ii_ _ => .int .i64 ((putI (inO v.o (pr0 l i) (pr1 l i) u.j) (pj l i u.j)).getD ii_ 0)) rfl rfl (by decide) rfl (fun i j hi hj => match j, hj with | 0, _ => rfl | _ + 1, h => absurd h (by omega)) (fun i j => by first | rfl | exact getD_no rfl) ⟨rfl, (by repeat first | exact trivial | refine ⟨by decide, by first | rfl | exact trivial | (intro i j; first | rfl | exact getD_no rfl | (dsimp only; split <;> first | rfl | exact getD_no rfl) | exact scl_no (by apply_assumption) _), ?_⟩)⟩ ?_
        refine ARun.pure (PureOp.assign rfl (.tmp rfl)) rfl rfl (Nat.le_of_ble_eq_true rfl) ?_
        refine ARun.nil ?_
        refine AW.region ?_
        refine ARun.pure (PureOp.move rfl (.tmp rfl)) rfl rfl (Nat.le_of_ble_eq_true rfl) ?_
        refine ARun.pure (PureOp.move rfl (.tmp rfl)) rfl rfl (Nat.le_of_ble_eq_true rfl) ?_
        refine ARun.slice1 (id := 3) (z := (.int .i64 0)) (by_ := 8) rfl (.tmp rfl) trivial (by kernel_rfl) rfl rfl (by decide) (by decide) ⟨rfl, (by repeat first | exact trivial | refine ⟨by decide, by first | rfl | exact trivial | (intro i j; first | rfl | exact getD_no rfl | (dsimp only; split <;> first | rfl | exact getD_no rfl) | exact scl_no (by apply_assumption) _), ?_⟩)⟩ rfl rfl rfl (Nat.le_of_ble_eq_true rfl) ?_
        refine ARun.appendTl (id := 4) (sz := 1) (m := 1) (by_ := 8) (z := (.int .i64 0)) (g := fun _ jc => ([.int .i64 (pj l i u.j)] : List AV).getD jc (.con undef)) (h := fun ia ja => if ia < ((u.q + (inW v.o w0' (pr0 l i) (pr1 l i) u.j).length) - u.q) then (u.F) (u.q + ia) ja else (fun _ jc => ([.int .i64 (pj l i u.j)] : List AV).getD jc (.con undef)) (ia - ((u.q + (inW v.o w0' (pr0 l i) (pr1 l i) u.j).length) - u.q)) ja) rfl (by kernel_rfl) rfl vcf_sl_30 (.tmp rfl) rfl rfl rfl (Nat.le_refl _) (.own (.tmp rfl) rfl rfl (Nat.le_refl _) (fun _ _ _ _ => rfl)) (by decide) (fun i j hi hj => match j, hj with | 0, _ => rfl | _ + 1, h => absurd h (by omega)) (fun _ _ => huF _ _) (fun _ j => match j with | 0 => rfl | _ + 1 => rfl) (fun _ _ _ _ => rfl) (by omega) (by omega) ⟨rfl, (by repeat first | exact trivial | refine ⟨by decide, by first | rfl | exact trivial | (intro i j; first | rfl | exact getD_no rfl | (dsimp only; split <;> first | rfl | exact getD_no rfl) | exact scl_no (by apply_assumption) _), ?_⟩)⟩ (fun i j => by dsimp only; split <;> first | rfl | exact scl_no ((fun _ _ => huF _ _) _ _) _ | exact getD_no rfl) rfl rfl (Nat.le_of_ble_eq_true rfl) (fun qq10 hh11 hscqq10 hleqq10 hvaqq10 => ?_)
        have hnw : (qq10 + (((u.q + (inW v.o w0' (pr0 l i) (pr1 l i) u.j).length) - u.q) + 1)) = qq10 + (inW v.o w0' (pr0 l i) (pr1 l i) (u.j + 1)).length := by rw [hsw, List.length_append, List.length_singleton]; omega
        have hpush : ∀ r, r < (inW v.o w0' (pr0 l i) (pr1 l i) (u.j + 1)).length → hh11 (qq10 + r) 0 = .int .i64 ((inW v.o w0' (pr0 l i) (pr1 l i) (u.j + 1)).getD r 0) := by rw [hsw]; exact q_push huv (by omega) hvaqq10
        refine ARun.pure (PureOp.assign rfl (.tmp rfl)) rfl rfl (Nat.le_of_ble_eq_true rfl) ?_
        refine ARun.nil ?_
        refine AW.region ?_
        refine ARun.pure (PureOp.add (c := ((u.j + 1 : Nat) : Int)) rfl (.tmp rfl) .int (by rw [wrap_id (by omega) (by omega)]; omega)) rfl rfl (Nat.le_of_ble_eq_true rfl) ?_
        refine ARun.pure (PureOp.move rfl (.tmp rfl)) rfl rfl (Nat.le_of_ble_eq_true rfl) ?_
        refine ARun.nil ?_
        exact ⟨⟨u.j + 1, qq10, hh11⟩, (fun z => (swp 900 2) ((swp 0 4) z)), ⟨by show u.j + 1 ≤ 2; omega, hscqq10, hpush, by show qq10 ≤ v.q + 1; omega⟩, by show 2 - (u.j + 1) < 2 - u.j; omega, (comp_inj swp_inj swp_inj), (comp_fix (swp_fix rfl rfl) (swp_fix rfl rfl)), ⟨⟨⟨_, rfl, rfl⟩, ⟨_, rfl, congrArg (fun z : List Int => SV.one (.own 2 1 z.length)) hso.symm⟩, ⟨_, rfl, congrArg (fun z : Nat => SV.one (.tl 4 1 qq10 z)) hnw⟩, ⟨_, rfl, rfl⟩, ⟨_, rfl, rfl⟩, ⟨_, rfl, rfl⟩, trivial⟩, ⟨⟨_, rfl, rfl, Nat.le_of_eq hnw.symm, fun ia ja _ _ => (ren_scl (hscqq10 ia ja)).symm⟩, ⟨_, rfl, rfl, Nat.le_of_eq (congrArg List.length hso), fun ia ja _ _ => congrArg (fun z : List Int => AV.int .i64 (z.getD ia 0)) hso.symm⟩, trivial⟩⟩⟩
      · have _u := True.intro
        have hnew : ¬ newI (inO v.o (pr0 l i) (pr1 l i) u.j) (pj l i u.j) = true := fun e => by rw [show newI (inO v.o (pr0 l i) (pr1 l i) u.j) (pj l i u.j) = _ from hb9] at e; cases e
        have hso : inO v.o (pr0 l i) (pr1 l i) (u.j + 1) = (inO v.o (pr0 l i) (pr1 l i) u.j) := (inO_suc hj2).trans (if_neg hnew)
        have hsw : inW v.o w0' (pr0 l i) (pr1 l i) (u.j + 1) = inW v.o w0' (pr0 l i) (pr1 l i) u.j := (inW_suc hj2).trans (if_neg hnew)
        refine AW.skip ?_
        refine AW.region ?_
        refine ARun.pure (PureOp.add (c := ((u.j + 1 : Nat) : Int)) rfl (.tmp rfl) .int (by rw [wrap_id (by omega) (by omega)]; omega)) rfl rfl (Nat.le_of_ble_eq_true rfl) ?_
        refine ARun.pure (PureOp.move rfl (.tmp rfl)) rfl rfl (Nat.le_of_ble_eq_true rfl) ?_
        refine ARun.nil ?_
        exact ⟨⟨u.j + 1, u.q, u.F⟩, id, ⟨by show u.j + 1 ≤ 2; omega, huF, hsw ▸ huv, hu3⟩, by show 2 - (u.j + 1) < 2 - u.j; omega, id_inj, (fun _ _ => rfl), ⟨⟨⟨_, rfl, rfl⟩, ⟨_, rfl, congrArg (fun z : List Int => SV.one (.own 900 1 z.length)) hso.symm⟩, ⟨_, rfl, congrArg (fun z : List Int => SV.one (.tl 0 1 u.q (u.q + z.length))) hsw.symm⟩, ⟨_, rfl, rfl⟩, ⟨_, rfl, rfl⟩, ⟨_, rfl, rfl⟩, trivial⟩, ⟨⟨_, rfl, rfl, Nat.le_of_eq (congrArg (fun z : List Int => u.q + z.length) hsw), fun ia ja _ _ => (ren_scl (huF ia ja)).symm⟩, ⟨_, rfl, rfl, Nat.le_of_eq (congrArg List.length hso), fun ia ja _ _ => congrArg (fun z : List Int => AV.int .i64 (z.getD ia 0)) hso.symm⟩, trivial⟩⟩⟩
    · have _u := True.intro
      replace hb2 := of_decide_eq_false hb2
      have hju : u.j = 2 := by omega
      have hue := huv
      rw [hju] at hue
      refine AW.exit ?_
      exact ⟨⟨inO v.o (pr0 l i) (pr1 l i) 2, inW v.o w0' (pr0 l i) (pr1 l i) 2, u.q, m', u.F⟩, id, q1_next he hi hwl hm hrun hmeas hino hinw (by omega) (by omega) huF hue, by show m' < v.m; omega, id_inj, (fun _ _ => rfl), ⟨⟨⟨_, rfl, rfl⟩, ⟨_, rfl, congrArg (fun z : Nat => SV.one (.own 900 1 (inO v.o (pr0 l i) (pr1 l i) z).length)) hju⟩, ⟨_, rfl, congrArg (fun z : Nat => SV.one (.tl 0 1 u.q (u.q + (inW v.o w0' (pr0 l i) (pr1 l i) z).length))) hju⟩, trivial⟩, ⟨⟨_, rfl, rfl, Nat.le_of_eq (congrArg (fun z => u.q + (inW v.o w0' (pr0 l i) (pr1 l i) z).length) hju.symm), fun ia ja _ _ => (ren_scl (huF ia ja)).symm⟩, ⟨_, rfl, rfl, Nat.le_of_eq (congrArg (fun z => (inO v.o (pr0 l i) (pr1 l i) z).length) hju.symm), fun ia ja _ _ => congrArg (fun z => AV.int .i64 ((inO v.o (pr0 l i) (pr1 l i) z).getD ia 0)) hju⟩, trivial⟩⟩⟩
  · have _u := True.intro
    replace hb1 := of_decide_eq_false hb1
    have hend : v.o = firstV l k := by rw [← hrun]; exact (bfs_nil (List.eq_nil_of_length_eq_zero (by omega))).symm
    refine AW.exit ?_
    refine AW.seq ?_
    refine AW.region ?_
    refine ARun.pure (PureOp.move rfl (.tmp rfl)) rfl rfl (Nat.le_of_ble_eq_true rfl) ?_
    refine ARun.pure (PureOp.assign rfl (.tmp rfl)) rfl rfl (Nat.le_of_ble_eq_true rfl) ?_
    refine ARun.nil ?_
    exact AW.ret (show ∃ s t, ResL _ _ [.tmp 4] s ∧ TvS _ (ofLeaf t) 0 s _ from ⟨_, fun a b => if a = 900 then 0 else 1000, .inl ⟨_, rfl, .tmp rfl⟩, (Tv.flatN (by rw [hend]) rfl rfl rfl (Nat.le_refl _) (by rfl) (fun i j hi hj => by rw [← hend]; rfl) (fun i j hi hj => rfl))⟩)
end Go.Proofs.Ytmkhahiefdcinaa

/-
  CutOf: the reference and the program answer the same.
-/
namespace Go.Proofs.Ytmkhahiefdcinaa
open Go.ChangeShapes Go.WideShapes Go.ChangeAt Go.RowKit Go.BigFrame Go.Deep
set_option linter.unusedVariables false
set_option linter.unusedSimpArgs false
theorem vcu_ca_44 : callB Try.prog 44 = true := by kernel_rfl
theorem vcu_ca_46 : callB Try.prog 46 = true := by kernel_rfl
theorem vcu_ca_48 : callB Try.prog 48 = true := by kernel_rfl
theorem vcu_ca_49 : callB Try.prog 49 = true := by kernel_rfl
theorem vcu_ca_50 : callB Try.prog 50 = true := by kernel_rfl
theorem vcu_ca_54 : callB Try.prog 54 = true := by kernel_rfl
theorem vcu_el_26_2 : elemB Try.prog 26 2 = true := by kernel_rfl
theorem vcu_el_30_1 : elemB Try.prog 30 1 = true := by kernel_rfl
theorem vcu_el_40_1 : elemB Try.prog 40 1 = true := by kernel_rfl
theorem vcu_fi_64_0_0 : fieldB Try.prog 64 0 0 = true := by kernel_rfl
theorem vcu_pl_3 : plainB Try.prog 3 = true := by kernel_rfl
theorem vcu_pl_30 : plainB Try.prog 30 = true := by kernel_rfl
theorem vcu_sl_26 : sliceB Try.prog 26 = true := by kernel_rfl
theorem vcu_sl_30 : sliceB Try.prog 30 = true := by kernel_rfl
theorem vcu_sz_3_1 : sizeB Try.prog 3 1 = true := by kernel_rfl
theorem v_AtI (n : Int) (l : List GEvent) (hg : goodEvs n l = true) : FnF Try.prog 54 [.one (.int .i64 n), .one (evsAV l)] (.one (intsAV (atL l l.length))) := by
  obtain ⟨h1, _⟩ := goodEvs_get hg
  obtain ⟨N, rfl⟩ : ∃ N : Nat, n = N := ⟨n.toNat, (Int.toNat_of_nonneg (by omega)).symm⟩
  exact v_At N l hg
theorem v_ClocksI (n : Int) (l : List GEvent) (hg : goodEvs n l = true) : FnT Try.prog 50 [.one (.int .i64 n), .one (evsAV l)] (.one (rowsAV (ckTo n.toNat l l.length))) := by
  obtain ⟨h1, _⟩ := goodEvs_get hg
  obtain ⟨N, rfl⟩ : ∃ N : Nat, n = N := ⟨n.toNat, (Int.toNat_of_nonneg (by omega)).symm⟩
  exact v_Clocks N l hg
def cutOk (n : Int) (l : List GEvent) (k : Int) : Prop := goodEvs n l = true ∧ 0 ≤ k ∧ k < l.length
open Classical in
noncomputable def cutV (n : Int) (l : List GEvent) (k : Int) : List Int × Bool := if cutOk n l k then (rowV n.toNat l k.toNat, true) else ([], false)
theorem cut_no {n : Int} {l : List GEvent} {k : Int} (h : ¬ cutOk n l k) : cutV n l k = ([], false) := if_neg h
theorem cut_yes {n : Int} {l : List GEvent} {k : Int} (h : cutOk n l k) : cutV n l k = (rowV n.toNat l k.toNat, true) := if_pos h
theorem cutS {n : Int} {l : List GEvent} {k : Int} {p : Bool} (h : cond (cond (!goodEvs n l) true (decide (k < 0))) true (decide ((l.length : Int) ≤ k)) = p) : (p = false → cutOk n l k) ∧ (p = true → ¬ cutOk n l k) := by
  unfold cutOk
  by_cases h1 : goodEvs n l = true <;> by_cases h2 : k < 0 <;> by_cases h3 : (l.length : Int) ≤ k <;> simp [h1, h2, h3] at h <;> subst h <;> simp [h1, h2, h3] <;> omega
theorem cutI {n : Int} {l : List GEvent} {k : Int} {p : Bool} (h : cond (!goodEvs n l) true (!inB 0 ((l.length : Int) - 1) k) = p) : (p = false → cutOk n l k) ∧ (p = true → ¬ cutOk n l k) := by
  unfold cutOk inB at *
  by_cases h1 : goodEvs n l = true <;> by_cases h2 : 0 ≤ k <;> by_cases h3 : k ≤ (l.length : Int) - 1 <;> simp [h1, h2, h3] at h <;> subst h <;> simp [h1, h2, h3] <;> omega
theorem first_app {L : List Int} {k k' : Int} (e : k' = k) {i : Nat} (hi : i < L.length + 1) : (if i < L.length then AV.int .i64 (L.getD i 0) else ([AV.int .i64 k] : List AV).getD 0 (.con undef)) = AV.int .i64 ((L ++ [k']).getD i 0) := by
  subst e
  by_cases h : i < L.length
  · rw [if_pos h, List.getD_eq_getElem?_getD, List.getD_eq_getElem?_getD, List.getElem?_append_left h]
  · obtain rfl : i = L.length := by omega
    rw [if_neg h, List.getD_eq_getElem?_getD (l := L ++ [k']), List.getElem?_append_right (Nat.le_refl _), Nat.sub_self]; rfl
theorem first_mem {n : Int} {l : List GEvent} (hg : goodEvs n l = true) {k t : Nat} (hk : k < l.length) (ht : t < (firstV l k ++ [(k : Int)]).length) : ∃ i : Nat, (firstV l k ++ [(k : Int)]).getD t 0 = (i : Int) ∧ i < l.length := by
  have hm : (firstV l k ++ [(k : Int)]).getD t 0 ∈ firstV l k ++ [(k : Int)] := by
    rw [List.getD_eq_getElem?_getD, List.getElem?_eq_getElem ht]; exact List.getElem_mem _
  rcases List.mem_append.1 hm with h1 | h1
  · have hb := first_bd (evs_of hg) hk _ h1
    exact ⟨_, (Int.toNat_of_nonneg hb.1).symm, by omega⟩
  · exact ⟨k, List.mem_singleton.1 h1, hk⟩
theorem atL_at {l : List P2} {i : Nat} (hi : i < l.length) : (atL l l.length).getD i 0 = atV l i := by
  rw [List.getD_eq_getElem?_getD, atL_get l hi]; rfl
theorem cut_set {l : List P2} {L : List Int} {t i j : Nat} (hi : L.getD t 0 = (i : Int)) (hn : 0 ≤ (ev l i).a) (h : cutF l L t (ev l i).a.toNat < atV l i) : (if j = (ev l i).a.toNat then atV l i else cutF l L t j) = cutF l L (t + 1) j := by
  simp only [cutF]
  rw [hi, Int.toNat_natCast]
  by_cases hj : j = (ev l i).a.toNat
  · subst hj
    rw [if_pos rfl, if_pos ⟨(Int.toNat_of_nonneg hn).symm, h⟩]
  · rw [if_neg hj, if_neg (fun e => hj (by omega))]
theorem cut_keep {l : List P2} {L : List Int} {t i j : Nat} (hi : L.getD t 0 = (i : Int)) (h : ¬ cutF l L t (ev l i).a.toNat < atV l i) : cutF l L t j = cutF l L (t + 1) j := by
  simp only [cutF]
  rw [hi, Int.toNat_natCast]
  by_cases hj : (ev l i).a = j ∧ cutF l L t j < atV l i
  · exfalso
    apply h
    have : (ev l i).a.toNat = j := by omega
    rw [this]; exact hj.2
  · rw [if_neg hj]
theorem rowV_len {n : Int} {l : List P2} (hg : goodEvs n l = true) {k : Nat} (hk : k < l.length) : (rowV n.toNat l k).length = n.toNat := (rowV_is (N := n.toNat) hk).1
theorem cut_end {n : Int} {l : List P2} (hg : goodEvs n l = true) {k : Nat} (hk : k < l.length) {j : Nat} (hj : j < n.toNat) : cutF l (firstV l k ++ [(k : Int)]) (firstV l k ++ [(k : Int)]).length j = (rowV n.toNat l k).getD j 0 := by
  obtain ⟨h1, _⟩ := goodEvs_get hg
  obtain ⟨N, rfl⟩ : ∃ N : Nat, n = N := ⟨n.toNat, (Int.toNat_of_nonneg (by omega)).symm⟩
  exact cut_clk hg hk hj
theorem first_len {n : Int} {l : List P2} (hg : goodEvs n l = true) {k : Nat} (hk : k < l.length) : (firstV l k).length ≤ 1000 := by
  have key : ∀ (m : Nat) (o wl : List Int), (bfs l m o wl).length ≤ o.length + 2 * m := by
    intro m
    induction m with
    | zero => intro o wl; exact Nat.le_refl _
    | succ m ih =>
      intro o wl
      cases wl with
      | nil => show o.length ≤ _; omega
      | cons i wl =>
        have h := ih (stpO (stpO o (pr0 l i.toNat)) (pr1 l i.toNat)) (stpW (stpO o (pr0 l i.toNat)) (stpW o wl (pr0 l i.toNat)) (pr1 l i.toNat))
        have h1 : ∀ (o : List Int) p, (stpO o p).length ≤ o.length + 1 := fun o p => by unfold stpO; split; (· rw [put_len]; exact Nat.le_refl _); (· omega)
        have := h1 o (pr0 l i.toNat)
        have := h1 (stpO o (pr0 l i.toNat)) (pr1 l i.toNat)
        show (bfs l m _ _).length ≤ _
        omega
  have h := key (2 * l.length + 1) [] [(k : Int)]
  have := (goodEvs_get hg).2.2.1
  have e : (firstV l k).length = (bfs l (2 * l.length + 1) [] [(k : Int)]).length := rfl
  rw [e]
  have : ([] : List Int).length = 0 := rfl
  omega
theorem v_FirstI (n : Int) (l : List GEvent) (hg : goodEvs n l = true) (k : Int) (hke : ((k.toNat : Nat) : Int) = k) (hk : k.toNat < l.length) : FnT Try.prog 46 [.one (evsAV l), .one (.int .i64 k)] (.one (intsAV (firstV l k.toNat))) := by
  have h := v_First n l hg k.toNat hk
  rw [hke] at h
  exact h
theorem ev_bd {n : Int} {l : List P2} (hg : goodEvs n l = true) {i : Nat} (hi : i < l.length) : 0 ≤ (l.getD i (default : GEvent)).a ∧ (l.getD i (default : GEvent)).a.toNat < n.toNat := by
  obtain ⟨h1, _⟩ := goodEvs_get hg
  obtain ⟨N, rfl⟩ : ∃ N : Nat, n = N := ⟨n.toNat, (Int.toNat_of_nonneg (by omega)).symm⟩
  have := evs_nd hg i hi
  refine ⟨this.1, ?_⟩
  have h2 : (ev l i).a < (N : Int) := this.2
  show (ev l i).a.toNat < ((N : Nat) : Int).toNat
  omega
theorem v_sCut (n : Int) (l : List GEvent) (k : Int) (hn : I64 n) (hk : I64 k) : FnT Try.prog 29 [.one (.int .i64 n), .one (.lst 2 l.length (fun i0 j0 => ([.int .i64 ((l.getD i0 (default : GEvent)).a), .int .i64 ((l.getD i0 (default : GEvent)).b)] : List AV).getD j0 (.con undef))), .one (.int .i64 k)] (.tup2 (.one (.lst 1 (((cutV n l k).1).length) (fun i0 _ => .int .i64 (((cutV n l k).1).getD i0 0)))) (.one (.bool ((cutV n l k).2)))) := by
  obtain ⟨hn0, hn1⟩ := hn
  obtain ⟨hk0, hk1⟩ := hk
  refine FnT.of_body (fn := Try.f29) Try.func29 rfl (Nat.le_of_ble_eq_true rfl)  ?_
  intro w0
  show AW _ 68 _ _ _ _
  refine AW.bound (t := 1) rfl fun hx => ?_
  refine AW.seq ?_
  refine AW.region ?_
  refine ARun.pure (PureOp.assign rfl .con) rfl rfl (Nat.le_of_ble_eq_true rfl) ?_
  refine ARun.pure (PureOp.assign rfl .bool) rfl rfl (Nat.le_of_ble_eq_true rfl) ?_
  refine ARun.nil ?_
  refine AW.seq ?_
  refine AW.seq ?_
  refine AW.region ?_
  refine ARun.pure (PureOp.move rfl (.tmp rfl)) rfl rfl (Nat.le_of_ble_eq_true rfl) ?_
  refine ARun.pure (PureOp.move rfl (.tmp rfl)) rfl rfl (Nat.le_of_ble_eq_true rfl) ?_
  refine ARun.pure (PureOp.call rfl (v_GoodEvents n l ⟨by omega, by omega⟩) ⟨⟨_, (.tmp rfl), .int⟩, ⟨_, (.tmp rfl), .lst⟩, trivial⟩ vcu_ca_44 trivial) rfl rfl (Nat.le_of_ble_eq_true rfl) ?_
  refine ARun.pure (PureOp.not rfl (.tmp rfl)) rfl rfl (Nat.le_of_ble_eq_true rfl) ?_
  refine ARun.pure (PureOp.move rfl (.tmp rfl)) rfl rfl (Nat.le_of_ble_eq_true rfl) ?_
  refine ARun.gpure (want := false) (.tf rfl) (fun hg1 => PureOp.move rfl (.tmp rfl)) rfl rfl (Nat.le_of_ble_eq_true rfl) rfl (Nat.le_of_ble_eq_true rfl) ?_
  refine ARun.gpure (want := false) (.tf rfl) (fun hg2 => PureOp.intOp rfl (.gtmp rfl hg2) .int rfl) rfl rfl (Nat.le_of_ble_eq_true rfl) rfl (Nat.le_of_ble_eq_true rfl) ?_
  refine ARun.pure (PureOp.pick rfl (.tmp rfl) (fun _ => .bool) (fun hp4 => .gtmp rfl (not_of hp4))) rfl rfl (Nat.le_of_ble_eq_true rfl) ?_
  refine ARun.pure (PureOp.move rfl (.tmp rfl)) rfl rfl (Nat.le_of_ble_eq_true rfl) ?_
  refine ARun.gpure (want := false) (.tf rfl) (fun hg5 => PureOp.move rfl (.tmp rfl)) rfl rfl (Nat.le_of_ble_eq_true rfl) rfl (Nat.le_of_ble_eq_true rfl) ?_
  refine ARun.gpure (want := false) (.tf rfl) (fun hg6 => PureOp.move rfl (.tmp rfl)) rfl rfl (Nat.le_of_ble_eq_true rfl) rfl (Nat.le_of_ble_eq_true rfl) ?_
  refine ARun.gpure (want := false) (.tf rfl) (fun hg7 => PureOp.lenLst rfl (.gtmp rfl hg7) vcu_sl_26) rfl rfl (Nat.le_of_ble_eq_true rfl) rfl (Nat.le_of_ble_eq_true rfl) ?_
  refine ARun.gpure (want := false) (.tf rfl) (fun hg8 => PureOp.intOp rfl (.gtmp rfl hg8) (.gtmp rfl hg8) rfl) rfl rfl (Nat.le_of_ble_eq_true rfl) rfl (Nat.le_of_ble_eq_true rfl) ?_
  refine ARun.pure (PureOp.pick rfl (.tmp rfl) (fun _ => .bool) (fun hp10 => .gtmp rfl (not_of hp10))) rfl rfl (Nat.le_of_ble_eq_true rfl) ?_
  refine ARun.nil ?_
  refine AW.cond (.tmp rfl) (fun hb11 => ?_) (fun hb11 => ?_)
  · have _u := True.intro
    have _h := hb11
    refine AW.seq ?_
    refine AW.region ?_
    refine ARun.pure (PureOp.assign rfl .con) rfl rfl (Nat.le_of_ble_eq_true rfl) ?_
    refine ARun.pure (PureOp.assign rfl .bool) rfl rfl (Nat.le_of_ble_eq_true rfl) ?_
    refine ARun.nil ?_
    rw [cut_no ((cutS hb11).2 rfl)]
    exact AW.ret (show ∃ s t, ResL _ _ [.tmp 6, .tmp 7] s ∧ TvS _ (ofLeaf t) 0 s _ from ⟨_, fun a b => 1000, .inr (.inl ⟨_, _, _, _, rfl, .tmp rfl, .tmp rfl, rfl⟩), ⟨.nil, .bool⟩⟩)
  · have _u := True.intro
    have hok := (cutS hb11).1 rfl
    obtain ⟨hg, hka, hkb⟩ := id hok
    obtain ⟨gn1, gn2, glen, _⟩ := goodEvs_get hg
    have hkl : k.toNat < l.length := by omega
    have hke : ((k.toNat : Nat) : Int) = k := Int.toNat_of_nonneg hka
    have hfl := first_len hg hkl
    refine AW.skip ?_
    refine AW.seq ?_
    refine AW.region ?_
    refine ARun.pure (PureOp.move rfl (.tmp rfl)) rfl rfl (Nat.le_of_ble_eq_true rfl) ?_
    refine ARun.make (id := 0) (n := n.toNat) (l := [.int .i64 0]) (z := (.int .i64 0)) (by_ := 8) rfl (by kernel_rfl) (fun _ _ _ => ⟨_, _, rfl, rfl, rfl⟩) (.tmp rfl) (.tmp rfl) (Int.toNat_of_nonneg (by omega)).symm (Int.toNat_of_nonneg (by omega)).symm (by omega) (by omega) (by decide) ⟨rfl, (by repeat first | exact trivial | refine ⟨by decide, by first | rfl | exact trivial | (intro i j; first | rfl | exact getD_no rfl | (dsimp only; split <;> first | rfl | exact getD_no rfl) | exact scl_no (by apply_assumption) _), ?_⟩)⟩ rfl rfl rfl (Nat.le_of_ble_eq_true rfl) ?_
    refine ARun.pure (PureOp.assign rfl (.tmp rfl)) rfl rfl (Nat.le_of_ble_eq_true rfl) ?_
    refine ARun.nil ?_
    refine AW.seq ?_
    refine AW.region ?_
    refine ARun.pure (PureOp.move rfl (.tmp rfl)) rfl rfl (Nat.le_of_ble_eq_true rfl) ?_
    refine ARun.pure (PureOp.move rfl (.tmp rfl)) rfl rfl (Nat.le_of_ble_eq_true rfl) ?_
    refine ARun.fresh (FreshOp.callS rfl (v_AtI n l hg) ⟨⟨_, (.tmp rfl), .int⟩, ⟨_, (.tmp rfl), .lst⟩, trivial⟩ vcu_ca_54 rfl) rfl rfl (Nat.le_of_ble_eq_true rfl) ?_
    refine ARun.pure (PureOp.assign rfl (.tmp rfl)) rfl rfl (Nat.le_of_ble_eq_true rfl) ?_
    refine ARun.nil ?_
    refine AW.seq ?_
    refine AW.seq ?_
    refine AW.region ?_
    refine ARun.pure (PureOp.move rfl (.tmp rfl)) rfl rfl (Nat.le_of_ble_eq_true rfl) ?_
    refine ARun.pure (PureOp.move rfl (.tmp rfl)) rfl rfl (Nat.le_of_ble_eq_true rfl) ?_
    refine ARun.prod (K := 1) rfl (v_FirstI n l hg k hke hkl) ⟨rfl, (by repeat first | exact trivial | refine ⟨by decide, by first | rfl | exact trivial | (intro i j; first | rfl | exact getD_no rfl | (dsimp only; split <;> first | rfl | exact getD_no rfl) | exact scl_no (by apply_assumption) _), ?_⟩)⟩ ⟨⟨_, (.tmp rfl), .lst⟩, ⟨_, (.tmp rfl), .int⟩, trivial⟩ vcu_ca_46 rfl rfl rfl rfl rfl (Nat.le_of_ble_eq_true rfl) ?_
    refine ARun.openRow 33 1 0 1 1 ((firstV l k.toNat).length) 2 _ (fun ii_ _ => .int .i64 ((firstV l k.toNat).getD ii_ 0)) rfl rfl (by decide) rfl (fun ia ja hi hj => match ja, hj with | 0, _ => rfl | _ + 1, h => absurd h (by omega)) (fun i j => by first | rfl | exact getD_no rfl) ⟨rfl, (by repeat first | exact trivial | refine ⟨by decide, by first | rfl | exact trivial | (intro i j; first | rfl | exact getD_no rfl | (dsimp only; split <;> first | rfl | exact getD_no rfl) | exact scl_no (by apply_assumption) _), ?_⟩)⟩ ?_
    refine ARun.pure (PureOp.move rfl (.tmp rfl)) rfl rfl (Nat.le_of_ble_eq_true rfl) ?_
    refine ARun.slice1 (id := 3) (z := (.int .i64 0)) (by_ := 8) rfl (.tmp rfl) trivial (by kernel_rfl) rfl rfl (by decide) (by decide) ⟨rfl, (by repeat first | exact trivial | refine ⟨by decide, by first | rfl | exact trivial | (intro i j; first | rfl | exact getD_no rfl | (dsimp only; split <;> first | rfl | exact getD_no rfl) | exact scl_no (by apply_assumption) _), ?_⟩)⟩ rfl rfl rfl (Nat.le_of_ble_eq_true rfl) ?_
    refine ARun.append (id := 4) (sz := 1) (n := (firstV l k.toNat).length) (m := 1) (by_ := 8) (z := (.int .i64 0)) (f := fun ii_ _ => .int .i64 ((firstV l k.toNat).getD ii_ 0)) (g := fun _ jc => ([.int .i64 k] : List AV).getD jc (.con undef)) (h := fun ia ja => if ia < (firstV l k.toNat).length then (fun ii_ _ => .int .i64 ((firstV l k.toNat).getD ii_ 0)) ia ja else (fun _ jc => ([.int .i64 k] : List AV).getD jc (.con undef)) (ia - (firstV l k.toNat).length) ja) rfl (by kernel_rfl) rfl vcu_sl_30 (.own (.tmp rfl) rfl rfl rfl (Nat.le_refl _) (fun _ _ _ _ => rfl)) (.own (.tmp rfl) rfl rfl (Nat.le_refl _) (fun _ _ _ _ => rfl)) (by decide) (fun i j hi hj => match j, hj with | 0, _ => rfl | _ + 1, h => absurd h (by omega)) (fun _ _ _ _ => rfl) (by omega) (by omega) ⟨rfl, (by repeat first | exact trivial | refine ⟨by decide, by first | rfl | exact trivial | (intro i j; first | rfl | exact getD_no rfl | (dsimp only; split <;> first | rfl | exact getD_no rfl) | exact scl_no (by apply_assumption) _), ?_⟩)⟩ (fun i j => by dsimp only; (repeat' split) <;> first | rfl | exact getD_no rfl) rfl rfl (Nat.le_of_ble_eq_true rfl) ?_
    refine ARun.pure (PureOp.lenOwn rfl (.tmp rfl) vcu_sl_30) rfl rfl (Nat.le_of_ble_eq_true rfl) ?_
    refine ARun.pure (PureOp.move rfl .int) rfl rfl (Nat.le_of_ble_eq_true rfl) ?_
    refine ARun.nil ?_
    refine AW.block ?_
    refine AW.loop (ι := Nat) (fun t => ⟨[(1, .one (.lst 2 l.length (fun i0 j0 => ([.int .i64 ((l.getD i0 (default : GEvent)).a), .int .i64 ((l.getD i0 (default : GEvent)).b)] : List AV).getD j0 (.con undef)))), (8, .one (.own 0 1 n.toNat)), (9, .one (.frs (.lst 1 ((atL l l.length).length) (fun i0 _ => .int .i64 ((atL l l.length).getD i0 0))))), (36, .one (.own 4 1 ((firstV l k.toNat ++ [(k.toNat : Int)]).length))), (37, .one (.int .i64 ((((firstV l k.toNat).length + 1) : Nat) : Int))), (38, .one (.int .i64 (t : Int)))], [(0, .arr 1 n.toNat (fun ii_ _ => .int .i64 (cutF l (firstV l k.toNat ++ [(k.toNat : Int)]) t ii_))), (4, .arr 1 ((firstV l k.toNat ++ [(k.toNat : Int)]).length) (fun ii_ _ => .int .i64 ((firstV l k.toNat ++ [(k.toNat : Int)]).getD ii_ 0)))]⟩) (fun t => t ≤ (firstV l k.toNat ++ [(k.toNat : Int)]).length) (fun t => (firstV l k.toNat ++ [(k.toNat : Int)]).length - t) 0 (Nat.zero_le _) ⟨⟨⟨_, rfl, rfl⟩, ⟨_, rfl, rfl⟩, ⟨_, rfl, rfl⟩, ⟨_, rfl, congrArg (fun z : Nat => SV.one (.own 4 1 z)) (by rw [List.length_append]; rfl)⟩, ⟨_, rfl, rfl⟩, ⟨_, rfl, rfl⟩, trivial⟩, ⟨⟨_, rfl, rfl, Nat.le_refl _, fun ja jb _ (hb : jb < 1) => by obtain rfl : jb = 0 := (by omega); rfl⟩, ⟨_, rfl, rfl, Nat.le_of_eq (by simp only [AObj.n]; rw [List.length_append]; rfl), fun ja jb (hi : ja < (firstV l k.toNat ++ [(k.toNat : Int)]).length) (hb : jb < 1) => by
      obtain rfl : jb = 0 := by omega
      rw [List.length_append] at hi
      exact first_app hke hi⟩, trivial⟩⟩ ?_
    intro t ht
    refine AW.seq ?_
    refine AW.region ?_
    refine ARun.pure (PureOp.intOp rfl (.tmp rfl) (.tmp rfl) rfl) rfl rfl (Nat.le_of_ble_eq_true rfl) ?_
    refine ARun.nil ?_
    refine AW.seq ?_
    refine AW.cond (.tmp rfl) (fun hb12 => ?_) (fun hb12 => ?_)
    · have _u := True.intro
      have hFK : (firstV l k.toNat ++ [(k.toNat : Int)]).length = (firstV l k.toNat).length + 1 := by rw [List.length_append, List.length_singleton]
      have htl : t < (firstV l k.toNat ++ [(k.toNat : Int)]).length := by have q := of_decide_eq_true hb12; omega
      obtain ⟨i, hfi0, hil⟩ := first_mem hg hkl htl
      have hfi : AV.int .i64 ((firstV l k.toNat ++ [(k.toNat : Int)]).getD t 0) = AV.int .i64 (i : Int) := congrArg (fun z : Int => AV.int .i64 z) hfi0
      have hni : 0 ≤ (l.getD i (default : GEvent)).a ∧ (l.getD i (default : GEvent)).a.toNat < n.toNat := ev_bd hg hil
      have hni1 := hni.1
      have hni2 := hni.2
      refine AW.skip ?_
      refine AW.seq ?_
      refine AW.block ?_
      refine AW.seq ?_
      refine AW.region ?_
      refine ARun.pure (PureOp.indexOwn (i := t) rfl (.tmp rfl) vcu_el_30_1 (.tmp rfl) rfl (show t < (firstV l k.toNat ++ [(k.toNat : Int)]).length from htl)) rfl rfl (Nat.le_of_ble_eq_true rfl) ?_
      refine ARun.pure (PureOp.loadPtrE (y := .int .i64 (i : Int)) rfl (.tmp rfl) vcu_pl_3 rfl rfl (show t < (firstV l k.toNat ++ [(k.toNat : Int)]).length from htl) (Nat.le_of_ble_eq_true rfl) hfi) rfl rfl (Nat.le_of_ble_eq_true rfl) ?_
      refine ARun.pure (PureOp.assign rfl (.tmp rfl)) rfl rfl (Nat.le_of_ble_eq_true rfl) ?_
      refine ARun.nil ?_
      refine AW.seq ?_
      refine AW.any (by kernel_rfl) (by kernel_rfl) ?_
      refine AD.pure (PureOp.move rfl (.tmp rfl)) rfl rfl (Nat.le_of_ble_eq_true rfl) ?_
      refine AD.pure (PureOp.move rfl (.tmp rfl)) rfl rfl (Nat.le_of_ble_eq_true rfl) ?_
      refine AD.pure (PureOp.indexLst (i := i) rfl (.frs (.tmp rfl)) vcu_el_30_1 (.tmp rfl) rfl (by try simp only [atL_len]; omega)) rfl rfl (Nat.le_of_ble_eq_true rfl) ?_
      refine AD.pure (PureOp.loadRef rfl (.tmp rfl) vcu_pl_3 (Nat.le_of_ble_eq_true rfl)) rfl rfl (Nat.le_of_ble_eq_true rfl) ?_
      refine AD.pure (PureOp.move rfl (.tmp rfl)) rfl rfl (Nat.le_of_ble_eq_true rfl) ?_
      refine AD.pure (PureOp.move rfl (.tmp rfl)) rfl rfl (Nat.le_of_ble_eq_true rfl) ?_
      refine AD.pure (PureOp.move rfl (.tmp rfl)) rfl rfl (Nat.le_of_ble_eq_true rfl) ?_
      refine AD.pure (PureOp.indexLst (i := i) rfl (.tmp rfl) vcu_el_26_2 (.tmp rfl) rfl (by omega)) rfl rfl (Nat.le_of_ble_eq_true rfl) ?_
      refine AD.pure (PureOp.fieldRef rfl (.tmp rfl) vcu_fi_64_0_0 (Nat.le_of_ble_eq_true rfl)) rfl rfl (Nat.le_of_ble_eq_true rfl) ?_
      refine AD.pure (PureOp.loadRef rfl (.tmp rfl) vcu_pl_3 (Nat.le_of_ble_eq_true rfl)) rfl rfl (Nat.le_of_ble_eq_true rfl) ?_
      refine AD.pure (PureOp.indexOwn (i := ((l.getD i (default : GEvent)).a).toNat) rfl (.tmp rfl) vcu_el_30_1 (.tmp rfl) (by omega) (by omega)) rfl rfl (Nat.le_of_ble_eq_true rfl) ?_
      refine AD.pure (PureOp.loadPtr rfl (.tmp rfl) vcu_pl_3 rfl rfl (show _ < n.toNat from hni2) (Nat.le_of_ble_eq_true rfl)) rfl rfl (Nat.le_of_ble_eq_true rfl) ?_
      refine AD.pure (PureOp.intOp rfl (.tmp rfl) (.tmp rfl) rfl) rfl rfl (Nat.le_of_ble_eq_true rfl) ?_
      refine AD.nil ?_
      refine AW.cond (.tmp rfl) (fun hb13 => ?_) (fun hb13 => ?_)
      · have _u := True.intro
        replace hb13 := of_decide_eq_true hb13
        rw [atL_at hil] at hb13
        have hbd := hb13
        refine AW.anyC 11 (by kernel_rfl) (Nat.le_of_ble_eq_true rfl) (by kernel_rfl) ?_
        refine ADC.pure (PureOp.move rfl (.tmp rfl)) rfl rfl (Nat.le_of_ble_eq_true rfl) rfl ?_
        refine ADC.pure (PureOp.move rfl (.tmp rfl)) rfl rfl (Nat.le_of_ble_eq_true rfl) rfl ?_
        refine ADC.pure (PureOp.move rfl (.tmp rfl)) rfl rfl (Nat.le_of_ble_eq_true rfl) rfl ?_
        refine ADC.pure (PureOp.indexLst (i := i) rfl (.tmp rfl) vcu_el_26_2 (.tmp rfl) rfl (by omega)) rfl rfl (Nat.le_of_ble_eq_true rfl) rfl ?_
        refine ADC.pure (PureOp.fieldRef rfl (.tmp rfl) vcu_fi_64_0_0 (Nat.le_of_ble_eq_true rfl)) rfl rfl (Nat.le_of_ble_eq_true rfl) rfl ?_
        refine ADC.pure (PureOp.loadRef rfl (.tmp rfl) vcu_pl_3 (Nat.le_of_ble_eq_true rfl)) rfl rfl (Nat.le_of_ble_eq_true rfl) rfl ?_
        refine ADC.pure (PureOp.move rfl (.tmp rfl)) rfl rfl (Nat.le_of_ble_eq_true rfl) rfl ?_
        refine ADC.pure (PureOp.move rfl (.tmp rfl)) rfl rfl (Nat.le_of_ble_eq_true rfl) rfl ?_
        refine ADC.pure (PureOp.indexLst (i := i) rfl (.frs (.tmp rfl)) vcu_el_30_1 (.tmp rfl) rfl (by try simp only [atL_len]; omega)) rfl rfl (Nat.le_of_ble_eq_true rfl) rfl ?_
        refine ADC.pure (PureOp.loadRef rfl (.tmp rfl) vcu_pl_3 (Nat.le_of_ble_eq_true rfl)) rfl rfl (Nat.le_of_ble_eq_true rfl) rfl ?_
        refine ADC.pure (PureOp.indexOwn (i := ((l.getD i (default : GEvent)).a).toNat) rfl (.tmp rfl) vcu_el_30_1 (.tmp rfl) (by omega) (by omega)) rfl rfl (Nat.le_of_ble_eq_true rfl) rfl ?_
        refine ADC.tail ?_
        refine ARun.storeElem rfl (.tmp rfl) (.tmp rfl) trivial rfl (show _ < n.toNat from hni2) rfl vcu_sz_3_1 rfl rfl ?_
        refine ARun.nil ?_
        refine AW.region ?_
        refine ARun.pure (PureOp.add (c := ((t + 1 : Nat) : Int)) rfl (.tmp rfl) .int (by rw [wrap_id (by omega) (by omega)]; omega)) rfl rfl (Nat.le_of_ble_eq_true rfl) ?_
        refine ARun.pure (PureOp.move rfl (.tmp rfl)) rfl rfl (Nat.le_of_ble_eq_true rfl) ?_
        refine ARun.nil ?_
        exact ⟨t + 1, by omega, by dsimp only; omega, ⟨⟨⟨_, rfl, rfl⟩, ⟨_, rfl, rfl⟩, ⟨_, rfl, rfl⟩, ⟨_, rfl, rfl⟩, ⟨_, rfl, rfl⟩, ⟨_, rfl, rfl⟩, trivial⟩, ⟨⟨_, rfl, rfl, Nat.le_refl _, fun ja jb _ (hb : jb < 1) => by
      obtain rfl : jb = 0 := by omega
      show (if ja = _ then ([AV.int .i64 _] : List AV).getD 0 (.con undef) else AV.int .i64 _) = AV.int .i64 _
      rw [← cut_set (j := ja) hfi0 hni.1 hbd]
      by_cases hj : ja = (l.getD i (default : GEvent)).a.toNat
      · rw [if_pos hj, if_pos hj]; exact congrArg (fun z : Int => AV.int .i64 z) (atL_at hil)
      · rw [if_neg hj, if_neg hj]⟩, ⟨_, rfl, rfl, Nat.le_refl _, fun _ _ _ _ => rfl⟩, trivial⟩⟩⟩
      · have _u := True.intro
        replace hb13 := of_decide_eq_false hb13
        rw [atL_at hil] at hb13
        have hbd := hb13
        refine AW.skip ?_
        refine AW.region ?_
        refine ARun.pure (PureOp.add (c := ((t + 1 : Nat) : Int)) rfl (.tmp rfl) .int (by rw [wrap_id (by omega) (by omega)]; omega)) rfl rfl (Nat.le_of_ble_eq_true rfl) ?_
        refine ARun.pure (PureOp.move rfl (.tmp rfl)) rfl rfl (Nat.le_of_ble_eq_true rfl) ?_
        refine ARun.nil ?_
        exact ⟨t + 1, by omega, by dsimp only; omega, ⟨⟨⟨_, rfl, rfl⟩, ⟨_, rfl, rfl⟩, ⟨_, rfl, rfl⟩, ⟨_, rfl, rfl⟩, ⟨_, rfl, rfl⟩, ⟨_, rfl, rfl⟩, trivial⟩, ⟨⟨_, rfl, rfl, Nat.le_refl _, fun ja jb _ _ => (congrArg (fun z : Int => AV.int .i64 z) (cut_keep hfi0 hbd))⟩, ⟨_, rfl, rfl, Nat.le_refl _, fun _ _ _ _ => rfl⟩, trivial⟩⟩⟩
    · have _u := True.intro
      have hFK : (firstV l k.toNat ++ [(k.toNat : Int)]).length = (firstV l k.toNat).length + 1 := by rw [List.length_append, List.length_singleton]
      have htl : ¬ t < (firstV l k.toNat ++ [(k.toNat : Int)]).length := by have q := of_decide_eq_false hb12; omega
      have hte : t = (firstV l k.toNat ++ [(k.toNat : Int)]).length := by omega
      refine AW.exit ?_
      refine AW.seq ?_
      refine AW.region ?_
      refine ARun.pure (PureOp.move rfl (.tmp rfl)) rfl rfl (Nat.le_of_ble_eq_true rfl) ?_
      refine ARun.pure (PureOp.assign rfl (.tmp rfl)) rfl rfl (Nat.le_of_ble_eq_true rfl) ?_
      refine ARun.pure (PureOp.assign rfl .bool) rfl rfl (Nat.le_of_ble_eq_true rfl) ?_
      refine ARun.nil ?_
      rw [cut_yes hok]
      exact AW.ret (show ∃ s t, ResL _ _ [.tmp 6, .tmp 7] s ∧ TvS _ (ofLeaf t) 0 s _ from ⟨_, fun a b => if a = 0 then 0 else 1000, .inr (.inl ⟨_, _, _, _, rfl, .tmp rfl, .tmp rfl, rfl⟩), ⟨(Tv.flatN (rowV_len hg hkl) rfl rfl rfl (Nat.le_refl _) (by rfl) (fun ia ja hi hj => by rw [hte]; exact congrArg (fun z : Int => AV.int .i64 z) (cut_end hg hkl hi)) (fun ia ja hi hj => rfl)), .bool⟩⟩)

theorem v_iCut (n : Int) (l : List GEvent) (k : Int) (hn : I64 n) (hk : I64 k) : FnT Try.prog 30 [.one (.int .i64 n), .one (.lst 2 l.length (fun i0 j0 => ([.int .i64 ((l.getD i0 (default : GEvent)).a), .int .i64 ((l.getD i0 (default : GEvent)).b)] : List AV).getD j0 (.con undef))), .one (.int .i64 k)] (.tup2 (.one (.lst 1 (((cutV n l k).1).length) (fun i0 _ => .int .i64 (((cutV n l k).1).getD i0 0)))) (.one (.bool ((cutV n l k).2)))) := by
  obtain ⟨hn0, hn1⟩ := hn
  obtain ⟨hk0, hk1⟩ := hk
  refine FnT.of_body (fn := Try.f30) Try.func30 rfl (Nat.le_of_ble_eq_true rfl)  ?_
  intro w0
  show AW _ 26 _ _ _ _
  refine AW.bound (t := 1) rfl fun hx => ?_
  refine AW.seq ?_
  refine AW.region ?_
  refine ARun.pure (PureOp.assign rfl .con) rfl rfl (Nat.le_of_ble_eq_true rfl) ?_
  refine ARun.pure (PureOp.assign rfl .bool) rfl rfl (Nat.le_of_ble_eq_true rfl) ?_
  refine ARun.nil ?_
  refine AW.seq ?_
  refine AW.seq ?_
  refine AW.region ?_
  refine ARun.pure (PureOp.move rfl (.tmp rfl)) rfl rfl (Nat.le_of_ble_eq_true rfl) ?_
  refine ARun.pure (PureOp.move rfl (.tmp rfl)) rfl rfl (Nat.le_of_ble_eq_true rfl) ?_
  refine ARun.pure (PureOp.call rfl (v_areEvents n l ⟨by omega, by omega⟩) ⟨⟨_, (.tmp rfl), .int⟩, ⟨_, (.tmp rfl), .lst⟩, trivial⟩ vcu_ca_48 trivial) rfl rfl (Nat.le_of_ble_eq_true rfl) ?_
  refine ARun.pure (PureOp.not rfl (.tmp rfl)) rfl rfl (Nat.le_of_ble_eq_true rfl) ?_
  refine ARun.pure (PureOp.move rfl (.tmp rfl)) rfl rfl (Nat.le_of_ble_eq_true rfl) ?_
  refine ARun.gpure (want := false) (.tf rfl) (fun hg1 => PureOp.move rfl (.tmp rfl)) rfl rfl (Nat.le_of_ble_eq_true rfl) rfl (Nat.le_of_ble_eq_true rfl) ?_
  refine ARun.gpure (want := false) (.tf rfl) (fun hg2 => PureOp.move rfl (.tmp rfl)) rfl rfl (Nat.le_of_ble_eq_true rfl) rfl (Nat.le_of_ble_eq_true rfl) ?_
  refine ARun.gpure (want := false) (.tf rfl) (fun hg3 => PureOp.lenLst rfl (.gtmp rfl hg3) vcu_sl_26) rfl rfl (Nat.le_of_ble_eq_true rfl) rfl (Nat.le_of_ble_eq_true rfl) ?_
  refine ARun.gpure (want := false) (.tf rfl) (fun hg4 => PureOp.sub (c := (l.length : Int) - 1) rfl (.gtmp rfl hg4) .int (wrap_id (by omega) (by omega))) rfl rfl (Nat.le_of_ble_eq_true rfl) rfl (Nat.le_of_ble_eq_true rfl) ?_
  refine ARun.gpure (want := false) (.tf rfl) (fun hg5 => PureOp.call rfl (v_within k 0 ((l.length : Int) - 1)) ⟨⟨_, (.gtmp rfl hg5), .int⟩, ⟨_, .int, .int⟩, ⟨_, (.gtmp rfl hg5), .int⟩, trivial⟩ vcu_ca_49 trivial) rfl rfl (Nat.le_of_ble_eq_true rfl) rfl (Nat.le_of_ble_eq_true rfl) ?_
  refine ARun.gpure (want := false) (.tf rfl) (fun hg6 => PureOp.not rfl (.gtmp rfl hg6)) rfl rfl (Nat.le_of_ble_eq_true rfl) rfl (Nat.le_of_ble_eq_true rfl) ?_
  refine ARun.pure (PureOp.pick rfl (.tmp rfl) (fun _ => .bool) (fun hp8 => .gtmp rfl (not_of hp8))) rfl rfl (Nat.le_of_ble_eq_true rfl) ?_
  refine ARun.nil ?_
  refine AW.cond (.tmp rfl) (fun hb9 => ?_) (fun hb9 => ?_)
  · have _u := True.intro
    have _h := hb9
    refine AW.seq ?_
    refine AW.region ?_
    refine ARun.pure (PureOp.assign rfl .con) rfl rfl (Nat.le_of_ble_eq_true rfl) ?_
    refine ARun.pure (PureOp.assign rfl .bool) rfl rfl (Nat.le_of_ble_eq_true rfl) ?_
    refine ARun.nil ?_
    rw [cut_no ((cutI hb9).2 rfl)]
    exact AW.ret (show ∃ s t, ResL _ _ [.tmp 6, .tmp 7] s ∧ TvS _ (ofLeaf t) 0 s _ from ⟨_, fun a b => 1000, .inr (.inl ⟨_, _, _, _, rfl, .tmp rfl, .tmp rfl, rfl⟩), ⟨.nil, .bool⟩⟩)
  · have _u := True.intro
    have hok := (cutI hb9).1 rfl
    obtain ⟨hg, hka, hkb⟩ := id hok
    obtain ⟨gn1, gn2, glen, _⟩ := goodEvs_get hg
    have hkl : k.toNat < l.length := by omega
    have hke : ((k.toNat : Nat) : Int) = k := Int.toNat_of_nonneg hka
    refine AW.skip ?_
    refine AW.seq ?_
    refine AW.region ?_
    refine ARun.pure (PureOp.move rfl (.tmp rfl)) rfl rfl (Nat.le_of_ble_eq_true rfl) ?_
    refine ARun.pure (PureOp.move rfl (.tmp rfl)) rfl rfl (Nat.le_of_ble_eq_true rfl) ?_
    refine ARun.prod (K := 0) rfl (v_ClocksI n l hg) ⟨rfl, (by repeat first | exact trivial | refine ⟨by decide, by first | rfl | exact trivial | (intro i j; first | rfl | exact getD_no rfl | (dsimp only; split <;> first | rfl | exact getD_no rfl) | exact scl_no (by apply_assumption) _), ?_⟩)⟩ ⟨⟨_, (.tmp rfl), .int⟩, ⟨_, (.tmp rfl), .lst⟩, trivial⟩ vcu_ca_50 rfl rfl rfl rfl rfl (Nat.le_of_ble_eq_true rfl) ?_
    refine ARun.openRow2 22 0 0 1 ((ckTo n.toNat l l.length).length) 1 2 _ (fun i0 _ => .lst 1 ((ckTo n.toNat l l.length).getD i0 []).length (fun i1 _ => .int .i64 (((ckTo n.toNat l l.length).getD i0 []).getD i1 0))) rfl rfl (by decide) rfl (fun i_ hi_ => ⟨_, _, _, rfl⟩) ⟨rfl, (by repeat first | exact trivial | refine ⟨by decide, by first | rfl | exact trivial | (intro i j; first | rfl | exact getD_no rfl | (dsimp only; split <;> first | rfl | exact getD_no rfl) | exact scl_no (by apply_assumption) _), ?_⟩)⟩ ⟨rfl, (by repeat first | exact trivial | refine ⟨by decide, by first | rfl | exact trivial | (intro i j; first | rfl | exact getD_no rfl | (dsimp only; split <;> first | rfl | exact getD_no rfl) | exact scl_no (by apply_assumption) _), ?_⟩)⟩ (by decide) ?_
    refine ARun.pure (PureOp.move rfl (.tmp rfl)) rfl rfl (Nat.le_of_ble_eq_true rfl) ?_
    refine ARun.pure (PureOp.indexOwn (i := k.toNat) rfl (.tmp rfl) vcu_el_40_1 (.tmp rfl) hke.symm (by rw [ckTo_len]; exact hkl)) rfl rfl (Nat.le_of_ble_eq_true rfl) ?_
    refine ARun.pure (PureOp.loadPtr rfl (.tmp rfl) vcu_pl_30 rfl rfl (by show k.toNat < (ckTo n.toNat l l.length).length; rw [ckTo_len]; exact hkl) (Nat.le_of_ble_eq_true rfl)) rfl rfl (Nat.le_of_ble_eq_true rfl) ?_
    refine ARun.pure (PureOp.assign rfl (.tmp rfl)) rfl rfl (Nat.le_of_ble_eq_true rfl) ?_
    refine ARun.pure (PureOp.assign rfl .bool) rfl rfl (Nat.le_of_ble_eq_true rfl) ?_
    refine ARun.nil ?_
    rw [cut_yes hok]
    exact AW.ret (show ∃ s t, ResL _ _ [.tmp 6, .tmp 7] s ∧ TvS _ (ofLeaf t) 0 s _ from ⟨_, fun a b => if a = 2 then 0 else 1000, .inr (.inl ⟨_, _, _, _, rfl, .tmp rfl, .tmp rfl, rfl⟩), ⟨(Tv.cast (Tv.tre rfl (by show k.toNat < (ckTo n.toNat l l.length).length; rw [ckTo_len]; exact hkl) (by rfl)) rfl), .bool⟩⟩)
end Go.Proofs.Ytmkhahiefdcinaa

/-
  CameFirst: the reference and the program answer the same.
-/
namespace Go.Proofs.Ytmkhahiefdcinaa
open Go.ChangeShapes Go.WideShapes Go.ChangeAt Go.RowKit Go.BigFrame Go.Deep
set_option linter.unusedVariables false
set_option linter.unusedSimpArgs false
theorem vcq_ca_44 : callB Try.prog 44 = true := by kernel_rfl
theorem vcq_ca_45 : callB Try.prog 45 = true := by kernel_rfl
theorem vcq_ca_46 : callB Try.prog 46 = true := by kernel_rfl
theorem vcq_ca_48 : callB Try.prog 48 = true := by kernel_rfl
theorem vcq_ca_49 : callB Try.prog 49 = true := by kernel_rfl
theorem vcq_ca_50 : callB Try.prog 50 = true := by kernel_rfl
theorem vcq_el_26_2 : elemB Try.prog 26 2 = true := by kernel_rfl
theorem vcq_el_30_1 : elemB Try.prog 30 1 = true := by kernel_rfl
theorem vcq_el_40_1 : elemB Try.prog 40 1 = true := by kernel_rfl
theorem vcq_fi_64_0_0 : fieldB Try.prog 64 0 0 = true := by kernel_rfl
theorem vcq_pl_3 : plainB Try.prog 3 = true := by kernel_rfl
theorem vcq_pl_30 : plainB Try.prog 30 = true := by kernel_rfl
theorem vcq_sl_26 : sliceB Try.prog 26 = true := by kernel_rfl
def cfOk (n : Int) (l : List GEvent) (a b : Int) : Prop := goodEvs n l = true ∧ (0 ≤ a ∧ a < l.length) ∧ 0 ≤ b ∧ b < l.length
open Classical in
noncomputable def cfV (n : Int) (l : List GEvent) (a b : Int) : Bool × Bool := if cfOk n l a b then ((firstV l b.toNat).contains a, true) else (false, false)
theorem cf_no {n : Int} {l : List GEvent} {a b : Int} (h : ¬ cfOk n l a b) : cfV n l a b = (false, false) := if_neg h
theorem cf_yes {n : Int} {l : List GEvent} {a b : Int} (h : cfOk n l a b) : cfV n l a b = ((firstV l b.toNat).contains a, true) := if_pos h
theorem cfS {n : Int} {l : List GEvent} {a b : Int} {p : Bool} (h : cond (cond (cond (cond (!goodEvs n l) true (decide (a < 0))) true (decide ((l.length : Int) ≤ a))) true (decide (b < 0))) true (decide ((l.length : Int) ≤ b)) = p) : (p = false → cfOk n l a b) ∧ (p = true → ¬ cfOk n l a b) := by
  unfold cfOk
  by_cases h1 : goodEvs n l = true <;> by_cases h2 : a < 0 <;> by_cases h3 : (l.length : Int) ≤ a <;> by_cases h4 : b < 0 <;> by_cases h5 : (l.length : Int) ≤ b <;> simp [h1, h2, h3, h4, h5] at h <;> subst h <;> simp [h1, h2, h3, h4, h5] <;> omega
theorem cfI {n : Int} {l : List GEvent} {a b : Int} {p : Bool} (h : cond (cond (!goodEvs n l) true (!inB 0 ((l.length : Int) - 1) a)) true (!inB 0 ((l.length : Int) - 1) b) = p) : (p = false → cfOk n l a b) ∧ (p = true → ¬ cfOk n l a b) := by
  unfold cfOk inB at *
  by_cases h1 : goodEvs n l = true <;> by_cases h2 : 0 ≤ a <;> by_cases h3 : a ≤ (l.length : Int) - 1 <;> by_cases h4 : 0 ≤ b <;> by_cases h5 : b ≤ (l.length : Int) - 1 <;> simp [h1, h2, h3, h4, h5] at h <;> subst h <;> simp [h1, h2, h3, h4, h5] <;> omega
theorem cf_end {n : Int} {l : List P2} (hg : goodEvs n l = true) {a b : Int} (ha : 0 ≤ a ∧ a < l.length) (hb : 0 ≤ b ∧ b < l.length) : cond (!decide (a = b)) (decide (((ckTo n.toNat l l.length).getD a.toNat []).getD (l.getD a.toNat (default : GEvent)).a.toNat 0 ≤ ((ckTo n.toNat l l.length).getD b.toNat []).getD (l.getD a.toNat (default : GEvent)).a.toNat 0)) false = (firstV l b.toNat).contains a := by
  obtain ⟨h1, _⟩ := goodEvs_get hg
  obtain ⟨N, rfl⟩ : ∃ N : Nat, n = N := ⟨n.toNat, (Int.toNat_of_nonneg (by omega)).symm⟩
  obtain ⟨A, rfl⟩ : ∃ A : Nat, a = A := ⟨a.toNat, (Int.toNat_of_nonneg ha.1).symm⟩
  obtain ⟨B, rfl⟩ : ∃ B : Nat, b = B := ⟨b.toNat, (Int.toNat_of_nonneg hb.1).symm⟩
  simp only [Int.toNat_natCast]
  rw [came_first hg (a := A) (b := B) (by omega) (by omega)]
  have e : decide ((A : Int) = (B : Int)) = decide (A = B) := decide_eq_decide.2 (by omega)
  rw [e]
  have eA : clk N l (A : Int) (ev l A).a.toNat = ((ckTo N l l.length).getD A []).getD (l.getD A (default : GEvent)).a.toNat 0 := by unfold clk; rw [if_pos (by omega)]; rfl
  have eB : clk N l (B : Int) (ev l A).a.toNat = ((ckTo N l l.length).getD B []).getD (l.getD A (default : GEvent)).a.toNat 0 := by unfold clk; rw [if_pos (by omega)]; rfl
  show _ = (!decide (A = B) && decide (clk N l (A : Int) _ ≤ clk N l (B : Int) _))
  rw [eA, eB]
  cases decide (A = B) <;> rfl
theorem v_sCame (n : Int) (l : List GEvent) (a b : Int) (hn : I64 n) (ha : I64 a) (hb : I64 b) : Fn Try.prog 11 [.one (.int .i64 n), .one (.lst 2 l.length (fun i0 j0 => ([.int .i64 ((l.getD i0 (default : GEvent)).a), .int .i64 ((l.getD i0 (default : GEvent)).b)] : List AV).getD j0 (.con undef))), .one (.int .i64 a), .one (.int .i64 b)] (.tup2 (.one (.bool ((cfV n l a b).1))) (.one (.bool ((cfV n l a b).2)))) := by
  obtain ⟨hn0, hn1⟩ := hn
  obtain ⟨ha0, ha1⟩ := ha
  obtain ⟨hb0, hb1⟩ := hb
  refine Fn.of_body (fn := Try.f11) Try.func11 rfl (Nat.le_of_ble_eq_true rfl) ⟨trivial, trivial⟩ ?_
  intro w0
  show AW _ 39 _ _ _ _
  refine AW.bound (t := 1) rfl fun hx => ?_
  refine AW.seq ?_
  refine AW.region ?_
  refine ARun.pure (PureOp.assign rfl .bool) rfl rfl (Nat.le_of_ble_eq_true rfl) ?_
  refine ARun.pure (PureOp.assign rfl .bool) rfl rfl (Nat.le_of_ble_eq_true rfl) ?_
  refine ARun.nil ?_
  refine AW.seq ?_
  refine AW.seq ?_
  refine AW.region ?_
  refine ARun.pure (PureOp.move rfl (.tmp rfl)) rfl rfl (Nat.le_of_ble_eq_true rfl) ?_
  refine ARun.pure (PureOp.move rfl (.tmp rfl)) rfl rfl (Nat.le_of_ble_eq_true rfl) ?_
  refine ARun.pure (PureOp.call rfl (v_GoodEvents n l ⟨by omega, by omega⟩) ⟨⟨_, (.tmp rfl), .int⟩, ⟨_, (.tmp rfl), .lst⟩, trivial⟩ vcq_ca_44 trivial) rfl rfl (Nat.le_of_ble_eq_true rfl) ?_
  refine ARun.pure (PureOp.not rfl (.tmp rfl)) rfl rfl (Nat.le_of_ble_eq_true rfl) ?_
  refine ARun.pure (PureOp.move rfl (.tmp rfl)) rfl rfl (Nat.le_of_ble_eq_true rfl) ?_
  refine ARun.gpure (want := false) (.tf rfl) (fun hg1 => PureOp.move rfl (.tmp rfl)) rfl rfl (Nat.le_of_ble_eq_true rfl) rfl (Nat.le_of_ble_eq_true rfl) ?_
  refine ARun.gpure (want := false) (.tf rfl) (fun hg2 => PureOp.intOp rfl (.gtmp rfl hg2) .int rfl) rfl rfl (Nat.le_of_ble_eq_true rfl) rfl (Nat.le_of_ble_eq_true rfl) ?_
  refine ARun.pure (PureOp.pick rfl (.tmp rfl) (fun _ => .bool) (fun hp4 => .gtmp rfl (not_of hp4))) rfl rfl (Nat.le_of_ble_eq_true rfl) ?_
  refine ARun.pure (PureOp.move rfl (.tmp rfl)) rfl rfl (Nat.le_of_ble_eq_true rfl) ?_
  refine ARun.gpure (want := false) (.tf rfl) (fun hg5 => PureOp.move rfl (.tmp rfl)) rfl rfl (Nat.le_of_ble_eq_true rfl) rfl (Nat.le_of_ble_eq_true rfl) ?_
  refine ARun.gpure (want := false) (.tf rfl) (fun hg6 => PureOp.move rfl (.tmp rfl)) rfl rfl (Nat.le_of_ble_eq_true rfl) rfl (Nat.le_of_ble_eq_true rfl) ?_
  refine ARun.gpure (want := false) (.tf rfl) (fun hg7 => PureOp.lenLst rfl (.gtmp rfl hg7) vcq_sl_26) rfl rfl (Nat.le_of_ble_eq_true rfl) rfl (Nat.le_of_ble_eq_true rfl) ?_
  refine ARun.gpure (want := false) (.tf rfl) (fun hg8 => PureOp.intOp rfl (.gtmp rfl hg8) (.gtmp rfl hg8) rfl) rfl rfl (Nat.le_of_ble_eq_true rfl) rfl (Nat.le_of_ble_eq_true rfl) ?_
  refine ARun.pure (PureOp.pick rfl (.tmp rfl) (fun _ => .bool) (fun hp10 => .gtmp rfl (not_of hp10))) rfl rfl (Nat.le_of_ble_eq_true rfl) ?_
  refine ARun.pure (PureOp.move rfl (.tmp rfl)) rfl rfl (Nat.le_of_ble_eq_true rfl) ?_
  refine ARun.gpure (want := false) (.tf rfl) (fun hg11 => PureOp.move rfl (.tmp rfl)) rfl rfl (Nat.le_of_ble_eq_true rfl) rfl (Nat.le_of_ble_eq_true rfl) ?_
  refine ARun.gpure (want := false) (.tf rfl) (fun hg12 => PureOp.intOp rfl (.gtmp rfl hg12) .int rfl) rfl rfl (Nat.le_of_ble_eq_true rfl) rfl (Nat.le_of_ble_eq_true rfl) ?_
  refine ARun.pure (PureOp.pick rfl (.tmp rfl) (fun _ => .bool) (fun hp14 => .gtmp rfl (not_of hp14))) rfl rfl (Nat.le_of_ble_eq_true rfl) ?_
  refine ARun.pure (PureOp.move rfl (.tmp rfl)) rfl rfl (Nat.le_of_ble_eq_true rfl) ?_
  refine ARun.gpure (want := false) (.tf rfl) (fun hg15 => PureOp.move rfl (.tmp rfl)) rfl rfl (Nat.le_of_ble_eq_true rfl) rfl (Nat.le_of_ble_eq_true rfl) ?_
  refine ARun.gpure (want := false) (.tf rfl) (fun hg16 => PureOp.move rfl (.tmp rfl)) rfl rfl (Nat.le_of_ble_eq_true rfl) rfl (Nat.le_of_ble_eq_true rfl) ?_
  refine ARun.gpure (want := false) (.tf rfl) (fun hg17 => PureOp.lenLst rfl (.gtmp rfl hg17) vcq_sl_26) rfl rfl (Nat.le_of_ble_eq_true rfl) rfl (Nat.le_of_ble_eq_true rfl) ?_
  refine ARun.gpure (want := false) (.tf rfl) (fun hg18 => PureOp.intOp rfl (.gtmp rfl hg18) (.gtmp rfl hg18) rfl) rfl rfl (Nat.le_of_ble_eq_true rfl) rfl (Nat.le_of_ble_eq_true rfl) ?_
  refine ARun.pure (PureOp.pick rfl (.tmp rfl) (fun _ => .bool) (fun hp20 => .gtmp rfl (not_of hp20))) rfl rfl (Nat.le_of_ble_eq_true rfl) ?_
  refine ARun.nil ?_
  refine AW.cond (.tmp rfl) (fun hb21 => ?_) (fun hb21 => ?_)
  · have _u := True.intro
    have _h := hb21
    refine AW.seq ?_
    refine AW.region ?_
    refine ARun.pure (PureOp.assign rfl .bool) rfl rfl (Nat.le_of_ble_eq_true rfl) ?_
    refine ARun.pure (PureOp.assign rfl .bool) rfl rfl (Nat.le_of_ble_eq_true rfl) ?_
    refine ARun.nil ?_
    refine AW.ret (show ResL _ _ [.tmp 8, .tmp 9] _ from res2B rfl rfl ?_)
    rw [cf_no ((cfS hb21).2 rfl)]
    exact ⟨rfl, rfl⟩
  · have _u := True.intro
    have hok := (cfS hb21).1 rfl
    obtain ⟨hg, haa, hbb⟩ := id hok
    obtain ⟨gn1, gn2, glen, _⟩ := goodEvs_get hg
    have hal : a.toNat < l.length := by omega
    have hbl : b.toNat < l.length := by omega
    have hae : ((a.toNat : Nat) : Int) = a := Int.toNat_of_nonneg haa.1
    have hbe : ((b.toNat : Nat) : Int) = b := Int.toNat_of_nonneg hbb.1
    have hni : 0 ≤ (l.getD a.toNat (default : GEvent)).a ∧ (l.getD a.toNat (default : GEvent)).a.toNat < n.toNat := ev_bd hg hal
    have hni2 := hni.2
    have hnd := (Int.toNat_of_nonneg hni.1).symm
    refine AW.skip ?_
    refine AW.seq ?_
    refine AW.region ?_
    refine ARun.pure (PureOp.move rfl (.tmp rfl)) rfl rfl (Nat.le_of_ble_eq_true rfl) ?_
    refine ARun.pure (PureOp.move rfl (.tmp rfl)) rfl rfl (Nat.le_of_ble_eq_true rfl) ?_
    refine ARun.fresh (FreshOp.callS rfl (FnT.toF (v_FirstI n l hg b hbe hbl)) ⟨⟨_, (.tmp rfl), .lst⟩, ⟨_, (.tmp rfl), .int⟩, trivial⟩ vcq_ca_46 rfl) rfl rfl (Nat.le_of_ble_eq_true rfl) ?_
    refine ARun.pure (PureOp.move rfl (.tmp rfl)) rfl rfl (Nat.le_of_ble_eq_true rfl) ?_
    refine ARun.pure (PureOp.call rfl (v_Has (firstV l b.toNat) a) ⟨⟨_, (.tmp rfl), .frs⟩, ⟨_, (.tmp rfl), .int⟩, trivial⟩ vcq_ca_45 trivial) rfl rfl (Nat.le_of_ble_eq_true rfl) ?_
    refine ARun.pure (PureOp.assign rfl (.tmp rfl)) rfl rfl (Nat.le_of_ble_eq_true rfl) ?_
    refine ARun.pure (PureOp.assign rfl .bool) rfl rfl (Nat.le_of_ble_eq_true rfl) ?_
    refine ARun.nil ?_
    refine AW.ret (show ResL _ _ [.tmp 8, .tmp 9] _ from res2B rfl rfl ?_)
    rw [cf_yes hok]
    exact ⟨rfl, rfl⟩

theorem v_iCame (n : Int) (l : List GEvent) (a b : Int) (hn : I64 n) (ha : I64 a) (hb : I64 b) : Fn Try.prog 13 [.one (.int .i64 n), .one (.lst 2 l.length (fun i0 j0 => ([.int .i64 ((l.getD i0 (default : GEvent)).a), .int .i64 ((l.getD i0 (default : GEvent)).b)] : List AV).getD j0 (.con undef))), .one (.int .i64 a), .one (.int .i64 b)] (.tup2 (.one (.bool ((cfV n l a b).1))) (.one (.bool ((cfV n l a b).2)))) := by
  obtain ⟨hn0, hn1⟩ := hn
  obtain ⟨ha0, ha1⟩ := ha
  obtain ⟨hb0, hb1⟩ := hb
  refine Fn.of_body (fn := Try.f13) Try.func13 rfl (Nat.le_of_ble_eq_true rfl) ⟨trivial, trivial⟩ ?_
  intro w0
  show AW _ 60 _ _ _ _
  refine AW.bound (t := 1) rfl fun hx => ?_
  refine AW.seq ?_
  refine AW.region ?_
  refine ARun.pure (PureOp.assign rfl .bool) rfl rfl (Nat.le_of_ble_eq_true rfl) ?_
  refine ARun.pure (PureOp.assign rfl .bool) rfl rfl (Nat.le_of_ble_eq_true rfl) ?_
  refine ARun.nil ?_
  refine AW.seq ?_
  refine AW.seq ?_
  refine AW.region ?_
  refine ARun.pure (PureOp.move rfl (.tmp rfl)) rfl rfl (Nat.le_of_ble_eq_true rfl) ?_
  refine ARun.pure (PureOp.move rfl (.tmp rfl)) rfl rfl (Nat.le_of_ble_eq_true rfl) ?_
  refine ARun.pure (PureOp.call rfl (v_areEvents n l ⟨by omega, by omega⟩) ⟨⟨_, (.tmp rfl), .int⟩, ⟨_, (.tmp rfl), .lst⟩, trivial⟩ vcq_ca_48 trivial) rfl rfl (Nat.le_of_ble_eq_true rfl) ?_
  refine ARun.pure (PureOp.not rfl (.tmp rfl)) rfl rfl (Nat.le_of_ble_eq_true rfl) ?_
  refine ARun.pure (PureOp.move rfl (.tmp rfl)) rfl rfl (Nat.le_of_ble_eq_true rfl) ?_
  refine ARun.gpure (want := false) (.tf rfl) (fun hg1 => PureOp.move rfl (.tmp rfl)) rfl rfl (Nat.le_of_ble_eq_true rfl) rfl (Nat.le_of_ble_eq_true rfl) ?_
  refine ARun.gpure (want := false) (.tf rfl) (fun hg2 => PureOp.move rfl (.tmp rfl)) rfl rfl (Nat.le_of_ble_eq_true rfl) rfl (Nat.le_of_ble_eq_true rfl) ?_
  refine ARun.gpure (want := false) (.tf rfl) (fun hg3 => PureOp.lenLst rfl (.gtmp rfl hg3) vcq_sl_26) rfl rfl (Nat.le_of_ble_eq_true rfl) rfl (Nat.le_of_ble_eq_true rfl) ?_
  refine ARun.gpure (want := false) (.tf rfl) (fun hg4 => PureOp.sub (c := (l.length : Int) - 1) rfl (.gtmp rfl hg4) .int (wrap_id (by omega) (by omega))) rfl rfl (Nat.le_of_ble_eq_true rfl) rfl (Nat.le_of_ble_eq_true rfl) ?_
  refine ARun.gpure (want := false) (.tf rfl) (fun hg5 => PureOp.call rfl (v_within a 0 ((l.length : Int) - 1)) ⟨⟨_, (.gtmp rfl hg5), .int⟩, ⟨_, .int, .int⟩, ⟨_, (.gtmp rfl hg5), .int⟩, trivial⟩ vcq_ca_49 trivial) rfl rfl (Nat.le_of_ble_eq_true rfl) rfl (Nat.le_of_ble_eq_true rfl) ?_
  refine ARun.gpure (want := false) (.tf rfl) (fun hg6 => PureOp.not rfl (.gtmp rfl hg6)) rfl rfl (Nat.le_of_ble_eq_true rfl) rfl (Nat.le_of_ble_eq_true rfl) ?_
  refine ARun.pure (PureOp.pick rfl (.tmp rfl) (fun _ => .bool) (fun hp8 => .gtmp rfl (not_of hp8))) rfl rfl (Nat.le_of_ble_eq_true rfl) ?_
  refine ARun.pure (PureOp.move rfl (.tmp rfl)) rfl rfl (Nat.le_of_ble_eq_true rfl) ?_
  refine ARun.gpure (want := false) (.tf rfl) (fun hg9 => PureOp.move rfl (.tmp rfl)) rfl rfl (Nat.le_of_ble_eq_true rfl) rfl (Nat.le_of_ble_eq_true rfl) ?_
  refine ARun.gpure (want := false) (.tf rfl) (fun hg10 => PureOp.move rfl (.tmp rfl)) rfl rfl (Nat.le_of_ble_eq_true rfl) rfl (Nat.le_of_ble_eq_true rfl) ?_
  refine ARun.gpure (want := false) (.tf rfl) (fun hg11 => PureOp.lenLst rfl (.gtmp rfl hg11) vcq_sl_26) rfl rfl (Nat.le_of_ble_eq_true rfl) rfl (Nat.le_of_ble_eq_true rfl) ?_
  refine ARun.gpure (want := false) (.tf rfl) (fun hg12 => PureOp.sub (c := (l.length : Int) - 1) rfl (.gtmp rfl hg12) .int (wrap_id (by omega) (by omega))) rfl rfl (Nat.le_of_ble_eq_true rfl) rfl (Nat.le_of_ble_eq_true rfl) ?_
  refine ARun.gpure (want := false) (.tf rfl) (fun hg13 => PureOp.call rfl (v_within b 0 ((l.length : Int) - 1)) ⟨⟨_, (.gtmp rfl hg13), .int⟩, ⟨_, .int, .int⟩, ⟨_, (.gtmp rfl hg13), .int⟩, trivial⟩ vcq_ca_49 trivial) rfl rfl (Nat.le_of_ble_eq_true rfl) rfl (Nat.le_of_ble_eq_true rfl) ?_
  refine ARun.gpure (want := false) (.tf rfl) (fun hg14 => PureOp.not rfl (.gtmp rfl hg14)) rfl rfl (Nat.le_of_ble_eq_true rfl) rfl (Nat.le_of_ble_eq_true rfl) ?_
  refine ARun.pure (PureOp.pick rfl (.tmp rfl) (fun _ => .bool) (fun hp16 => .gtmp rfl (not_of hp16))) rfl rfl (Nat.le_of_ble_eq_true rfl) ?_
  refine ARun.nil ?_
  refine AW.cond (.tmp rfl) (fun hb17 => ?_) (fun hb17 => ?_)
  · have _u := True.intro
    have _h := hb17
    refine AW.seq ?_
    refine AW.region ?_
    refine ARun.pure (PureOp.assign rfl .bool) rfl rfl (Nat.le_of_ble_eq_true rfl) ?_
    refine ARun.pure (PureOp.assign rfl .bool) rfl rfl (Nat.le_of_ble_eq_true rfl) ?_
    refine ARun.nil ?_
    refine AW.ret (show ResL _ _ [.tmp 8, .tmp 9] _ from res2B rfl rfl ?_)
    rw [cf_no ((cfI hb17).2 rfl)]
    exact ⟨rfl, rfl⟩
  · have _u := True.intro
    have hok := (cfI hb17).1 rfl
    obtain ⟨hg, haa, hbb⟩ := id hok
    obtain ⟨gn1, gn2, glen, _⟩ := goodEvs_get hg
    have hal : a.toNat < l.length := by omega
    have hbl : b.toNat < l.length := by omega
    have hae : ((a.toNat : Nat) : Int) = a := Int.toNat_of_nonneg haa.1
    have hbe : ((b.toNat : Nat) : Int) = b := Int.toNat_of_nonneg hbb.1
    have hni : 0 ≤ (l.getD a.toNat (default : GEvent)).a ∧ (l.getD a.toNat (default : GEvent)).a.toNat < n.toNat := ev_bd hg hal
    have hni2 := hni.2
    have hnd := (Int.toNat_of_nonneg hni.1).symm
    refine AW.skip ?_
    refine AW.seq ?_
    refine AW.region ?_
    refine ARun.pure (PureOp.move rfl (.tmp rfl)) rfl rfl (Nat.le_of_ble_eq_true rfl) ?_
    refine ARun.pure (PureOp.move rfl (.tmp rfl)) rfl rfl (Nat.le_of_ble_eq_true rfl) ?_
    refine ARun.fresh (FreshOp.callS rfl (FnT.toF (v_ClocksI n l hg)) ⟨⟨_, (.tmp rfl), .int⟩, ⟨_, (.tmp rfl), .lst⟩, trivial⟩ vcq_ca_50 rfl) rfl rfl (Nat.le_of_ble_eq_true rfl) ?_
    refine ARun.pure (PureOp.assign rfl (.tmp rfl)) rfl rfl (Nat.le_of_ble_eq_true rfl) ?_
    refine ARun.nil ?_
    refine AW.seq ?_
    refine AW.region ?_
    refine ARun.pure (PureOp.move rfl (.tmp rfl)) rfl rfl (Nat.le_of_ble_eq_true rfl) ?_
    refine ARun.pure (PureOp.move rfl (.tmp rfl)) rfl rfl (Nat.le_of_ble_eq_true rfl) ?_
    refine ARun.pure (PureOp.indexLst (i := a.toNat) rfl (.tmp rfl) vcq_el_26_2 (.tmp rfl) hae.symm hal) rfl rfl (Nat.le_of_ble_eq_true rfl) ?_
    refine ARun.pure (PureOp.fieldRef rfl (.tmp rfl) vcq_fi_64_0_0 (Nat.le_of_ble_eq_true rfl)) rfl rfl (Nat.le_of_ble_eq_true rfl) ?_
    refine ARun.pure (PureOp.loadRef rfl (.tmp rfl) vcq_pl_3 (Nat.le_of_ble_eq_true rfl)) rfl rfl (Nat.le_of_ble_eq_true rfl) ?_
    refine ARun.pure (PureOp.assign rfl (.tmp rfl)) rfl rfl (Nat.le_of_ble_eq_true rfl) ?_
    refine ARun.nil ?_
    refine AW.seq ?_
    refine AW.any (by kernel_rfl) (by kernel_rfl) ?_
    refine AD.pure (PureOp.move rfl (.tmp rfl)) rfl rfl (Nat.le_of_ble_eq_true rfl) ?_
    refine AD.pure (PureOp.move rfl (.tmp rfl)) rfl rfl (Nat.le_of_ble_eq_true rfl) ?_
    refine AD.pure (PureOp.intOp rfl (.tmp rfl) (.tmp rfl) rfl) rfl rfl (Nat.le_of_ble_eq_true rfl) ?_
    refine AD.pure (PureOp.move rfl (.tmp rfl)) rfl rfl (Nat.le_of_ble_eq_true rfl) ?_
    refine AD.gpure (want := true) (.tt rfl) (fun hg18 => PureOp.move rfl (.tmp rfl)) rfl rfl rfl (Nat.le_of_ble_eq_true rfl) ?_
    refine AD.gpure (want := true) (.tt rfl) (fun hg19 => PureOp.move rfl (.tmp rfl)) rfl rfl rfl (Nat.le_of_ble_eq_true rfl) ?_
    refine AD.gpure (want := true) (.tt rfl) (fun hg20 => PureOp.indexLst (i := b.toNat) rfl (.frs (.gtmp rfl hg20)) vcq_el_40_1 (.gtmp rfl hg20) hbe.symm (by rw [ckTo_len]; exact hbl)) rfl rfl rfl (Nat.le_of_ble_eq_true rfl) ?_
    refine AD.gpure (want := true) (.tt rfl) (fun hg21 => PureOp.loadRef rfl (.gtmp rfl hg21) vcq_pl_30 (Nat.le_of_ble_eq_true rfl)) rfl rfl rfl (Nat.le_of_ble_eq_true rfl) ?_
    refine AD.gpure (want := true) (.tt rfl) (fun hg22 => PureOp.move rfl (.tmp rfl)) rfl rfl rfl (Nat.le_of_ble_eq_true rfl) ?_
    refine AD.gpure (want := true) (.tt rfl) (fun hg23 => PureOp.indexLst (i := ((l.getD a.toNat (default : GEvent)).a).toNat) rfl (.gtmp rfl hg23) vcq_el_30_1 (.gtmp rfl hg23) hnd (by show _ < (rowV n.toNat l b.toNat).length; rw [rowV_len hg hbl]; exact hni2)) rfl rfl rfl (Nat.le_of_ble_eq_true rfl) ?_
    refine AD.gpure (want := true) (.tt rfl) (fun hg24 => PureOp.loadRef rfl (.gtmp rfl hg24) vcq_pl_3 (Nat.le_of_ble_eq_true rfl)) rfl rfl rfl (Nat.le_of_ble_eq_true rfl) ?_
    refine AD.gpure (want := true) (.tt rfl) (fun hg25 => PureOp.move rfl (.tmp rfl)) rfl rfl rfl (Nat.le_of_ble_eq_true rfl) ?_
    refine AD.gpure (want := true) (.tt rfl) (fun hg26 => PureOp.move rfl (.tmp rfl)) rfl rfl rfl (Nat.le_of_ble_eq_true rfl) ?_
    refine AD.gpure (want := true) (.tt rfl) (fun hg27 => PureOp.indexLst (i := a.toNat) rfl (.frs (.gtmp rfl hg27)) vcq_el_40_1 (.gtmp rfl hg27) hae.symm (by rw [ckTo_len]; exact hal)) rfl rfl rfl (Nat.le_of_ble_eq_true rfl) ?_
    refine AD.gpure (want := true) (.tt rfl) (fun hg28 => PureOp.loadRef rfl (.gtmp rfl hg28) vcq_pl_30 (Nat.le_of_ble_eq_true rfl)) rfl rfl rfl (Nat.le_of_ble_eq_true rfl) ?_
    refine AD.gpure (want := true) (.tt rfl) (fun hg29 => PureOp.move rfl (.tmp rfl)) rfl rfl rfl (Nat.le_of_ble_eq_true rfl) ?_
    refine AD.gpure (want := true) (.tt rfl) (fun hg30 => PureOp.indexLst (i := ((l.getD a.toNat (default : GEvent)).a).toNat) rfl (.gtmp rfl hg30) vcq_el_30_1 (.gtmp rfl hg30) hnd (by show _ < (rowV n.toNat l a.toNat).length; rw [rowV_len hg hal]; exact hni2)) rfl rfl rfl (Nat.le_of_ble_eq_true rfl) ?_
    refine AD.gpure (want := true) (.tt rfl) (fun hg31 => PureOp.loadRef rfl (.gtmp rfl hg31) vcq_pl_3 (Nat.le_of_ble_eq_true rfl)) rfl rfl rfl (Nat.le_of_ble_eq_true rfl) ?_
    refine AD.gpure (want := true) (.tt rfl) (fun hg32 => PureOp.intOp rfl (.gtmp rfl hg32) (.gtmp rfl hg32) rfl) rfl rfl rfl (Nat.le_of_ble_eq_true rfl) ?_
    refine AD.pure (PureOp.pick rfl (.tmp rfl) (fun hp33 => .gtmp rfl hp33) (fun _ => .bool)) rfl rfl (Nat.le_of_ble_eq_true rfl) ?_
    refine AD.pure (PureOp.assign rfl (.tmp rfl)) rfl rfl (Nat.le_of_ble_eq_true rfl) ?_
    refine AD.pure (PureOp.assign rfl .bool) rfl rfl (Nat.le_of_ble_eq_true rfl) ?_
    refine AD.nil ?_
    refine AW.ret (show ResL _ _ [.tmp 8, .tmp 9] _ from res2B rfl rfl ?_)
    rw [cf_yes hok]
    rw [← cf_end hg haa hbb]
    exact ⟨rfl, rfl⟩
end Go.Proofs.Ytmkhahiefdcinaa

/-
  The laws' own budgets (sz) over the data of this seat.
-/
namespace Go.Proofs.Ytmkhahiefdcinaa
open Go.ChangeShapes Go.WideShapes Go.ChangeAt Go.RowKit Go.BigFrame Go.Deep
set_option linter.unusedVariables false
set_option linter.unusedSimpArgs false
theorem vz_sl_22 : sliceB Try.prog 22 = true := by kernel_rfl
theorem v_szEventS (x : List GEvent) (left : Int) (hl : 0 ≤ left ∧ left ≤ 1048576) : Fn Try.prog 10 [.one (.lst 2 x.length (fun i0 j0 => ([.int .i64 ((x.getD i0 (default : GEvent)).a), .int .i64 ((x.getD i0 (default : GEvent)).b)] : List AV).getD j0 (.con undef))), .one (.int .i64 left)] (.one (.int .i64 (szR left (x.length)))) := by
  obtain ⟨h0, h1⟩ := hl
  refine Fn.of_body (fn := Try.f10) Try.func10 rfl (Nat.le_of_ble_eq_true rfl) trivial ?_
  intro w0
  show AW _ 12 _ _ _ _
  refine AW.bound (t := 0) rfl fun hx => ?_
  refine AW.seq ?_
  refine AW.region ?_
  refine ARun.pure (PureOp.assign rfl .int) rfl rfl (Nat.le_of_ble_eq_true rfl) ?_
  refine ARun.nil ?_
  refine AW.seq ?_
  refine AW.region ?_
  refine ARun.pure (PureOp.move rfl (.tmp rfl)) rfl rfl (Nat.le_of_ble_eq_true rfl) ?_
  refine ARun.pure (PureOp.move rfl (.tmp rfl)) rfl rfl (Nat.le_of_ble_eq_true rfl) ?_
  refine ARun.pure (PureOp.lenLst rfl (.tmp rfl) vz_sl_22) rfl rfl (Nat.le_of_ble_eq_true rfl) ?_
  refine ARun.pure (PureOp.sub (c := left - (x.length : Int)) rfl (.tmp rfl) (.tmp rfl) (wrap_id (by omega) (by omega))) rfl rfl (Nat.le_of_ble_eq_true rfl) ?_
  refine ARun.pure (PureOp.assign rfl (.tmp rfl)) rfl rfl (Nat.le_of_ble_eq_true rfl) ?_
  refine ARun.nil ?_
  refine AW.seq ?_
  refine AW.seq ?_
  refine AW.region ?_
  refine ARun.pure (PureOp.move rfl (.tmp rfl)) rfl rfl (Nat.le_of_ble_eq_true rfl) ?_
  refine ARun.pure (PureOp.intOp rfl (.tmp rfl) .int rfl) rfl rfl (Nat.le_of_ble_eq_true rfl) ?_
  refine ARun.nil ?_
  refine AW.cond (.tmp rfl) (fun hb1 => ?_) (fun hb1 => ?_)
  · have _u := True.intro
    replace hb1 := of_decide_eq_true hb1
    refine AW.seq ?_
    refine AW.region ?_
    refine ARun.pure (PureOp.assign rfl .int) rfl rfl (Nat.le_of_ble_eq_true rfl) ?_
    refine ARun.nil ?_
    refine AW.ret (show ResL _ _ [.tmp 4] _ from resI rfl ?_)
    first | exact szF_big (by omega) | exact szF_ok (by omega)
  · have _u := True.intro
    replace hb1 := of_decide_eq_false hb1
    refine AW.skip ?_
    refine AW.seq ?_
    refine AW.region ?_
    refine ARun.pure (PureOp.move rfl (.tmp rfl)) rfl rfl (Nat.le_of_ble_eq_true rfl) ?_
    refine ARun.pure (PureOp.assign rfl (.tmp rfl)) rfl rfl (Nat.le_of_ble_eq_true rfl) ?_
    refine ARun.nil ?_
    refine AW.ret (show ResL _ _ [.tmp 4] _ from resI rfl ?_)
    first | exact szF_big (by omega) | exact szF_ok (by omega)
end Go.Proofs.Ytmkhahiefdcinaa

/-
  The laws' own comparisons (eq) over the data of this seat.
-/
namespace Go.Proofs.Ytmkhahiefdcinaa
open Go.ChangeShapes Go.WideShapes Go.ChangeAt Go.RowKit Go.BigFrame Go.Deep
set_option linter.unusedVariables false
set_option linter.unusedSimpArgs false
theorem ve_ag_64_2 : aggB Try.prog 64 2 = true := by kernel_rfl
theorem ve_ca_51 : callB Try.prog 51 = true := by kernel_rfl
theorem ve_el_26_2 : elemB Try.prog 26 2 = true := by kernel_rfl
theorem ve_fi_64_0_0 : fieldB Try.prog 64 0 0 = true := by kernel_rfl
theorem ve_fi_64_1_1 : fieldB Try.prog 64 1 1 = true := by kernel_rfl
theorem ve_pl_3 : plainB Try.prog 3 = true := by kernel_rfl
theorem ve_sl_26 : sliceB Try.prog 26 = true := by kernel_rfl
theorem v_eqEvent (x y : GEvent) : Fn Try.prog 51 [.agg [.int .i64 x.a, .int .i64 x.b], .agg [.int .i64 y.a, .int .i64 y.b]] (.one (.bool (decide (x = y)))) := by
  refine Fn.of_body (fn := Try.f51) Try.func51 rfl (Nat.le_of_ble_eq_true rfl) trivial ?_
  intro w0
  show AW _ 15 _ _ _ _
  refine AW.seq ?_
  refine AW.region ?_
  refine ARun.box (id := 0) rfl (.tmp rfl) (SV.cells_of (by exact ⟨trivial, trivial, trivial⟩)) ⟨rfl, (by repeat first | exact trivial | refine ⟨by decide, by first | rfl | exact trivial | (intro i j; first | rfl | exact getD_no rfl | (dsimp only; split <;> first | rfl | exact getD_no rfl) | exact scl_no (by apply_assumption) _), ?_⟩)⟩ rfl rfl rfl (Nat.le_of_ble_eq_true rfl) ?_
  refine ARun.box (id := 1) rfl (.tmp rfl) (SV.cells_of (by exact ⟨trivial, trivial, trivial⟩)) ⟨rfl, (by repeat first | exact trivial | refine ⟨by decide, by first | rfl | exact trivial | (intro i j; first | rfl | exact getD_no rfl | (dsimp only; split <;> first | rfl | exact getD_no rfl) | exact scl_no (by apply_assumption) _), ?_⟩)⟩ rfl rfl rfl (Nat.le_of_ble_eq_true rfl) ?_
  refine ARun.pure (PureOp.assign rfl .bool) rfl rfl (Nat.le_of_ble_eq_true rfl) ?_
  refine ARun.nil ?_
  refine AW.seq ?_
  refine AW.seq ?_
  refine AW.region ?_
  refine ARun.pure (PureOp.fieldPtr rfl (.tmp rfl) ve_fi_64_0_0) rfl rfl (Nat.le_of_ble_eq_true rfl) ?_
  refine ARun.pure (PureOp.loadPtr rfl (.tmp rfl) ve_pl_3 rfl rfl (Nat.le_of_ble_eq_true rfl) (Nat.le_of_ble_eq_true rfl)) rfl rfl (Nat.le_of_ble_eq_true rfl) ?_
  refine ARun.pure (PureOp.fieldPtr rfl (.tmp rfl) ve_fi_64_0_0) rfl rfl (Nat.le_of_ble_eq_true rfl) ?_
  refine ARun.pure (PureOp.loadPtr rfl (.tmp rfl) ve_pl_3 rfl rfl (Nat.le_of_ble_eq_true rfl) (Nat.le_of_ble_eq_true rfl)) rfl rfl (Nat.le_of_ble_eq_true rfl) ?_
  refine ARun.pure (PureOp.intOp rfl (.tmp rfl) (.tmp rfl) rfl) rfl rfl (Nat.le_of_ble_eq_true rfl) ?_
  refine ARun.nil ?_
  refine AW.cond (.tmp rfl) (fun hb1 => ?_) (fun hb1 => ?_)
  · have _u := True.intro
    replace hb1 := of_decide_eq_false (of_not hb1)
    refine AW.seq ?_
    refine AW.region ?_
    refine ARun.pure (PureOp.assign rfl .bool) rfl rfl (Nat.le_of_ble_eq_true rfl) ?_
    refine ARun.nil ?_
    refine AW.ret (show ResL _ _ [.tmp 4] _ from resB rfl ?_)
    exact (decide_eq_false (fun e => hb1 (by rw [e]))).symm
  · have _u := True.intro
    replace hb1 := of_decide_eq_true (not_f hb1)
    refine AW.skip ?_
    refine AW.seq ?_
    refine AW.seq ?_
    refine AW.region ?_
    refine ARun.pure (PureOp.fieldPtr rfl (.tmp rfl) ve_fi_64_1_1) rfl rfl (Nat.le_of_ble_eq_true rfl) ?_
    refine ARun.pure (PureOp.loadPtr rfl (.tmp rfl) ve_pl_3 rfl rfl (Nat.le_of_ble_eq_true rfl) (Nat.le_of_ble_eq_true rfl)) rfl rfl (Nat.le_of_ble_eq_true rfl) ?_
    refine ARun.pure (PureOp.fieldPtr rfl (.tmp rfl) ve_fi_64_1_1) rfl rfl (Nat.le_of_ble_eq_true rfl) ?_
    refine ARun.pure (PureOp.loadPtr rfl (.tmp rfl) ve_pl_3 rfl rfl (Nat.le_of_ble_eq_true rfl) (Nat.le_of_ble_eq_true rfl)) rfl rfl (Nat.le_of_ble_eq_true rfl) ?_
    refine ARun.pure (PureOp.intOp rfl (.tmp rfl) (.tmp rfl) rfl) rfl rfl (Nat.le_of_ble_eq_true rfl) ?_
    refine ARun.nil ?_
    refine AW.cond (.tmp rfl) (fun hb2 => ?_) (fun hb2 => ?_)
    · have _u := True.intro
      replace hb2 := of_decide_eq_false (of_not hb2)
      refine AW.seq ?_
      refine AW.region ?_
      refine ARun.pure (PureOp.assign rfl .bool) rfl rfl (Nat.le_of_ble_eq_true rfl) ?_
      refine ARun.nil ?_
      refine AW.ret (show ResL _ _ [.tmp 4] _ from resB rfl ?_)
      exact (decide_eq_false (fun e => hb2 (by rw [e]))).symm
    · have _u := True.intro
      replace hb2 := of_decide_eq_true (not_f hb2)
      refine AW.skip ?_
      refine AW.seq ?_
      refine AW.region ?_
      refine ARun.pure (PureOp.assign rfl .bool) rfl rfl (Nat.le_of_ble_eq_true rfl) ?_
      refine ARun.nil ?_
      refine AW.ret (show ResL _ _ [.tmp 4] _ from resB rfl ?_)
      exact (decide_eq_true (by cases x; cases y; simp_all)).symm

theorem v_eqEventS (x y : List GEvent) : Fn Try.prog 14 [.one (.lst 2 x.length (fun i0 j0 => ([.int .i64 ((x.getD i0 (default : GEvent)).a), .int .i64 ((x.getD i0 (default : GEvent)).b)] : List AV).getD j0 (.con undef))), .one (.lst 2 y.length (fun i0 j0 => ([.int .i64 ((y.getD i0 (default : GEvent)).a), .int .i64 ((y.getD i0 (default : GEvent)).b)] : List AV).getD j0 (.con undef)))] (.one (.bool (decide (x = y)))) := by
  refine Fn.of_body (fn := Try.f14) Try.func14 rfl (Nat.le_of_ble_eq_true rfl) trivial ?_
  intro w0
  show AW _ 27 _ _ _ _
  refine AW.bound (t := 0) rfl fun hx => ?_
  refine AW.seq ?_
  refine AW.region ?_
  refine ARun.pure (PureOp.assign rfl .bool) rfl rfl (Nat.le_of_ble_eq_true rfl) ?_
  refine ARun.nil ?_
  refine AW.seq ?_
  refine AW.seq ?_
  refine AW.region ?_
  refine ARun.pure (PureOp.move rfl (.tmp rfl)) rfl rfl (Nat.le_of_ble_eq_true rfl) ?_
  refine ARun.pure (PureOp.lenLst rfl (.tmp rfl) ve_sl_26) rfl rfl (Nat.le_of_ble_eq_true rfl) ?_
  refine ARun.pure (PureOp.move rfl (.tmp rfl)) rfl rfl (Nat.le_of_ble_eq_true rfl) ?_
  refine ARun.pure (PureOp.lenLst rfl (.tmp rfl) ve_sl_26) rfl rfl (Nat.le_of_ble_eq_true rfl) ?_
  refine ARun.pure (PureOp.intOp rfl (.tmp rfl) (.tmp rfl) rfl) rfl rfl (Nat.le_of_ble_eq_true rfl) ?_
  refine ARun.nil ?_
  refine AW.cond (.tmp rfl) (fun hb1 => ?_) (fun hb1 => ?_)
  · have _u := True.intro
    replace hb1 := of_decide_eq_false (of_not hb1)
    refine AW.seq ?_
    refine AW.region ?_
    refine ARun.pure (PureOp.assign rfl .bool) rfl rfl (Nat.le_of_ble_eq_true rfl) ?_
    refine ARun.nil ?_
    refine AW.ret (show ResL _ _ [.tmp 4] _ from resB rfl ?_)
    exact (decide_eq_false (fun e => by rw [e] at hb1; omega)).symm
  · have _u := True.intro
    replace hb1 := of_decide_eq_true (not_f hb1)
    refine AW.skip ?_
    refine AW.seq ?_
    refine AW.seq ?_
    refine AW.region ?_
    refine ARun.pure (PureOp.assign rfl .int) rfl rfl (Nat.le_of_ble_eq_true rfl) ?_
    refine ARun.nil ?_
    refine AW.block ?_
    refine AW.loop (ι := Nat) (fun k => ⟨[(0, .one (.lst 2 x.length (fun i0 j0 => ([.int .i64 ((x.getD i0 (default : GEvent)).a), .int .i64 ((x.getD i0 (default : GEvent)).b)] : List AV).getD j0 (.con undef)))), (1, .one (.lst 2 y.length (fun i0 j0 => ([.int .i64 ((y.getD i0 (default : GEvent)).a), .int .i64 ((y.getD i0 (default : GEvent)).b)] : List AV).getD j0 (.con undef)))), (5, .one (.int .i64 (k : Int)))], []⟩) (fun k => k ≤ x.length ∧ x.take k = y.take k) (fun k => x.length - k) 0 ⟨Nat.zero_le _, rfl⟩ ⟨⟨⟨_, rfl, rfl⟩, ⟨_, rfl, rfl⟩, ⟨_, rfl, rfl⟩, trivial⟩, trivial⟩ ?_
    intro k hI
    obtain ⟨hk, hq⟩ := hI
    refine AW.seq ?_
    refine AW.seq ?_
    refine AW.region ?_
    refine ARun.pure (PureOp.move rfl (.tmp rfl)) rfl rfl (Nat.le_of_ble_eq_true rfl) ?_
    refine ARun.pure (PureOp.move rfl (.tmp rfl)) rfl rfl (Nat.le_of_ble_eq_true rfl) ?_
    refine ARun.pure (PureOp.lenLst rfl (.tmp rfl) ve_sl_26) rfl rfl (Nat.le_of_ble_eq_true rfl) ?_
    refine ARun.pure (PureOp.intOp rfl (.tmp rfl) (.tmp rfl) rfl) rfl rfl (Nat.le_of_ble_eq_true rfl) ?_
    refine ARun.nil ?_
    refine AW.cond (.tmp rfl) (fun hb2 => ?_) (fun hb2 => ?_)
    · have _u := True.intro
      replace hb2 := of_decide_eq_true hb2
      have hlt : k < x.length := by omega
      have hlt2 : k < y.length := by omega
      refine AW.skip ?_
      refine AW.seq ?_
      refine AW.block ?_
      refine AW.seq ?_
      refine AW.any (by kernel_rfl) (by kernel_rfl) ?_
      refine AD.pure (PureOp.move rfl (.tmp rfl)) rfl rfl (Nat.le_of_ble_eq_true rfl) ?_
      refine AD.pure (PureOp.move rfl (.tmp rfl)) rfl rfl (Nat.le_of_ble_eq_true rfl) ?_
      refine AD.pure (PureOp.indexLst (i := k) rfl (.tmp rfl) ve_el_26_2 (.tmp rfl) rfl (by omega)) rfl rfl (Nat.le_of_ble_eq_true rfl) ?_
      refine AD.pure (PureOp.loadRefAgg rfl (.tmp rfl) ve_ag_64_2 (Nat.le_of_ble_eq_true rfl)) rfl rfl (Nat.le_of_ble_eq_true rfl) ?_
      refine AD.pure (PureOp.move rfl (.tmp rfl)) rfl rfl (Nat.le_of_ble_eq_true rfl) ?_
      refine AD.pure (PureOp.move rfl (.tmp rfl)) rfl rfl (Nat.le_of_ble_eq_true rfl) ?_
      refine AD.pure (PureOp.indexLst (i := k) rfl (.tmp rfl) ve_el_26_2 (.tmp rfl) rfl (by omega)) rfl rfl (Nat.le_of_ble_eq_true rfl) ?_
      refine AD.pure (PureOp.loadRefAgg rfl (.tmp rfl) ve_ag_64_2 (Nat.le_of_ble_eq_true rfl)) rfl rfl (Nat.le_of_ble_eq_true rfl) ?_
      refine AD.pure (PureOp.call rfl (v_eqEvent (x.getD k (default : GEvent)) (y.getD k (default : GEvent))) ⟨⟨_, (.tmp rfl), ⟨.int, .int, trivial⟩⟩, ⟨_, (.tmp rfl), ⟨.int, .int, trivial⟩⟩, trivial⟩ ve_ca_51 trivial) rfl rfl (Nat.le_of_ble_eq_true rfl) ?_
      refine AD.pure (PureOp.not rfl (.tmp rfl)) rfl rfl (Nat.le_of_ble_eq_true rfl) ?_
      refine AD.nil ?_
      refine AW.cond (.tmp rfl) (fun hb3 => ?_) (fun hb3 => ?_)
      · have _u := True.intro
        replace hb3 := of_decide_eq_false (of_not hb3)
        refine AW.seq ?_
        refine AW.region ?_
        refine ARun.pure (PureOp.assign rfl .bool) rfl rfl (Nat.le_of_ble_eq_true rfl) ?_
        refine ARun.nil ?_
        refine AW.ret (show ResL _ _ [.tmp 4] _ from resB rfl ?_)
        exact (decide_eq_false (fun e => hb3 (by rw [e]))).symm
      · have _u := True.intro
        replace hb3 := of_decide_eq_true (not_f hb3)
        refine AW.skip ?_
        refine AW.region ?_
        refine ARun.pure (PureOp.move rfl (.tmp rfl)) rfl rfl (Nat.le_of_ble_eq_true rfl) ?_
        refine ARun.pure (PureOp.add (c := ((k + 1 : Nat) : Int)) rfl (.tmp rfl) .int (by rw [wrap_id (by omega) (by omega)]; omega)) rfl rfl (Nat.le_of_ble_eq_true rfl) ?_
        refine ARun.pure (PureOp.assign rfl (.tmp rfl)) rfl rfl (Nat.le_of_ble_eq_true rfl) ?_
        refine ARun.nil ?_
        exact ⟨k + 1, ⟨by omega, take_next (default : GEvent) hlt (by omega) hq hb3⟩, by dsimp only; omega, ⟨⟨⟨_, rfl, rfl⟩, ⟨_, rfl, rfl⟩, ⟨_, rfl, rfl⟩, trivial⟩, trivial⟩⟩
    · have _u := True.intro
      replace hb2 := of_decide_eq_false hb2
      have hlt : ¬ k < x.length := by omega
      refine AW.exit ?_
      refine AW.seq ?_
      refine AW.region ?_
      refine ARun.pure (PureOp.assign rfl .bool) rfl rfl (Nat.le_of_ble_eq_true rfl) ?_
      refine ARun.nil ?_
      refine AW.ret (show ResL _ _ [.tmp 4] _ from resB rfl ?_)
      exact (decide_eq_true (eqL_yes hlt (by omega) hq)).symm
end Go.Proofs.Ytmkhahiefdcinaa

/-
  The laws' own copies (to) over the data of this seat.
-/
namespace Go.Proofs.Ytmkhahiefdcinaa
open Go.ChangeShapes Go.WideShapes Go.ChangeAt Go.RowKit Go.BigFrame Go.Deep
set_option linter.unusedVariables false
set_option linter.unusedSimpArgs false
theorem vo_ag_64_2 : aggB Try.prog 64 2 = true := by kernel_rfl
theorem vo_ag_66_2 : aggB Try.prog 66 2 = true := by kernel_rfl
theorem vo_ca_47 : callB Try.prog 47 = true := by kernel_rfl
theorem vo_el_22_2 : elemB Try.prog 22 2 = true := by kernel_rfl
theorem vo_el_26_2 : elemB Try.prog 26 2 = true := by kernel_rfl
theorem vo_fi_64_0_0 : fieldB Try.prog 64 0 0 = true := by kernel_rfl
theorem vo_fi_64_1_1 : fieldB Try.prog 64 1 1 = true := by kernel_rfl
theorem vo_fi_66_0_0 : fieldB Try.prog 66 0 0 = true := by kernel_rfl
theorem vo_fi_66_1_1 : fieldB Try.prog 66 1 1 = true := by kernel_rfl
theorem vo_pl_3 : plainB Try.prog 3 = true := by kernel_rfl
theorem vo_sl_22 : sliceB Try.prog 22 = true := by kernel_rfl
theorem vo_sz_3_1 : sizeB Try.prog 3 1 = true := by kernel_rfl
theorem vo_sz_64_2 : sizeB Try.prog 64 2 = true := by kernel_rfl
theorem v_toEvent (x : GEvent) : FnF Try.prog 47 [.agg [.int .i64 x.a, .int .i64 x.b]] (.agg [.int .i64 x.a, .int .i64 x.b]) := by
  refine FnF.of_body (fn := Try.f47) Try.func47 rfl (Nat.le_of_ble_eq_true rfl)  ?_
  intro w0
  show AW _ 11 _ _ _ _
  refine AW.seq ?_
  refine AW.region ?_
  refine ARun.box (id := 0) rfl (.tmp rfl) (SV.cells_of (by exact ⟨trivial, trivial, trivial⟩)) ⟨rfl, (by repeat first | exact trivial | refine ⟨by decide, by first | rfl | exact trivial | (intro i j; first | rfl | exact getD_no rfl | (dsimp only; split <;> first | rfl | exact getD_no rfl) | exact scl_no (by apply_assumption) _), ?_⟩)⟩ rfl rfl rfl (Nat.le_of_ble_eq_true rfl) ?_
  refine ARun.alloc (id := 1) (l := [.int .i64 0, .int .i64 0]) (z := (.agg #[.int .i64 0, .int .i64 0])) rfl (by kernel_rfl) (fun _ _ _ => ⟨_, _, rfl, rfl, ⟨_, _, rfl, rfl, rfl⟩⟩) ⟨rfl, (by repeat first | exact trivial | refine ⟨by decide, by first | rfl | exact trivial | (intro i j; first | rfl | exact getD_no rfl | (dsimp only; split <;> first | rfl | exact getD_no rfl) | exact scl_no (by apply_assumption) _), ?_⟩)⟩ rfl rfl rfl (Nat.le_of_ble_eq_true rfl) ?_
  refine ARun.nil ?_
  refine AW.seq ?_
  refine AW.region ?_
  refine ARun.alloc (id := 2) (l := [.int .i64 0, .int .i64 0]) (z := (.agg #[.int .i64 0, .int .i64 0])) rfl (by kernel_rfl) (fun _ _ _ => ⟨_, _, rfl, rfl, ⟨_, _, rfl, rfl, rfl⟩⟩) ⟨rfl, (by repeat first | exact trivial | refine ⟨by decide, by first | rfl | exact trivial | (intro i j; first | rfl | exact getD_no rfl | (dsimp only; split <;> first | rfl | exact getD_no rfl) | exact scl_no (by apply_assumption) _), ?_⟩)⟩ rfl rfl rfl (Nat.le_of_ble_eq_true rfl) ?_
  refine ARun.nil ?_
  refine AW.seq ?_
  refine AW.region ?_
  refine ARun.pure (PureOp.fieldPtr rfl (.tmp rfl) vo_fi_66_0_0) rfl rfl (Nat.le_of_ble_eq_true rfl) ?_
  refine ARun.pure (PureOp.loadPtr rfl (.tmp rfl) vo_pl_3 rfl rfl (Nat.le_of_ble_eq_true rfl) (Nat.le_of_ble_eq_true rfl)) rfl rfl (Nat.le_of_ble_eq_true rfl) ?_
  refine ARun.pure (PureOp.fieldPtr rfl (.tmp rfl) vo_fi_64_0_0) rfl rfl (Nat.le_of_ble_eq_true rfl) ?_
  refine ARun.store rfl (.tmp rfl) (.tmp rfl) trivial rfl (Nat.le_of_ble_eq_true rfl) vo_sz_3_1 rfl rfl ?_
  refine ARun.nil ?_
  refine AW.seq ?_
  refine AW.region ?_
  refine ARun.pure (PureOp.fieldPtr rfl (.tmp rfl) vo_fi_66_1_1) rfl rfl (Nat.le_of_ble_eq_true rfl) ?_
  refine ARun.pure (PureOp.loadPtr rfl (.tmp rfl) vo_pl_3 rfl rfl (Nat.le_of_ble_eq_true rfl) (Nat.le_of_ble_eq_true rfl)) rfl rfl (Nat.le_of_ble_eq_true rfl) ?_
  refine ARun.pure (PureOp.fieldPtr rfl (.tmp rfl) vo_fi_64_1_1) rfl rfl (Nat.le_of_ble_eq_true rfl) ?_
  refine ARun.store rfl (.tmp rfl) (.tmp rfl) trivial rfl (Nat.le_of_ble_eq_true rfl) vo_sz_3_1 rfl rfl ?_
  refine ARun.nil ?_
  refine AW.seq ?_
  refine AW.region ?_
  refine ARun.pure (PureOp.loadPtrAgg rfl (.tmp rfl) vo_ag_64_2 rfl rfl (Nat.le_of_ble_eq_true rfl) (Nat.le_of_ble_eq_true rfl)) rfl rfl (Nat.le_of_ble_eq_true rfl) ?_
  refine ARun.store rfl (.tmp rfl) (.tmp rfl) (SV.cells_of (by exact ⟨trivial, trivial, trivial⟩)) rfl (Nat.le_of_ble_eq_true rfl) vo_sz_64_2 rfl rfl ?_
  refine ARun.nil ?_
  exact AW.ret (show ∃ s, ResL _ _ [.cell 2 64] s ∧ FvS _ s _ from ⟨_, .inl ⟨_, rfl, .cells rfl vo_ag_64_2 rfl rfl (Nat.le_of_ble_eq_true rfl) (Nat.le_of_ble_eq_true rfl)⟩, ⟨.int, .int, trivial⟩⟩)

theorem v_toEventS (x : List GEvent) (hw : Small (x.length)) : FnF Try.prog 12 [.one (.lst 2 x.length (fun i0 j0 => ([.int .i64 ((x.getD i0 (default : GEvent)).a), .int .i64 ((x.getD i0 (default : GEvent)).b)] : List AV).getD j0 (.con undef)))] (.one (.lst 2 x.length (fun i0 j0 => ([.int .i64 ((x.getD i0 (default : GEvent)).a), .int .i64 ((x.getD i0 (default : GEvent)).b)] : List AV).getD j0 (.con undef)))) := by
  unfold Small at hw
  have hlen : x.length ≤ 1048576 := by omega
  refine FnF.of_body (fn := Try.f12) Try.func12 rfl (Nat.le_of_ble_eq_true rfl)  ?_
  intro w0
  show AW _ 23 _ _ _ _
  refine AW.seq ?_
  refine AW.region ?_
  refine ARun.pure (PureOp.assign rfl (.nil 1 (fun _ _ => .con undef))) rfl rfl (Nat.le_of_ble_eq_true rfl) ?_
  refine ARun.nil ?_
  refine AW.seq ?_
  refine AW.region ?_
  refine ARun.pure (PureOp.move rfl (.tmp rfl)) rfl rfl (Nat.le_of_ble_eq_true rfl) ?_
  refine ARun.pure (PureOp.lenLst rfl (.tmp rfl) vo_sl_22) rfl rfl (Nat.le_of_ble_eq_true rfl) ?_
  refine ARun.make (id := 0) (n := x.length) (l := [.int .i64 0, .int .i64 0]) (z := (.agg #[.int .i64 0, .int .i64 0])) (by_ := 16) rfl (by kernel_rfl) (fun _ _ _ => ⟨_, _, rfl, rfl, ⟨_, _, rfl, rfl, rfl⟩⟩) (.tmp rfl) (.tmp rfl) rfl rfl (by omega) (by omega) (by decide) ⟨rfl, (by repeat first | exact trivial | refine ⟨by decide, by first | rfl | exact trivial | (intro i j; first | rfl | exact getD_no rfl | (dsimp only; split <;> first | rfl | exact getD_no rfl) | exact scl_no (by apply_assumption) _), ?_⟩)⟩ rfl rfl rfl (Nat.le_of_ble_eq_true rfl) ?_
  refine ARun.pure (PureOp.assign rfl (.tmp rfl)) rfl rfl (Nat.le_of_ble_eq_true rfl) ?_
  refine ARun.nil ?_
  refine AW.seq ?_
  refine AW.seq ?_
  refine AW.region ?_
  refine ARun.pure (PureOp.assign rfl .int) rfl rfl (Nat.le_of_ble_eq_true rfl) ?_
  refine ARun.nil ?_
  refine AW.block ?_
  refine AW.loop (ι := Nat) (fun k => ⟨[(0, .one (.lst 2 x.length (fun i0 j0 => ([.int .i64 ((x.getD i0 (default : GEvent)).a), .int .i64 ((x.getD i0 (default : GEvent)).b)] : List AV).getD j0 (.con undef)))), (3, .one (.own 0 2 x.length)), (4, .one (.int .i64 (k : Int)))], [(0, .arr 2 x.length (fun a b => if a < k then (fun i0 j0 => ([.int .i64 ((x.getD i0 (default : GEvent)).a), .int .i64 ((x.getD i0 (default : GEvent)).b)] : List AV).getD j0 (.con undef)) a b else ([.int .i64 0, .int .i64 0] : List AV).getD b (.con undef)))]⟩) (fun k => k ≤ x.length) (fun k => x.length - k) 0 (Nat.zero_le _) ⟨⟨⟨_, rfl, rfl⟩, ⟨_, rfl, rfl⟩, ⟨_, rfl, rfl⟩, trivial⟩, ⟨⟨_, rfl, rfl, Nat.le_refl _, fun a b _ _ => by simp [AObj.f]⟩, trivial⟩⟩ ?_
  intro k hk
  refine AW.seq ?_
  refine AW.seq ?_
  refine AW.region ?_
  refine ARun.pure (PureOp.move rfl (.tmp rfl)) rfl rfl (Nat.le_of_ble_eq_true rfl) ?_
  refine ARun.pure (PureOp.move rfl (.tmp rfl)) rfl rfl (Nat.le_of_ble_eq_true rfl) ?_
  refine ARun.pure (PureOp.lenLst rfl (.tmp rfl) vo_sl_22) rfl rfl (Nat.le_of_ble_eq_true rfl) ?_
  refine ARun.pure (PureOp.intOp rfl (.tmp rfl) (.tmp rfl) rfl) rfl rfl (Nat.le_of_ble_eq_true rfl) ?_
  refine ARun.nil ?_
  refine AW.cond (.tmp rfl) (fun hb1 => ?_) (fun hb1 => ?_)
  · have _u := True.intro
    replace hb1 := of_decide_eq_true hb1
    have hlt : k < x.length := by omega
    refine AW.skip ?_
    refine AW.seq ?_
    refine AW.block ?_
    refine AW.region ?_
    refine ARun.pure (PureOp.move rfl (.tmp rfl)) rfl rfl (Nat.le_of_ble_eq_true rfl) ?_
    refine ARun.pure (PureOp.move rfl (.tmp rfl)) rfl rfl (Nat.le_of_ble_eq_true rfl) ?_
    refine ARun.pure (PureOp.move rfl (.tmp rfl)) rfl rfl (Nat.le_of_ble_eq_true rfl) ?_
    refine ARun.pure (PureOp.move rfl (.tmp rfl)) rfl rfl (Nat.le_of_ble_eq_true rfl) ?_
    refine ARun.pure (PureOp.indexLst (i := k) rfl (.tmp rfl) vo_el_22_2 (.tmp rfl) rfl (by omega)) rfl rfl (Nat.le_of_ble_eq_true rfl) ?_
    refine ARun.pure (PureOp.loadRefAgg rfl (.tmp rfl) vo_ag_66_2 (Nat.le_of_ble_eq_true rfl)) rfl rfl (Nat.le_of_ble_eq_true rfl) ?_
    refine ARun.fresh (FreshOp.callS rfl (v_toEvent (x.getD k (default : GEvent))) ⟨⟨_, (.tmp rfl), ⟨.int, .int, trivial⟩⟩, trivial⟩ vo_ca_47 rfl) rfl rfl (Nat.le_of_ble_eq_true rfl) ?_
    refine ARun.pure (PureOp.indexOwn (i := k) rfl (.tmp rfl) vo_el_26_2 (.tmp rfl) rfl (by omega)) rfl rfl (Nat.le_of_ble_eq_true rfl) ?_
    refine ARun.storeElem rfl (.tmp rfl) (.tmp rfl) (SV.cells_of (by exact ⟨trivial, trivial, trivial⟩)) rfl (by omega) rfl vo_sz_64_2 rfl rfl ?_
    refine ARun.nil ?_
    refine AW.region ?_
    refine ARun.pure (PureOp.move rfl (.tmp rfl)) rfl rfl (Nat.le_of_ble_eq_true rfl) ?_
    refine ARun.pure (PureOp.add (c := ((k + 1 : Nat) : Int)) rfl (.tmp rfl) .int (by rw [wrap_id (by omega) (by omega)]; omega)) rfl rfl (Nat.le_of_ble_eq_true rfl) ?_
    refine ARun.pure (PureOp.assign rfl (.tmp rfl)) rfl rfl (Nat.le_of_ble_eq_true rfl) ?_
    refine ARun.nil ?_
    exact ⟨k + 1, by omega, by dsimp only; omega, ⟨⟨⟨_, rfl, rfl⟩, ⟨_, rfl, rfl⟩, ⟨_, rfl, rfl⟩, trivial⟩, ⟨⟨_, rfl, rfl, Nat.le_refl _, fun a b _ hb => fill_next (sz := 2) (k := k) (g := fun i0 j0 => ([.int .i64 ((x.getD i0 (default : GEvent)).a), .int .i64 ((x.getD i0 (default : GEvent)).b)] : List AV).getD j0 (.con undef)) (z := fun b => ([.int .i64 0, .int .i64 0] : List AV).getD b (.con undef)) (c := fun b => ([.int .i64 ((x.getD k (default : GEvent)).a), .int .i64 ((x.getD k (default : GEvent)).b)] : List AV).getD b (.con undef)) (fun b hb => match b, hb with | 0, _ => rfl | 1, _ => rfl | _ + 2, h => absurd h (by omega)) a b hb⟩, trivial⟩⟩⟩
  · have _u := True.intro
    replace hb1 := of_decide_eq_false hb1
    have hlt : ¬ k < x.length := by omega
    refine AW.exit ?_
    refine AW.seq ?_
    refine AW.region ?_
    refine ARun.pure (PureOp.move rfl (.tmp rfl)) rfl rfl (Nat.le_of_ble_eq_true rfl) ?_
    refine ARun.pure (PureOp.assign rfl (.tmp rfl)) rfl rfl (Nat.le_of_ble_eq_true rfl) ?_
    refine ARun.nil ?_
    exact AW.ret (show ∃ s, ResL _ _ [.tmp 2] s ∧ FvS _ s _ from ⟨_, .inl ⟨_, rfl, .tmp rfl⟩, (.own rfl rfl (Nat.le_refl _) (fun i j hi hj => Fv.ite (show i < k by omega) (match j, hj with | 0, _ => .int | 1, _ => .int | _ + 2, h => absurd h (by omega))))⟩)
end Go.Proofs.Ytmkhahiefdcinaa

/-
  How a law's statement follows from its walk: the arguments are opened to Lean values ('Opens'), and behind a call that leaves old memory alone each argument reads as before ('law_post').
-/
namespace Go.Proofs.Ytmkhahiefdcinaa
open Go.ChangeShapes Go.WideShapes Go.ChangeAt Go.RowKit Go.Deep
set_option linter.unusedVariables false

theorem own : ownKnob Try.prog.godebug = none := by kernel_rfl
theorem laidOut : laidOutB Try.prog = true := by kernel_rfl

section
variable {H : Type} {enc : TypeId × Value → H} {P : Program}
theorem trodAll_stays {W W' : World} {sp : Nat → Bool} (hl : laidOutB P = true) : ∀ {ts : List TypeId} {vs : List Value} {ds : List (DataW H)} {ps : List MemPlace}, (ts.all fun t => P.readableRec t && decide (t < P.types.size)) = true →
    DataW.TrodAll enc P W 0 (fun _ => true) true ts vs ds ps → (∀ p ∈ ps, W.sameAt W' p) → (∀ p ∈ ps, sp p.block = true) → DataW.TrodAll enc P W' 0 sp true ts vs ds ps := by
  intro ts
  induction ts with
  | nil =>
    intro vs ds ps _ h _ _
    cases vs <;> cases ds <;> first | exact h | exact h.elim
  | cons t ts ih =>
    intro vs ds ps ht h hs hsp
    cases vs with
    | nil => cases ds <;> exact h.elim
    | cons v vs =>
      cases ds with
      | nil => exact h.elim
      | cons d ds =>
        obtain ⟨p, q, h1, h2, rfl⟩ := h
        simp only [List.all_cons, Bool.and_eq_true, decide_eq_true_eq] at ht
        exact ⟨p, q, WideElems.Trod_stays hl ht.1.1 ht.1.2 h1 (fun x hx => hs x (List.mem_append_left _ hx)) (fun x hx => hsp x (List.mem_append_left _ hx)),
          ih ht.2 h2 (fun x hx => hs x (List.mem_append_right _ hx)) (fun x hx => hsp x (List.mem_append_right _ hx)), rfl⟩

/-- The row's last step: the call returned true and left old memory alone. -/
theorem law_post {f : Func} {s : ChangeSpec} {W W' : World} {args : Array Value} {ds gs : List (DataW H)} {before : List MemPlace} {tb : TypeId}
    (hW : DataW.Whole enc P f.params.toList s.vars false W args.toList ds gs before) (hvars : s.vars = []) (hl : laidOutB P = true) (hts : (f.params.toList.all fun t => P.readableRec t && decide (t < P.types.size)) = true)
    (hb : Below W.heap.size W W') (hfn : s.fn H (ds ++ gs) = { results := [.lit (.bool true)], args := ds }) (hrt : f.resultTypes = #[tb]) (hu : P.underlying tb = some .bool) :
    s.post enc P f false true false false W args (.bool true) W' := by
  have hlt : ∀ p ∈ before, p.block < W.heap.size := fun p hp => hW.lt p hp
  have hW' := hW
  obtain ⟨p, q, hA, hV, rfl, hz, hn⟩ := hW
  rw [hvars] at hV
  have hV' := hV
  obtain ⟨rfl, rfl⟩ := trodVars_none hV
  have hargs : ∀ sp : Nat → Bool, (∀ x ∈ p ++ [], sp x.block = true) → DataW.TrodAll enc P W' 0 sp true f.params.toList args.toList (s.fn H (ds ++ [])).args p := fun sp hsp => by
    rw [hfn]
    exact trodAll_stays hl hts hA (fun x hx => hb.same (hlt x (by simpa using hx))) (fun x hx => hsp x (by simpa using hx))
  have hvs : ∀ sp : Nat → Bool, DataW.TrodVars enc P W' sp s.vars (s.fn H (ds ++ [])).vars [] := fun sp => by
    rw [hvars, hfn]
    rfl
  have hres : ∀ (b : Nat) (sp : Nat → Bool) (hd : Bool), DataW.TrodAll enc P W' b sp hd f.resultTypes.toList ((Value.bool true).resultList f.resultTypes.size) (s.fn H (ds ++ [])).results [] := fun b sp hd => by
    rw [hfn, hrt]
    exact trodAll_cons_mk (shut_bool hu _) trodAll_mk0
  have hold : ∀ x ∈ p ++ [], (fun b => decide (b < W.heap.size)) x.block = true := fun x hx => by simpa using hlt x hx
  refine ⟨ds, [], p ++ [], [], p, [], hW', hres _ _ _, hargs _ hold, hvs _, World.keptBut_mono (fun x hx => ⟨hx, ?_⟩) (hb.frame (· ∈ p ++ [])), fun h => by cases h⟩
  exact Or.inr (by simpa using hx)

/-- A value of type t reads as an α. -/
def Opens (P : Program) (t : TypeId) (α : Type) [Rep α] : Prop :=
  ∀ (H : Type) (enc : TypeId × Value → H) (w : World) (fuel : Nat) (cs : List Value) (x : DataW H × List MemPlace), DataW.trod enc P w 0 (fun _ => true) true fuel t cs = some x → ∃ a : α, Rep.rep w (· < w.heap.size) a cs

theorem i64_of_wf {n : Int} (h : (Lit.int .i64 n).wf = true) : I64 n := by
  simpa [Lit.wf, IntKind.min, IntKind.max, IntKind.signed, IntKind.bits, I64] using h
theorem Opens.int {t : TypeId} (ht : P.underlying t = some (.int .i64)) : Opens P t Int := fun _ _ _ _ _ _ h => by
  obtain ⟨n, rfl, _, hw⟩ := DataW.trod_int ht h
  exact ⟨n, rfl, i64_of_wf hw⟩
theorem Opens.bool {t : TypeId} (ht : P.underlying t = some .bool) : Opens P t Bool := fun _ _ _ _ _ _ h => by
  obtain ⟨n, rfl, _⟩ := DataW.trod_bool ht h
  exact ⟨n, rfl, trivial⟩
theorem Opens.string {t : TypeId} (ht : P.underlying t = some .string) : Opens P t ByteArray := fun _ _ _ _ _ _ h => by
  obtain ⟨s, rfl, _, hs⟩ := DataW.trod_string ht h
  exact ⟨s, rfl, hs⟩
theorem list_of_fun {α : Type} (f : Nat → Option α) (len : Nat) (hf : ∀ i, i < len → ∃ y, f i = some y) : ∃ l : List α, l.length = len ∧ ∀ i (h : i < l.length), f i = some l[i] := by
  induction len with
  | zero => exact ⟨[], rfl, fun i h => absurd h (by simp)⟩
  | succ k ih =>
    obtain ⟨l, hl, hl2⟩ := ih (fun i hi => hf i (by omega))
    obtain ⟨y, hy⟩ := hf k (by omega)
    refine ⟨l ++ [y], by simp [hl], fun i h => ?_⟩
    by_cases hik : i < l.length
    · rw [List.getElem_append_left hik]; exact hl2 i hik
    · have : i = l.length := by simp at h; omega
      subst this
      rw [List.getElem_append_right (Nat.le_refl _)]
      simp [hl, hy]
theorem Opens.slice {α : Type} [Rep α] {t e : TypeId} (ht : P.underlying t = some (.slice e)) (hC : P.cellsOf e = Rep.size α) (hp : 0 < Rep.size α) (he : Opens P e α) : Opens P t (List α) := fun H enc w fuel cs x h => by
  rcases open_slice ht h with ⟨rfl, _⟩ | ⟨a, len, cap, m, n, D, Pl, rfl, _, hl, hm, hmm, _, hi⟩
  · exact ⟨[], none, 0, rfl, Nat.le_refl _, by simp [maxLen], fun _ => rfl, fun i hi => absurd hi (by simp)⟩
  · have hlm : len ≤ m := by rw [hmm]; simpa using hl
    have hx : ∀ i, i < len → ∃ (y : α) (xs : List Value), Rep.rep w (· < w.heap.size) y xs ∧ xs.length = Rep.size α ∧ ∀ j, j < Rep.size α → w.cell? (a.add (i * Rep.size α + j)) = xs[j]? := fun i hil => by
      obtain ⟨cs', hc, ht'⟩ := hi i (by omega)
      rw [hC] at hc
      obtain ⟨_, hcl, hat⟩ := World.cells?_some hc
      obtain ⟨y, hy⟩ := he H enc w n cs' _ ht'
      exact ⟨y, cs', hy, hcl, fun j hj => by rw [← hat j hj, add_add]⟩
    have hch : ∃ f : Nat → Option α, ∀ i, i < len → ∃ (y : α) (xs : List Value), f i = some y ∧ Rep.rep w (· < w.heap.size) y xs ∧ xs.length = Rep.size α ∧ ∀ j, j < Rep.size α → w.cell? (a.add (i * Rep.size α + j)) = xs[j]? := by
      classical
      refine ⟨fun i => if hil : i < len then some (hx i hil).choose else none, fun i hil => ⟨(hx i hil).choose, (hx i hil).choose_spec.choose, by simp [hil], (hx i hil).choose_spec.choose_spec⟩⟩
    obtain ⟨f, hf⟩ := hch
    have hlist := list_of_fun f len fun i hil => let ⟨y, _, hy, _⟩ := hf i hil; ⟨y, hy⟩
    obtain ⟨l, hl1, hl2⟩ := hlist
    subst hl1
    refine ⟨l, some a, cap, rfl, hl, hm, (fun e => by cases e), fun i hil => ?_⟩
    obtain ⟨y, xs, hy, hr, hxl, hc⟩ := hf i hil
    rw [hl2 i hil] at hy
    obtain rfl := Option.some.inj hy
    have hspot : a.spot = none := by
      obtain ⟨y, xs, _, _, hxl, hc⟩ := hf 0 (by omega)
      have h0 := hc 0 hp
      rw [List.getElem?_eq_getElem (by omega)] at h0
      simp only [Nat.zero_mul, Nat.add_zero] at h0
      have e : a.add 0 = a := rfl
      rw [e] at h0
      unfold World.cell? at h0
      split at h0
      · split at h0
        · cases h0
        · rename_i hs; simpa using hs
      · cases h0
    obtain ⟨b, off, sp⟩ := a
    obtain rfl : sp = none := hspot
    have h0 := hc 0 hp
    rw [List.getElem?_eq_getElem (by omega), Addr.add_lit] at h0
    refine ⟨b, off, xs, rfl, World.block_lt_of_cell? w _ h0, fun j u hu => ?_, hr⟩
    have hj : j < Rep.size α := by rw [← hxl]; exact (List.getElem?_eq_some_iff.1 hu).1
    rw [← hu, ← hc j hj, Addr.add_lit]

theorem Opens.int2 {t t0 t1 : TypeId} {f0 f1 : Field} (ht : P.underlying t = some (.struct #[f0, f1])) (hone : oneCellFields P #[f0, f1] = true) (hC : P.cellsOf t = 2) (e0 : f0.type = t0) (e1 : f1.type = t1)
    (h0 : P.underlying t0 = some (.int .i64)) (h1 : P.underlying t1 = some (.int .i64)) : Opens P t P2 := fun H enc w fuel cs x h => by
  obtain ⟨y0, y1, n, _, hl, g0, g1⟩ := trod_struct2 ht h
  rw [hC] at hl
  match cs, hl with
  | [c0, c1], _ =>
    obtain ⟨o0, k0⟩ := hone_of hone 0 f0 rfl
    obtain ⟨o1, k1⟩ := hone_of hone 1 f1 rfl
    rw [o0, k0, e0] at g0
    rw [o1, k1, e1] at g1
    obtain ⟨a, ea, wa⟩ := Opens.int h0 H enc w n _ _ g0
    obtain ⟨b, eb, wb⟩ := Opens.int h1 H enc w n _ _ g1
    exact ⟨⟨a, b⟩, by simp [Flat.enc] at ea eb ⊢; exact ⟨ea, eb⟩, wa, wb⟩

theorem Opens.intstr {t t0 t1 : TypeId} {f0 f1 : Field} (ht : P.underlying t = some (.struct #[f0, f1])) (hone : oneCellFields P #[f0, f1] = true) (hC : P.cellsOf t = 2) (e0 : f0.type = t0) (e1 : f1.type = t1)
    (h0 : P.underlying t0 = some (.int .i64)) (h1 : P.underlying t1 = some .string) : Opens P t IS := fun H enc w fuel cs x h => by
  obtain ⟨y0, y1, n, _, hl, g0, g1⟩ := trod_struct2 ht h
  rw [hC] at hl
  match cs, hl with
  | [c0, c1], _ =>
    obtain ⟨o0, k0⟩ := hone_of hone 0 f0 rfl
    obtain ⟨o1, k1⟩ := hone_of hone 1 f1 rfl
    rw [o0, k0, e0] at g0
    rw [o1, k1, e1] at g1
    obtain ⟨a, ea, wa⟩ := Opens.int h0 H enc w n _ _ g0
    obtain ⟨b, eb, wb⟩ := Opens.string h1 H enc w n _ _ g1
    exact ⟨⟨a, b⟩, by simp [Flat.enc] at ea eb ⊢; exact ⟨ea, eb⟩, wa, wb⟩

/-- An argument that is a slice. -/
theorem Opens.arg {α : Type} [Rep α] {t : TypeId} (h : Opens P t (List α)) {W : World} {v : Value} {d : DataW H} {p : List MemPlace} (hv : ∃ a n c, v = .slice a n c) (ht : DataW.Trod enc P W 0 (fun _ => true) true t v d p) :
    ∃ (l : List α) (A : Option Addr) (n c : Nat), v = .slice A n c ∧ RepL W (· < W.heap.size) l A n c := by
  obtain ⟨fuel, hf⟩ := ht
  obtain ⟨a, n, c, rfl⟩ := hv
  obtain ⟨l, hl⟩ := h H enc W fuel _ _ hf
  have hl' := hl
  obtain ⟨A, c', e, h1, h2, h4, h3⟩ := hl'
  simp only [Value.cells, List.cons.injEq, Value.slice.injEq, and_true] at e
  obtain ⟨rfl, rfl, rfl⟩ := e
  exact ⟨l, a, _, c, rfl, rfl, hl⟩
end
end Go.Proofs.Ytmkhahiefdcinaa

/-
  How the arguments of a law are opened to data of the calculus.
-/
namespace Go.Proofs.Ytmkhahiefdcinaa
open Go.ChangeShapes Go.WideShapes Go.ChangeAt Go.RowKit Go.BigFrame Go.Deep
set_option linter.unusedVariables false

set_option linter.unusedSimpArgs false
section
variable {P : Program}
/-- Cells of type t read as an α. -/
def OpensC (P : Program) (t : TypeId) {α : Type} (enc : α → List AV) : Prop :=
  ∀ (H : Type) (eh : TypeId × Value → H) (w : World) (fuel : Nat) (cs : List Value) (x : DataW H × List MemPlace), DataW.trod eh P w 0 (fun _ => true) true fuel t cs = some x → ∃ a : α, DL w (· < w.heap.size) (enc a) cs
theorem OpensC.int {t : TypeId} (ht : P.underlying t = some (.int .i64)) : OpensC P t (fun n : Int => [.int .i64 n]) := fun _ _ _ _ _ _ h => by
  obtain ⟨n, rfl, _, hw⟩ := DataW.trod_int ht h
  exact ⟨n, _, _, rfl, rfl, rfl⟩
theorem OpensC.bool {t : TypeId} (ht : P.underlying t = some .bool) : OpensC P t (fun b : Bool => [.bool b]) := fun _ _ _ _ _ _ h => by
  obtain ⟨n, rfl, _⟩ := DataW.trod_bool ht h
  exact ⟨n, _, _, rfl, rfl, rfl⟩
theorem OpensC.string {t : TypeId} (ht : P.underlying t = some .string) : OpensC P t (fun s : ByteArray => [.str s]) := fun _ _ _ _ _ _ h => by
  obtain ⟨s, rfl, _, hs⟩ := DataW.trod_string ht h
  exact ⟨s, _, _, rfl, ⟨rfl, hs⟩, rfl⟩
theorem DL.len {w : World} {S : Nat → Prop} : ∀ {l : List AV} {us : List Value}, DL w S l us → us.length = l.length
  | [], us, h => by rw [show us = [] from h]; rfl
  | _ :: _, _, ⟨_, _, e, _, h2⟩ => by rw [e]; simp [DL.len h2]
theorem DL.get {w : World} {S : Nat → Prop} : ∀ {l : List AV} {us : List Value}, DL w S l us → ∀ {j : Nat} {x : AV}, l[j]? = some x → ∃ u, us[j]? = some u ∧ D w S x u
  | [], _, _, j, x, hx => by simp at hx
  | y :: l, _, ⟨u, us, e, h1, h2⟩, j, x, hx => by
    subst e
    cases j with
    | zero => simp at hx; subst hx; exact ⟨u, rfl, h1⟩
    | succ j => simp at hx ⊢; exact DL.get h2 hx
theorem DL.append {w : World} {S : Nat → Prop} : ∀ {l m : List AV} {us vs : List Value}, DL w S l us → DL w S m vs → DL w S (l ++ m) (us ++ vs)
  | [], _, us, _, h, k => by rw [show us = [] from h]; exact k
  | _ :: _, _, _, _, ⟨u, us, e, h1, h2⟩, k => ⟨u, _, by rw [e]; rfl, h1, DL.append h2 k⟩
theorem DL.part {w : World} {S : Nat → Prop} {l m : List AV} {cs : List Value} {o s : Nat} (h : DL w S l ((cs.drop o).take s)) (k : DL w S m (cs.drop (o + s))) : DL w S (l ++ m) (cs.drop o) := by
  have := DL.append h k
  rwa [← List.drop_drop, List.take_append_drop] at this
theorem OpensC.slice {α : Type} {t e : TypeId} {sz : Nat} {en : α → List AV} {f : List α → Nat → Nat → AV} (d : α) (ht : P.underlying t = some (.slice e)) (hC : P.cellsOf e = sz) (hp : 0 < sz) (he : OpensC P e en) (hlen : ∀ a, (en a).length = sz)
    (hf : ∀ l i j, i < l.length → j < sz → f l i j = (en (l.getD i d)).getD j (.con undef)) : OpensC P t (fun l : List α => [.lst sz l.length (f l)]) := fun H eh w fuel cs x h => by
  rcases open_slice ht h with ⟨rfl, _⟩ | ⟨a, len, cap, m, n, D, Pl, rfl, _, hl, hm, hmm, _, hi⟩
  · exact ⟨[], _, _, rfl, ⟨none, 0, rfl, Nat.le_refl _, by simp [maxLen], fun _ => rfl, fun i hi => absurd hi (by simp)⟩, rfl⟩
  · have hlm : len ≤ m := by rw [hmm]; simpa using hl
    have hx : ∀ i, i < len → ∃ (y : α) (xs : List Value), DL w (· < w.heap.size) (en y) xs ∧ ∀ j, j < sz → w.cell? (a.add (i * sz + j)) = xs[j]? := fun i hil => by
      obtain ⟨cs', hc, ht'⟩ := hi i (by omega)
      rw [hC] at hc
      obtain ⟨_, hcl, hat⟩ := World.cells?_some hc
      obtain ⟨y, hy⟩ := he H eh w n cs' _ ht'
      exact ⟨y, cs', hy, fun j hj => by rw [← hat j hj, add_add]⟩
    have hch : ∃ g : Nat → Option α, ∀ i, i < len → ∃ (y : α) (xs : List Value), g i = some y ∧ DL w (· < w.heap.size) (en y) xs ∧ ∀ j, j < sz → w.cell? (a.add (i * sz + j)) = xs[j]? := by
      classical
      refine ⟨fun i => if hil : i < len then some (hx i hil).choose else none, fun i hil => ⟨(hx i hil).choose, (hx i hil).choose_spec.choose, by simp [hil], (hx i hil).choose_spec.choose_spec⟩⟩
    obtain ⟨g, hg⟩ := hch
    obtain ⟨l, hl1, hl2⟩ := list_of_fun g len fun i hil => let ⟨y, _, hy, _⟩ := hg i hil; ⟨y, hy⟩
    subst hl1
    have hspot : 0 < l.length → a.spot = none := fun h0l => by
      obtain ⟨y, xs, _, hr, hc⟩ := hg 0 h0l
      have h0 := hc 0 hp
      have hxl : xs.length = sz := by rw [hr.len, hlen]
      rw [List.getElem?_eq_getElem (by omega)] at h0
      simp only [Nat.zero_mul, Nat.add_zero] at h0
      have e : a.add 0 = a := rfl
      rw [e] at h0
      unfold World.cell? at h0
      split at h0
      · split at h0
        · cases h0
        · rename_i hs; simpa using hs
      · cases h0
    refine ⟨l, _, _, rfl, ⟨some a, cap, rfl, hl, hm, (fun e => by cases e), fun i hil => ?_⟩, rfl⟩
    obtain ⟨y, xs, hy, hr, hc⟩ := hg i hil
    have hsp := hspot (by omega)
    obtain ⟨b, off, sp⟩ := a
    obtain rfl : sp = none := hsp
    rw [hl2 i hil] at hy
    obtain rfl := Option.some.inj hy
    have hxl : xs.length = sz := by rw [hr.len, hlen]
    have h0 := hc 0 hp
    rw [List.getElem?_eq_getElem (by omega), Addr.add_lit] at h0
    refine ⟨b, off, rfl, World.block_lt_of_cell? w _ h0, fun j hj => ?_⟩
    have hget : l.getD i d = l[i] := by rw [List.getD_eq_getElem?_getD, List.getElem?_eq_getElem hil]; rfl
    have hjl : j < (en l[i]).length := by rw [hlen]; exact hj
    obtain ⟨u, hu, hd⟩ := hr.get (List.getElem?_eq_getElem hjl)
    refine ⟨u, ?_, ?_⟩
    · have := hc j hj
      rw [Addr.add_lit, hu] at this
      exact this
    · rw [hf l i j hil hj, hget, List.getD_eq_getElem?_getD, List.getElem?_eq_getElem hjl]
      exact hd
/-- An argument. -/
theorem OpensC.arg {H : Type} {eh : TypeId × Value → H} {t : TypeId} {α : Type} {en : α → List AV} (h : OpensC P t en) {W : World} {v : Value} {d : DataW H} {p : List MemPlace} (ht : DataW.Trod eh P W 0 (fun _ => true) true t v d p) : ∃ a, DL W (· < W.heap.size) (en a) v.cells.toList := by
  obtain ⟨fuel, hf⟩ := ht
  exact h H eh W fuel _ _ hf
theorem DS.one_of {w : World} {S : Nat → Prop} {x : AV} {v : Value} (hv : v.cells = #[v]) (h : DL w S [x] v.cells.toList) : DS w S (.one x) v := by
  obtain ⟨u, us, e, h1, h2⟩ := h
  rw [hv] at e
  simp at e
  rw [e.1]; exact h1
theorem DS.agg_of {w : World} {S : Nat → Prop} {l : List AV} {v : Value} (hv : ∃ cs, v = .agg cs) (h : DL w S l v.cells.toList) : DS w S (.agg l) v := by
  obtain ⟨cs, rfl⟩ := hv
  exact ⟨cs, rfl, h⟩
end
end Go.Proofs.Ytmkhahiefdcinaa

namespace Go.Proofs.Ytmkhahiefdcinaa
open Go.ChangeShapes Go.WideShapes Go.ChangeAt Go.RowKit Go.BigFrame Go.Deep
set_option linter.unusedVariables false
set_option linter.unusedSimpArgs false
theorem vrm_bo_4 : boolB Try.prog 4 = true := by kernel_rfl
theorem vrm_ca_10 : callB Try.prog 10 = true := by kernel_rfl
theorem vrm_ca_11 : callB Try.prog 11 = true := by kernel_rfl
theorem vrm_ca_12 : callB Try.prog 12 = true := by kernel_rfl
theorem vrm_ca_13 : callB Try.prog 13 = true := by kernel_rfl
theorem vrm_ca_14 : callB Try.prog 14 = true := by kernel_rfl
theorem opensC_3 : OpensC Try.prog 3 (fun x : Int => [.int .i64 x]) := OpensC.int Try.underlying3
theorem opensC_66 : OpensC Try.prog 66 (fun x : GEvent => [.int .i64 x.a, .int .i64 x.b]) := fun H eh w fuel cs x h => by
  have hS : Try.prog.underlying 66 = some (.struct (Try.prog.fieldsOf 66)) := by kernel_rfl
  obtain ⟨xs, n, _, rfl, hl, hlen, hf⟩ := DataW.trod_struct hS h
  have hsz : (Try.prog.fieldsOf 66).size = 2 := by kernel_rfl
  have hC : Try.prog.cellsOf 66 = 2 := by kernel_rfl
  rw [hC] at hl
  have t0 : ((Try.prog.fieldsOf 66)[0]?).map (fun f => (f.type, f.offset, Try.prog.cellsOf f.type)) = some (3, 0, 1) := by kernel_rfl
  obtain ⟨f0, j0, y0⟩ := Option.map_eq_some_iff.1 t0
  simp only [Prod.mk.injEq] at y0
  have g0 := hf 0 f0 j0
  rw [y0.2.2, y0.2.1, y0.1, List.getElem?_eq_getElem (by omega)] at g0
  obtain ⟨a0, r0⟩ := opensC_3 H eh w n _ _ g0
  have t1 : ((Try.prog.fieldsOf 66)[1]?).map (fun f => (f.type, f.offset, Try.prog.cellsOf f.type)) = some (3, 1, 1) := by kernel_rfl
  obtain ⟨f1, j1, y1⟩ := Option.map_eq_some_iff.1 t1
  simp only [Prod.mk.injEq] at y1
  have g1 := hf 1 f1 j1
  rw [y1.2.2, y1.2.1, y1.1, List.getElem?_eq_getElem (by omega)] at g1
  obtain ⟨a1, r1⟩ := opensC_3 H eh w n _ _ g1
  have e2 : DL w (· < w.heap.size) [] (cs.drop 2) := List.drop_of_length_le (by omega)
  have e1 := DL.part (o := 1) (s := 1) r1 e2
  have e0 := DL.part (o := 0) (s := 1) r0 e1
  exact ⟨⟨a0, a1⟩, e0⟩
theorem opensC_22 : OpensC Try.prog 22 (fun x : List GEvent => [.lst 2 x.length (fun i0 j0 => ([.int .i64 ((x.getD i0 (default : GEvent)).a), .int .i64 ((x.getD i0 (default : GEvent)).b)] : List AV).getD j0 (.con undef))]) := OpensC.slice (default : GEvent) Try.underlying22 (by kernel_rfl) (by decide) opensC_66 (fun _ => rfl) (fun l i j _ hj => match j, hj with | 0, _ => rfl | 1, _ => rfl | _ + 2, h => absurd h (by omega))

theorem law_CameFirst (x0 : Int) (hx0 : I64 x0) (x1 : List GEvent) (x2 : Int) (hx2 : I64 x2) (x3 : Int) (hx3 : I64 x3) : Fn Try.prog 3 [.one (.int .i64 x0), .one (.lst 2 x1.length (fun i0 j0 => ([.int .i64 ((x1.getD i0 (default : GEvent)).a), .int .i64 ((x1.getD i0 (default : GEvent)).b)] : List AV).getD j0 (.con undef))), .one (.int .i64 x2), .one (.int .i64 x3)] (.one (.bool true)) := by
  have hx0' : -9223372036854775808 ≤ x0 ∧ x0 ≤ 9223372036854775807 := hx0
  have hx2' : -9223372036854775808 ≤ x2 ∧ x2 ≤ 9223372036854775807 := hx2
  have hx3' : -9223372036854775808 ≤ x3 ∧ x3 ≤ 9223372036854775807 := hx3
  refine Fn.of_body (fn := Try.f3) Try.func3 rfl (Nat.le_of_ble_eq_true rfl) trivial ?_
  intro w0
  show AW _ 52 _ _ _ _
  refine AW.seq ?_
  refine AW.region ?_
  refine ARun.pure (PureOp.assign rfl .bool) rfl rfl (Nat.le_of_ble_eq_true rfl) ?_
  refine ARun.nil ?_
  refine AW.seq ?_
  refine AW.region ?_
  refine ARun.pure (PureOp.assign rfl .int) rfl rfl (Nat.le_of_ble_eq_true rfl) ?_
  refine ARun.nil ?_
  refine AW.seq ?_
  refine AW.region ?_
  refine ARun.pure (PureOp.move rfl (.tmp rfl)) rfl rfl (Nat.le_of_ble_eq_true rfl) ?_
  refine ARun.pure (PureOp.move rfl (.tmp rfl)) rfl rfl (Nat.le_of_ble_eq_true rfl) ?_
  refine ARun.pure (PureOp.call rfl (v_szEventS x1 1048576 (by first | omega | (unfold szR at *; split at * <;> omega))) ⟨⟨_, (.tmp rfl), .lst⟩, ⟨_, (.tmp rfl), .int⟩, trivial⟩ vrm_ca_10 trivial) rfl rfl (Nat.le_of_ble_eq_true rfl) ?_
  refine ARun.pure (PureOp.assign rfl (.tmp rfl)) rfl rfl (Nat.le_of_ble_eq_true rfl) ?_
  refine ARun.nil ?_
  refine AW.seq ?_
  refine AW.seq ?_
  refine AW.region ?_
  refine ARun.pure (PureOp.move rfl (.tmp rfl)) rfl rfl (Nat.le_of_ble_eq_true rfl) ?_
  refine ARun.pure (PureOp.intOp rfl (.tmp rfl) .int rfl) rfl rfl (Nat.le_of_ble_eq_true rfl) ?_
  refine ARun.nil ?_
  refine AW.cond (.tmp rfl) (fun hb1 => ?_) (fun hb1 => ?_)
  · have _u := True.intro
    replace hb1 := of_decide_eq_true hb1
    refine AW.seq ?_
    refine AW.region ?_
    refine ARun.pure (PureOp.assign rfl .bool) rfl rfl (Nat.le_of_ble_eq_true rfl) ?_
    refine ARun.nil ?_
    refine AW.ret (show ResL _ _ [.tmp 8] _ from resB rfl ?_)
    rfl
  · have _u := True.intro
    replace hb1 := of_decide_eq_false hb1
    obtain ⟨hs2, hs2b, hs2c⟩ := szR_ok (by omega) hb1
    refine AW.skip ?_
    refine AW.seq ?_
    refine AW.region ?_
    refine ARun.pure (PureOp.move rfl (.tmp rfl)) rfl rfl (Nat.le_of_ble_eq_true rfl) ?_
    refine ARun.pure (PureOp.move rfl (.tmp rfl)) rfl rfl (Nat.le_of_ble_eq_true rfl) ?_
    refine ARun.fresh (FreshOp.callS rfl (v_toEventS x1 (Small.mk (by omega))) ⟨⟨_, (.tmp rfl), .lst⟩, trivial⟩ vrm_ca_12 rfl) rfl rfl (Nat.le_of_ble_eq_true rfl) ?_
    refine ARun.pure (PureOp.move rfl (.tmp rfl)) rfl rfl (Nat.le_of_ble_eq_true rfl) ?_
    refine ARun.pure (PureOp.move rfl (.tmp rfl)) rfl rfl (Nat.le_of_ble_eq_true rfl) ?_
    refine ARun.pure (PureOp.call rfl (v_sCame x0 x1 x2 x3 ⟨by omega, by omega⟩ ⟨by omega, by omega⟩ ⟨by omega, by omega⟩) ⟨⟨_, (.tmp rfl), .int⟩, ⟨_, (.tmp rfl), .frs⟩, ⟨_, (.tmp rfl), .int⟩, ⟨_, (.tmp rfl), .int⟩, trivial⟩ vrm_ca_11 ⟨trivial, trivial⟩) rfl rfl (Nat.le_of_ble_eq_true rfl) ?_
    refine ARun.pure (PureOp.move rfl (.tmp rfl)) rfl rfl (Nat.le_of_ble_eq_true rfl) ?_
    refine ARun.pure (PureOp.ext2a rfl (.tmp rfl)) rfl rfl (Nat.le_of_ble_eq_true rfl) ?_
    refine ARun.pure (PureOp.ext2b rfl (.tmp rfl)) rfl rfl (Nat.le_of_ble_eq_true rfl) ?_
    refine ARun.pure (PureOp.assign rfl (.tmp rfl)) rfl rfl (Nat.le_of_ble_eq_true rfl) ?_
    refine ARun.pure (PureOp.assign rfl (.tmp rfl)) rfl rfl (Nat.le_of_ble_eq_true rfl) ?_
    refine ARun.nil ?_
    refine AW.seq ?_
    refine AW.region ?_
    refine ARun.pure (PureOp.move rfl (.tmp rfl)) rfl rfl (Nat.le_of_ble_eq_true rfl) ?_
    refine ARun.fresh (FreshOp.callS rfl (v_toEventS x1 (Small.mk (by omega))) ⟨⟨_, (.tmp rfl), .lst⟩, trivial⟩ vrm_ca_12 rfl) rfl rfl (Nat.le_of_ble_eq_true rfl) ?_
    refine ARun.pure (PureOp.assign rfl (.tmp rfl)) rfl rfl (Nat.le_of_ble_eq_true rfl) ?_
    refine ARun.nil ?_
    refine AW.seq ?_
    refine AW.region ?_
    refine ARun.pure (PureOp.move rfl (.tmp rfl)) rfl rfl (Nat.le_of_ble_eq_true rfl) ?_
    refine ARun.pure (PureOp.move rfl (.tmp rfl)) rfl rfl (Nat.le_of_ble_eq_true rfl) ?_
    refine ARun.pure (PureOp.move rfl (.tmp rfl)) rfl rfl (Nat.le_of_ble_eq_true rfl) ?_
    refine ARun.pure (PureOp.move rfl (.tmp rfl)) rfl rfl (Nat.le_of_ble_eq_true rfl) ?_
    refine ARun.pure (PureOp.call rfl (v_iCame x0 x1 x2 x3 ⟨by omega, by omega⟩ ⟨by omega, by omega⟩ ⟨by omega, by omega⟩) ⟨⟨_, (.tmp rfl), .int⟩, ⟨_, (.tmp rfl), .frs⟩, ⟨_, (.tmp rfl), .int⟩, ⟨_, (.tmp rfl), .int⟩, trivial⟩ vrm_ca_13 ⟨trivial, trivial⟩) rfl rfl (Nat.le_of_ble_eq_true rfl) ?_
    refine ARun.pure (PureOp.move rfl (.tmp rfl)) rfl rfl (Nat.le_of_ble_eq_true rfl) ?_
    refine ARun.pure (PureOp.ext2a rfl (.tmp rfl)) rfl rfl (Nat.le_of_ble_eq_true rfl) ?_
    refine ARun.pure (PureOp.ext2b rfl (.tmp rfl)) rfl rfl (Nat.le_of_ble_eq_true rfl) ?_
    refine ARun.pure (PureOp.assign rfl (.tmp rfl)) rfl rfl (Nat.le_of_ble_eq_true rfl) ?_
    refine ARun.pure (PureOp.assign rfl (.tmp rfl)) rfl rfl (Nat.le_of_ble_eq_true rfl) ?_
    refine ARun.nil ?_
    refine AW.seq ?_
    refine AW.seq ?_
    refine AW.region ?_
    refine ARun.pure (PureOp.move rfl (.tmp rfl)) rfl rfl (Nat.le_of_ble_eq_true rfl) ?_
    refine ARun.pure (PureOp.move rfl (.tmp rfl)) rfl rfl (Nat.le_of_ble_eq_true rfl) ?_
    refine ARun.pure (PureOp.boolNe rfl (.tmp rfl) (.tmp rfl) vrm_bo_4) rfl rfl (Nat.le_of_ble_eq_true rfl) ?_
    refine ARun.pure (PureOp.move rfl (.tmp rfl)) rfl rfl (Nat.le_of_ble_eq_true rfl) ?_
    refine ARun.gpure (want := false) (.tf rfl) (fun hg3 => PureOp.move rfl (.tmp rfl)) rfl rfl (Nat.le_of_ble_eq_true rfl) rfl (Nat.le_of_ble_eq_true rfl) ?_
    refine ARun.gpure (want := false) (.tf rfl) (fun hg4 => PureOp.move rfl (.tmp rfl)) rfl rfl (Nat.le_of_ble_eq_true rfl) rfl (Nat.le_of_ble_eq_true rfl) ?_
    refine ARun.gpure (want := false) (.tf rfl) (fun hg5 => PureOp.boolNe rfl (.gtmp rfl hg5) (.gtmp rfl hg5) vrm_bo_4) rfl rfl (Nat.le_of_ble_eq_true rfl) rfl (Nat.le_of_ble_eq_true rfl) ?_
    refine ARun.pure (PureOp.pick rfl (.tmp rfl) (fun _ => .bool) (fun hp7 => .gtmp rfl (not_of hp7))) rfl rfl (Nat.le_of_ble_eq_true rfl) ?_
    refine ARun.nil ?_
    refine AW.cond (.tmp rfl) (fun hb8 => ?_) (fun hb8 => ?_)
    · have _u := True.intro
      exact absurd (show (cond (!(((cfV x0 x1 x2 x3).1) == ((cfV x0 x1 x2 x3).1))) true (!(((cfV x0 x1 x2 x3).2) == ((cfV x0 x1 x2 x3).2)))) = false by simp) (by rw [hb8]; simp)
      --end
    · have _u := True.intro
      refine AW.skip ?_
      refine AW.seq ?_
      refine AW.seq ?_
      refine AW.region ?_
      refine ARun.pure (PureOp.move rfl (.tmp rfl)) rfl rfl (Nat.le_of_ble_eq_true rfl) ?_
      refine ARun.pure (PureOp.move rfl (.tmp rfl)) rfl rfl (Nat.le_of_ble_eq_true rfl) ?_
      refine ARun.fresh (FreshOp.callS rfl (v_toEventS x1 (Small.mk (by omega))) ⟨⟨_, (.tmp rfl), .lst⟩, trivial⟩ vrm_ca_12 rfl) rfl rfl (Nat.le_of_ble_eq_true rfl) ?_
      refine ARun.pure (PureOp.call rfl (v_eqEventS x1 x1) ⟨⟨_, (.tmp rfl), .frs⟩, ⟨_, (.tmp rfl), .frs⟩, trivial⟩ vrm_ca_14 trivial) rfl rfl (Nat.le_of_ble_eq_true rfl) ?_
      refine ARun.pure (PureOp.not rfl (.tmp rfl)) rfl rfl (Nat.le_of_ble_eq_true rfl) ?_
      refine ARun.nil ?_
      refine AW.cond (.tmp rfl) (fun hb9 => ?_) (fun hb9 => ?_)
      · have _u := True.intro
        replace hb9 := of_decide_eq_false (of_not hb9)
        exact absurd rfl hb9
        --end
      · have _u := True.intro
        replace hb9 := of_decide_eq_true (not_f hb9)
        refine AW.skip ?_
        refine AW.seq ?_
        refine AW.region ?_
        refine ARun.pure (PureOp.assign rfl .bool) rfl rfl (Nat.le_of_ble_eq_true rfl) ?_
        refine ARun.nil ?_
        refine AW.ret (show ResL _ _ [.tmp 8] _ from resB rfl ?_)
        rfl

set_option maxRecDepth 100000 in
theorem lifted_CameFirst (os : Os) (started : os.Started) (H : Type) (enc : TypeId × Value → H) :
    ReturnsInHanded {} Try.checked os 3 .any (Rows.fnExactCameFirstSpec.pre6 enc Try.prog Try.f3 Rows.fnExactCameFirstRow.domain false) (Rows.fnExactCameFirstSpec.post enc Try.prog Try.f3 false true false false) := by
  refine returnsInHanded_of_change (C := Try.checked) own started (by kernel_rfl) Try.func3
    (ChangeSpec.witness6 (enc := enc) (C := Try.checked) false ⟨#[], #[.int .i64 0, .slice none 0 0, .int .i64 0, .int .i64 0], []⟩ 8 (by kernel_rfl) (by kernel_rfl) (by kernel_rfl) (by kernel_rfl)) ?_
  intro W base args ds gs before hval0 hW hcnd _
  have hval : ∀ (j : Nat) t v, Try.f3.params[j]? = some t → args[j]? = some v → Value.okWide Try.prog W .any base t v := hval0
  have hW' := hW
  obtain ⟨p, q, hA0, hV, rfl, hfz, hnd⟩ := hW
  have hA : DataW.TrodAll enc Try.prog W 0 (fun _ => true) true Try.f3.params.toList args.toList ds p := hA0
  rw [Try.params3] at hA hval
  obtain ⟨v0, vs0, d0, ds0, p0, q0, hargs, rfl, rfl, h0, r0⟩ := trodAll_cons hA
  obtain ⟨v1, vs1, d1, ds1, p1, q1, rfl, rfl, rfl, h1, r1⟩ := trodAll_cons r0
  obtain ⟨v2, vs2, d2, ds2, p2, q2, rfl, rfl, rfl, h2, r2⟩ := trodAll_cons r1
  obtain ⟨v3, vs3, d3, ds3, p3, q3, rfl, rfl, rfl, h3, r3⟩ := trodAll_cons r2
  obtain ⟨rfl, rfl, rfl⟩ := trodAll_nil r3
  obtain rfl : args = #[v0, v1, v2, v3] := by cases args; simp_all
  obtain ⟨rfl, rfl⟩ := trodVars_none hV
  obtain ⟨x0, rfl, rfl, rfl, w0⟩ := open_int Try.underlying3 (hval 0 3 v0 rfl rfl) h0
  have E0 : DS W (· < W.heap.size) (.one (.int .i64 x0)) _ := rfl
  obtain ⟨x1, R1⟩ := OpensC.arg opensC_22 h1
  have E1 : DS W (· < W.heap.size) (.one (.lst 2 x1.length (fun i0 j0 => ([.int .i64 ((x1.getD i0 (default : GEvent)).a), .int .i64 ((x1.getD i0 (default : GEvent)).b)] : List AV).getD j0 (.con undef)))) v1 := DS.one_of (by obtain ⟨a, n, c, rfl⟩ := okWide_slice Try.underlying22 (hval 1 22 v1 rfl rfl); rfl) R1
  obtain ⟨x2, rfl, rfl, rfl, w2⟩ := open_int Try.underlying3 (hval 2 3 v2 rfl rfl) h2
  have E2 : DS W (· < W.heap.size) (.one (.int .i64 x2)) _ := rfl
  obtain ⟨x3, rfl, rfl, rfl, w3⟩ := open_int Try.underlying3 (hval 3 3 v3 rfl rfl) h3
  have E3 : DS W (· < W.heap.size) (.one (.int .i64 x3)) _ := rfl
  clear hA0 hval0
  refine (law_CameFirst x0 (i64_of_wf w0) x1 x2 (i64_of_wf w2) x3 (i64_of_wf w3) W (· < W.heap.size) _ ⟨fun _ h => h, trivial⟩ ⟨_, _, rfl, E0, ⟨_, _, rfl, E1, ⟨_, _, rfl, E2, ⟨_, _, rfl, E3, rfl⟩⟩⟩⟩).mono fun e W' ⟨he, hg⟩ => ?_
  subst he
  exact ⟨_, rfl, law_post hW' rfl laidOut (by kernel_rfl) hg rfl rfl Try.underlying4⟩
/-- The statement. -/
theorem proved_CameFirst : Rows.FnExactCameFirstSaid :=
  OpenClaim.holds_of_wide 3 Try.f3 rfl rfl rfl rfl rfl rfl rfl ⟨rfl, rfl, rfl, rfl, rfl⟩ rfl rfl rfl rfl rfl (by kernel_rfl) Try.func3 (by kernel_rfl)
    (of_decide_eq_true (by kernel_rfl)) (by unfold Func.isWrapper; first | (rw [if_pos (by decide +kernel)]; kernel_rfl) | (rw [if_neg (by decide +kernel)]; exact ⟨rfl, rfl⟩))
    (fun os started H enc _ => lifted_CameFirst os started H enc)
#print axioms proved_CameFirst
end Go.Proofs.Ytmkhahiefdcinaa
