/-
  Part 4 of the proof: the texts of a seat's own library, joined.
-/
import Derived.Deep.Fields
import Derived.Laws.BitsLemmas
import Derived.Test.YtmkhahiefdcinaaZd1
import Derived.Test.YtmkhahiefdcinaaZd3
/-
  The plain law of cuts: the vector clock of an event counts what came first for it, node by node.
-/
namespace Go.Proofs.Ytmkhahiefdcinaa
open Go.ChangeShapes Go.WideShapes Go.ChangeAt Go.RowKit Go.BigFrame Go.Deep
set_option linter.unusedVariables false

set_option linter.unusedSimpArgs false
def rowV (N : Nat) (l : List P2) (k : Nat) : List Int := (ckTo N l l.length).getD k []
/-- What event p has at node j, none for no event. -/
def clk (N : Nat) (l : List P2) (p : Int) (j : Nat) : Int := if 0 ≤ p then (rowV N l p.toNat).getD j 0 else 0
theorem ckTo_get {N : Nat} {l : List P2} {j m : Nat} (hj : j < m) (hm : m ≤ l.length) : (ckTo N l m).getD j [] = ckV N l j (ckTo N l j) (ev l j) := by
  have h1 : (ckTo N l m).getD j [] = ((ckTo N l m).take (j + 1)).getD j [] := by
    rw [List.getD_eq_getElem?_getD, List.getD_eq_getElem?_getD, List.getElem?_take, if_pos (by omega)]
  rw [h1, ckTo_take N l (show j + 1 ≤ m by omega), ckTo_succ (ev_some (show j < l.length by omega))]
  rw [List.getD_eq_getElem?_getD, List.getElem?_append_right (by rw [ckTo_len]; omega), ckTo_len]
  simp
theorem rowV_is {N : Nat} {l : List P2} {k : Nat} (hk : k < l.length) : ckIs N (l.length : Int) (rowV N l k) := by
  refine ckTo_is N l l.length _ ?_
  unfold rowV
  rw [List.getD_eq_getElem?_getD, List.getElem?_eq_getElem (by rw [ckTo_len]; exact hk)]
  exact List.getElem_mem _
theorem rowAt_clk {N : Nat} {l : List P2} {k : Nat} (hk : k < l.length) {p : Int} (hp : p < k) (j : Nat) (hj : j < N) : (rowAt N (ckTo N l k) p).getD j 0 = clk N l p j := by
  unfold clk
  by_cases h0 : 0 ≤ p
  · rw [if_pos h0]
    unfold rowAt
    rw [if_pos h0]
    have e1 : (ckTo N l k).getD p.toNat (zs N) = (ckTo N l k).getD p.toNat [] := by
      rw [List.getD_eq_getElem?_getD, List.getD_eq_getElem?_getD, List.getElem?_eq_getElem (by rw [ckTo_len]; omega)]; rfl
    rw [e1, ckTo_get (by omega) (by omega)]
    unfold rowV
    rw [ckTo_get (by omega) (Nat.le_refl _)]
  · rw [if_neg h0, rowAt_neg _ h0]
    simp [zs, List.getD_eq_getElem?_getD, List.getElem?_replicate, hj]
theorem rowAt_len {N : Nat} {l : List P2} {k : Nat} (p : Int) : (rowAt N (ckTo N l k) p).length = N := (rowAt_is (by omega) (ckTo_is N l k) p).1
theorem mostL_get {N : Nat} {a b : List Int} (ha : a.length = N) (hb : b.length = N) {j : Nat} (hj : j < N) : (mostL a b).getD j 0 = max (a.getD j 0) (b.getD j 0) := by
  unfold mostL
  rw [List.getD_eq_getElem?_getD, List.getD_eq_getElem?_getD, List.getD_eq_getElem?_getD, List.getElem?_zipWith, List.getElem?_eq_getElem (by omega), List.getElem?_eq_getElem (by omega)]
  rfl
theorem clk_nonneg {N : Nat} {l : List P2} {p : Int} (hp : p < l.length) (j : Nat) : 0 ≤ clk N l p j := by
  unfold clk
  by_cases h0 : 0 ≤ p
  · rw [if_pos h0, List.getD_eq_getElem?_getD]
    cases hx : (rowV N l p.toNat)[j]? with
    | none => exact Int.le_refl _
    | some x => exact ((rowV_is (N := N) (l := l) (k := p.toNat) (by omega)).2 x (List.mem_of_getElem? hx)).1
  · rw [if_neg h0]; exact Int.le_refl _
/-- The clock of an event, out of those of the two ahead. -/
theorem clk_eq {N : Nat} {l : List P2} (he : Evs l) {k : Nat} (hk : k < l.length) (hn : 0 ≤ (ev l k).a) {j : Nat} (hj : j < N) : clk N l k j = max (clk N l (pr0 l k) j) (clk N l (pr1 l k) j) + if (ev l k).a = j then 1 else 0 := by
  have h0 := he.lt0 k hk
  have h1 := he.lt1 k hk
  have e1 : clk N l k j = (ckV N l k (ckTo N l k) (ev l k)).getD j 0 := by
    unfold clk
    rw [if_pos (by omega), Int.toNat_natCast]
    unfold rowV
    rw [ckTo_get hk (Nat.le_refl _)]
  have eB : (ckB N l k (ckTo N l k) (ev l k)).getD j 0 = max (clk N l (pr0 l k) j) (clk N l (pr1 l k) j) := by
    unfold ckB
    by_cases hb : 0 ≤ (ev l k).b
    · rw [if_pos hb, mostL_get (rowAt_len _) (rowAt_len _) hj]
      show max ((rowAt N (ckTo N l k) (pr0 l k)).getD j 0) ((rowAt N (ckTo N l k) (pr1 l k)).getD j 0) = _
      rw [rowAt_clk hk h0 j hj, rowAt_clk hk h1 j hj]
    · rw [if_neg hb]
      show (rowAt N (ckTo N l k) (pr0 l k)).getD j 0 = _
      rw [rowAt_clk hk h0 j hj]
      have : clk N l (pr1 l k) j = 0 := if_neg hb
      rw [this]
      have := clk_nonneg (N := N) (l := l) (p := pr0 l k) (by omega) j
      omega
  have hlen : (ckB N l k (ckTo N l k) (ev l k)).length = N := (ckB_is (l := l) (k := k) (e := ev l k) (by omega) (ckTo_is N l k)).1
  rw [e1]
  unfold ckV incAt
  rw [List.getD_eq_getElem?_getD, List.getElem?_set]
  by_cases hj2 : (ev l k).a = j
  · rw [hj2, Int.toNat_natCast, if_pos rfl, if_pos (by omega), if_pos rfl, ← eB]; rfl
  · rw [if_neg (by omega), if_neg hj2, Int.add_zero, ← eB, List.getD_eq_getElem?_getD]
/-! The number of an event among those of its node. -/
theorem cnt_mono {l : List P2} {a b : Nat} (h : a ≤ b) (hb : b ≤ l.length) (x : Int) : cnt l a x ≤ cnt l b x := by
  induction b with
  | zero => obtain rfl : a = 0 := by omega
            exact Nat.le_refl _
  | succ b ih =>
    by_cases e : a = b + 1
    · rw [e]; exact Nat.le_refl _
    · have := ih (by omega) (by omega)
      rw [cnt_succ (ev_some (show b < l.length by omega))]
      omega
theorem prior_cnt {l : List P2} {x : Int} : ∀ {k : Nat}, k ≤ l.length → (lastAt l k x < 0 → cnt l k x = 0) ∧ (0 ≤ lastAt l k x → (ev l (lastAt l k x).toNat).a = x ∧ cnt l k x = cnt l ((lastAt l k x).toNat + 1) x)
  | 0, _ => ⟨fun _ => cnt_zero l x, fun h => absurd h (by show ¬ (0 : Int) ≤ -1; decide)⟩
  | k + 1, hk => by
    obtain ⟨h1, h2⟩ := prior_cnt (l := l) (x := x) (k := k) (by omega)
    have he := ev_some (show k < l.length by omega)
    by_cases hx : (ev l k).a = x
    · rw [lastAt_hit he hx]
      exact ⟨fun h => by omega, fun _ => ⟨by simpa using hx, by simp⟩⟩
    · rw [lastAt_miss he hx, cnt_succ he, if_neg hx, Nat.add_zero]
      exact ⟨h1, h2⟩
theorem atV_ev {l : List P2} {k : Nat} (hk : k < l.length) : atV l k = (cnt l k (ev l k).a : Int) + 1 := atV_eq (ev_some hk)
theorem atV_suc {l : List P2} {k : Nat} (hk : k < l.length) : atV l k = (cnt l (k + 1) (ev l k).a : Int) := by
  rw [atV_ev hk, cnt_succ (ev_some hk), if_pos rfl]; simp
/-- What the clock of an event says: of each node the last event that came first. -/
theorem clk_law {N : Nat} {l : List P2} (he : Evs l) (hn : ∀ k, k < l.length → 0 ≤ (ev l k).a ∧ (ev l k).a < N) : ∀ (k : Nat), k < l.length → (∀ a, An l a k → atV l a ≤ clk N l k (ev l a).a.toNat) ∧ ∀ j, j < N → clk N l k j = 0 ∨ ∃ a, An l a k ∧ (ev l a).a = j ∧ atV l a = clk N l k j := by
  intro k
  induction k using Nat.strongRecOn with
  | ind k ih =>
    intro hk
    have h0 := he.lt0 k hk
    have h1 := he.lt1 k hk
    have side : ∀ p : Int, (p = pr0 l k ∨ p = pr1 l k) → ∀ j, j < N → clk N l p j = 0 ∨ ∃ a, An l a k ∧ a < k ∧ (ev l a).a = j ∧ atV l a = clk N l p j := by
      intro p hp j hj
      by_cases hp0 : 0 ≤ p
      · have hpk : p.toNat < k := by rcases hp with rfl | rfl <;> omega
        have hpe : ((p.toNat : Nat) : Int) = p := Int.toNat_of_nonneg hp0
        rcases (ih p.toNat hpk (by omega)).2 j hj with h | ⟨a, h2, h3, h4⟩
        · left; rw [hpe] at h; exact h
        · right
          have := h2.le he (by omega)
          exact ⟨a, .step (by rw [hpe]; exact hp) h2, by omega, h3, by rw [hpe] at h4; exact h4⟩
      · left; unfold clk; rw [if_neg hp0]
    have eqk : ∀ j, j < N → clk N l k j = max (clk N l (pr0 l k) j) (clk N l (pr1 l k) j) + if (ev l k).a = j then 1 else 0 := fun j hj => clk_eq he hk (hn k hk).1 hj
    -- at its own node
    have bound : ∀ p : Int, (p = pr0 l k ∨ p = pr1 l k) → ∀ j, j < N → (ev l k).a = j → clk N l p j ≤ cnt l k j := by
      intro p hp j hj hjk
      rcases side p hp j hj with h | ⟨a, h2, h3, h4, h5⟩
      · rw [h]; omega
      · rw [← h5, atV_suc (by omega), h4]
        have := cnt_mono (l := l) (a := a + 1) (b := k) (by omega) (by omega) (j : Int)
        omega
    have own : ∀ j, j < N → (ev l k).a = j → clk N l k j = atV l k := by
      intro j hj hjk
      rw [eqk j hj, if_pos hjk, atV_ev hk, hjk]
      have b0 := bound _ (.inl rfl) j hj hjk
      have b1 := bound _ (.inr rfl) j hj hjk
      have ge : (cnt l k j : Int) ≤ clk N l (pr0 l k) j := by
        obtain ⟨q1, q2⟩ := prior_cnt (l := l) (x := (ev l k).a) (k := k) (by omega)
        by_cases hp : 0 ≤ pr0 l k
        · obtain ⟨q3, q4⟩ := q2 hp
          have hpe : (((pr0 l k).toNat : Nat) : Int) = pr0 l k := Int.toNat_of_nonneg hp
          have hlt : (pr0 l k).toNat < k := by omega
          have := (ih (pr0 l k).toNat hlt (by omega)).1 _ (.self _)
          have q3' : (ev l (pr0 l k).toNat).a = j := q3.trans hjk
          rw [q3', Int.toNat_natCast, atV_suc (by omega), q3', hpe] at this
          have q4' : cnt l k j = cnt l ((pr0 l k).toNat + 1) j := by rw [← hjk]; exact q4
          rw [q4']; exact this
        · have := q1 (by unfold pr0 at hp; omega)
          rw [← hjk, this]
          exact clk_nonneg (by omega) _
      omega
    refine ⟨fun a ha => ?_, fun j hj => ?_⟩
    · have hak := ha.le he hk
      have hna := hn a (by omega)
      have hj : (ev l a).a.toNat < N := by omega
      have hja : (((ev l a).a.toNat : Nat) : Int) = (ev l a).a := Int.toNat_of_nonneg hna.1
      by_cases hnk : (ev l k).a = (ev l a).a
      · rw [own _ hj (by rw [hja]; exact hnk), atV_suc (by omega), atV_suc hk, hnk]
        have := cnt_mono (l := l) (a := a + 1) (b := k + 1) (by omega) (by omega) (ev l a).a
        omega
      · cases ha with
        | self => exact absurd rfl hnk
        | step hp h =>
          rename_i p
          have hpk : p < k := by rcases hp with e | e <;> omega
          have h2 := (ih p hpk (by omega)).1 a h
          rw [eqk _ hj]
          have : (clk N l (p : Int) (ev l a).a.toNat) ≤ max (clk N l (pr0 l k) (ev l a).a.toNat) (clk N l (pr1 l k) (ev l a).a.toNat) := by
            rcases hp with e | e <;> rw [e] <;> omega
          have h3 : (0 : Int) ≤ if (ev l k).a = (((ev l a).a.toNat : Nat) : Int) then 1 else 0 := by split <;> decide
          omega
    · by_cases hnk : (ev l k).a = j
      · exact .inr ⟨k, .self k, hnk, (own j hj hnk).symm⟩
      · have e := eqk j hj
        rw [if_neg hnk, Int.add_zero] at e
        have hmax : max (clk N l (pr0 l k) j) (clk N l (pr1 l k) j) = clk N l (pr0 l k) j ∨ max (clk N l (pr0 l k) j) (clk N l (pr1 l k) j) = clk N l (pr1 l k) j := by omega
        rcases hmax with hm | hm
        · rcases side _ (.inl rfl) j hj with h | ⟨a, h2, _, h4, h5⟩
          · left; rw [e, hm, h]
          · exact .inr ⟨a, h2, h4, by rw [e, hm, h5]⟩
        · rcases side _ (.inr rfl) j hj with h | ⟨a, h2, _, h4, h5⟩
          · left; rw [e, hm, h]
          · exact .inr ⟨a, h2, h4, by rw [e, hm, h5]⟩
theorem evs_nd {N : Nat} {l : List P2} (h : goodEvs N l = true) : ∀ k, k < l.length → 0 ≤ (ev l k).a ∧ (ev l k).a < N := fun k hk => by
  obtain ⟨_, _, _, h4⟩ := goodEvs_get h
  obtain ⟨g1, g2, _⟩ := h4 k hk _ (ev_some hk)
  exact ⟨g1, by omega⟩
/-- One event came first for another just if its clock has it. -/
theorem came_first {N : Nat} {l : List P2} (h : goodEvs N l = true) {a b : Nat} (ha : a < l.length) (hb : b < l.length) : (firstV l b).contains (a : Int) = (!decide (a = b) && decide (clk N l a (ev l a).a.toNat ≤ clk N l b (ev l a).a.toNat)) := by
  have he := evs_of h
  have hn := evs_nd h
  have ho : clk N l a (ev l a).a.toNat = atV l a := by
    have h1 := (clk_law he hn a ha).1 a (.self a)
    have hj : (((ev l a).a.toNat : Nat) : Int) = (ev l a).a := Int.toNat_of_nonneg (hn a ha).1
    rcases (clk_law he hn a ha).2 (ev l a).a.toNat (by have := hn a ha; omega) with h2 | ⟨c, h2, h3, h4⟩
    · have : 1 ≤ atV l a := by rw [atV_ev ha]; omega
      omega
    · have hca := h2.le he ha
      rw [← h4, atV_suc (by omega), atV_suc ha, h3, hj]
      have := cnt_mono (l := l) (a := c + 1) (b := a + 1) (by omega) (by omega) (ev l a).a
      rw [atV_suc ha, ← h4, atV_suc (by omega), h3, hj] at h1
      omega
  rw [Bool.eq_iff_iff]
  simp only [List.contains_eq_mem, decide_eq_true_eq, Bool.and_eq_true, Bool.not_eq_true', decide_eq_false_iff_not]
  rw [first_iff he hb, ho]
  constructor
  · rintro ⟨h1, h2⟩
    exact ⟨h1, (clk_law he hn b hb).1 a h2⟩
  · rintro ⟨h1, h2⟩
    refine ⟨h1, ?_⟩
    have hj : (((ev l a).a.toNat : Nat) : Int) = (ev l a).a := Int.toNat_of_nonneg (hn a ha).1
    have h1' : 1 ≤ atV l a := by rw [atV_ev ha]; omega
    rcases (clk_law he hn b hb).2 (ev l a).a.toNat (by have := hn a ha; omega) with h3 | ⟨c, h3, h4, h5⟩
    · omega
    · rw [hj] at h4
      have hcb := h3.le he hb
      -- a is at or ahead of c at their node
      have key : ∀ (c : Nat), c < l.length → (ev l c).a = (ev l a).a → atV l a ≤ atV l c → An l a c := by
        intro c
        induction c using Nat.strongRecOn with
        | ind c ihc =>
          intro hc hcn hle
          by_cases e : a = c
          · subst e; exact .self _
          · obtain ⟨q1, q2⟩ := prior_cnt (l := l) (x := (ev l c).a) (k := c) (by omega)
            rw [atV_suc ha, atV_ev hc, hcn] at hle
            have hac : a < c := by
              apply Classical.byContradiction
              intro hge
              have := cnt_mono (l := l) (a := c + 1) (b := a) (by omega) (by omega) (ev l a).a
              rw [cnt_succ (ev_some hc), if_pos hcn] at this
              rw [cnt_succ (ev_some ha), if_pos rfl] at hle
              omega
            have hpos : 0 ≤ lastAt l c (ev l c).a := by
              apply Classical.byContradiction
              intro hneg
              have h0 := q1 (by omega)
              have := cnt_mono (l := l) (a := a + 1) (b := c) (by omega) (by omega) (ev l a).a
              rw [cnt_succ (ev_some ha), if_pos rfl] at this
              rw [hcn] at h0
              omega
            obtain ⟨q3, q4⟩ := q2 hpos
            have hlt := (lastAt_bd l c (ev l c).a).2
            have hpe : (((lastAt l c (ev l c).a).toNat : Nat) : Int) = lastAt l c (ev l c).a := Int.toNat_of_nonneg hpos
            refine .step (p := (lastAt l c (ev l c).a).toNat) (.inl hpe) (ihc _ (by omega) (by omega) (q3.trans hcn) ?_)
            rw [atV_suc ha, atV_suc (by omega), q3, hcn]
            have := cnt_mono (l := l) (a := a + 1) (b := c) (by omega) (by omega) (ev l a).a
            rw [hcn] at q4
            omega
      exact h3.trans (key c (by omega) h4 (by omega))
/-- The greatest number of each node in a list of events. -/
def cutF (l : List P2) (L : List Int) : Nat → Nat → Int
  | 0, _ => 0
  | t + 1, j => if (ev l (L.getD t 0).toNat).a = j ∧ cutF l L t j < atV l (L.getD t 0).toNat then atV l (L.getD t 0).toNat else cutF l L t j
theorem cutF_ge {l : List P2} {L : List Int} {j : Nat} : ∀ {t s : Nat}, s < t → (ev l (L.getD s 0).toNat).a = j → atV l (L.getD s 0).toNat ≤ cutF l L t j
  | t + 1, s, hs, hj => by
    simp only [cutF]
    by_cases e : s = t
    · subst e
      split <;> omega
    · have := cutF_ge (l := l) (L := L) (j := j) (t := t) (s := s) (by omega) hj
      split <;> omega
theorem cutF_is {l : List P2} {L : List Int} {j : Nat} : ∀ {t : Nat}, t ≤ L.length → cutF l L t j = 0 ∨ ∃ s, s < t ∧ (ev l (L.getD s 0).toNat).a = j ∧ atV l (L.getD s 0).toNat = cutF l L t j
  | 0, _ => .inl rfl
  | t + 1, ht => by
    by_cases h : (ev l (L.getD t 0).toNat).a = j ∧ cutF l L t j < atV l (L.getD t 0).toNat
    · right
      refine ⟨t, by omega, h.1, ?_⟩
      simp only [cutF]
      rw [if_pos h]
    · have e : cutF l L (t + 1) j = cutF l L t j := if_neg h
      rw [e]
      rcases cutF_is (l := l) (L := L) (j := j) (t := t) (by omega) with h | ⟨s, h1, h2, h3⟩
      · exact .inl h
      · exact .inr ⟨s, by omega, h2, h3⟩
theorem cutF_nonneg {l : List P2} {L : List Int} {j : Nat} : ∀ {t : Nat}, 0 ≤ cutF l L t j
  | 0 => Int.le_refl _
  | t + 1 => by
    simp only [cutF]
    have := cutF_nonneg (l := l) (L := L) (j := j) (t := t)
    have := (atV_bd l (L.getD t 0).toNat).1
    split <;> omega
/-- The cut of an event is its clock. -/
theorem cut_clk {N : Nat} {l : List P2} (h : goodEvs N l = true) {k : Nat} (hk : k < l.length) {j : Nat} (hj : j < N) : cutF l (firstV l k ++ [(k : Int)]) (firstV l k ++ [(k : Int)]).length j = (rowV N l k).getD j 0 := by
  have he := evs_of h
  have hn := evs_nd h
  have ec : (rowV N l k).getD j 0 = clk N l k j := by unfold clk; rw [if_pos (by omega), Int.toNat_natCast]
  rw [ec]
  have mem : ∀ s, s < (firstV l k ++ [(k : Int)]).length → ∃ a : Nat, (firstV l k ++ [(k : Int)]).getD s 0 = a ∧ a < l.length ∧ An l a k := by
    intro s hs
    have hm : (firstV l k ++ [(k : Int)]).getD s 0 ∈ firstV l k ++ [(k : Int)] := by
      rw [List.getD_eq_getElem?_getD, List.getElem?_eq_getElem hs]; exact List.getElem_mem _
    rcases List.mem_append.1 hm with h1 | h1
    · have hb := first_bd he hk _ h1
      have e : (((firstV l k ++ [(k : Int)]).getD s 0).toNat : Int) = (firstV l k ++ [(k : Int)]).getD s 0 := Int.toNat_of_nonneg hb.1
      refine ⟨_, e.symm, by omega, ?_⟩
      rw [← e] at h1
      exact ((first_iff he hk _).1 h1).2
    · exact ⟨k, List.mem_singleton.1 h1, hk, .self k⟩
  have upper : cutF l (firstV l k ++ [(k : Int)]) (firstV l k ++ [(k : Int)]).length j ≤ clk N l k j := by
    rcases cutF_is (l := l) (L := firstV l k ++ [(k : Int)]) (j := j) (Nat.le_refl _) with h1 | ⟨s, h1, h2, h3⟩
    · rw [h1]; exact clk_nonneg (by omega) _
    · obtain ⟨a, h4, h5, h6⟩ := mem s h1
      rw [← h3, h4, Int.toNat_natCast]
      rw [h4, Int.toNat_natCast] at h2
      have := (clk_law he hn k hk).1 a h6
      rwa [h2, Int.toNat_natCast] at this
  have lower : clk N l k j ≤ cutF l (firstV l k ++ [(k : Int)]) (firstV l k ++ [(k : Int)]).length j := by
    rcases (clk_law he hn k hk).2 j hj with h1 | ⟨a, h1, h2, h3⟩
    · rw [h1]; exact cutF_nonneg
    · have hm : (a : Int) ∈ firstV l k ++ [(k : Int)] := by
        rw [List.mem_append]
        by_cases e : a = k
        · right; rw [e]; exact List.mem_singleton_self _
        · left; exact (first_iff he hk a).2 ⟨e, h1⟩
      obtain ⟨s, hs, es⟩ := List.mem_iff_getElem.1 hm
      have eg : (firstV l k ++ [(k : Int)]).getD s 0 = a := by rw [List.getD_eq_getElem?_getD, List.getElem?_eq_getElem hs]; exact es
      have := cutF_ge (l := l) (L := firstV l k ++ [(k : Int)]) (j := j) (t := (firstV l k ++ [(k : Int)]).length) (s := s) hs (by rw [eg, Int.toNat_natCast]; exact h2)
      rw [eg, Int.toNat_natCast] at this
      omega
  omega
end Go.Proofs.Ytmkhahiefdcinaa

/-
  Sets of events in the reference.
-/
namespace Go.Proofs.Ytmkhahiefdcinaa
open Go.ChangeShapes Go.WideShapes Go.ChangeAt Go.RowKit Go.BigFrame Go.Deep
set_option linter.unusedVariables false
set_option linter.unusedSimpArgs false
theorem vca_el_30_1 : elemB Try.prog 30 1 = true := by kernel_rfl
theorem vca_pl_3 : plainB Try.prog 3 = true := by kernel_rfl
theorem vca_sl_30 : sliceB Try.prog 30 = true := by kernel_rfl
theorem has_no {l : List Int} {p : Int} (h : ∀ j, j < l.length → l.getD j 0 ≠ p) : l.contains p = false := by
  rw [List.contains_eq_mem]
  refine decide_eq_false fun hm => ?_
  obtain ⟨i, hi, e⟩ := List.mem_iff_getElem.1 hm
  refine h i hi ?_
  rw [List.getD_eq_getElem?_getD, List.getElem?_eq_getElem hi]; exact e
theorem has_yes {l : List Int} {p : Int} {k : Nat} (hk : k < l.length) (h : l.getD k 0 = p) : l.contains p = true := by
  rw [List.contains_eq_mem]
  refine decide_eq_true ?_
  rw [← h, List.getD_eq_getElem?_getD, List.getElem?_eq_getElem hk]; exact List.getElem_mem _
theorem posI_eq {o : List Int} {p : Int} {k : Nat} (hk : k ≤ o.length) (h1 : ∀ j, j < k → o.getD j 0 < p) (h2 : k < o.length → ¬ o.getD k 0 < p) : posI o p = k := by
  have at_ : ∀ j (hj : j < o.length), o.getD j 0 = o[j] := fun j hj => by rw [List.getD_eq_getElem?_getD, List.getElem?_eq_getElem hj]; rfl
  unfold posI
  rcases Nat.lt_trichotomy (o.findIdx fun x => decide (p ≤ x)) k with h | h | h
  · have hl : (o.findIdx fun x => decide (p ≤ x)) < o.length := by omega
    have := of_decide_eq_true (List.findIdx_getElem (w := hl))
    have g := h1 _ h
    rw [at_ _ hl] at g
    omega
  · exact h
  · have hle : (o.findIdx fun x => decide (p ≤ x)) ≤ o.length := List.findIdx_le_length
    have hl : k < o.length := by omega
    have g := of_decide_eq_false (List.not_of_lt_findIdx h)
    have := h2 hl
    rw [at_ _ hl] at this
    omega
theorem put_at {o : List Int} {p : Int} {k i : Nat} (hk : k ≤ o.length) : (o.take k ++ (p :: o.drop k)).getD i 0 = if i < k then o.getD i 0 else if i = k then p else o.getD (i - (k + 1) + k) 0 := by
  rw [List.getD_eq_getElem?_getD]
  by_cases h : i < k
  · rw [if_pos h, List.getElem?_append_left (by rw [List.length_take]; omega), List.getElem?_take, if_pos h, List.getD_eq_getElem?_getD]
  · rw [if_neg h, List.getElem?_append_right (by rw [List.length_take]; omega), List.length_take, Nat.min_eq_left hk]
    by_cases e : i = k
    · rw [if_pos e, e, Nat.sub_self]; rfl
    · rw [if_neg e, show i - k = (i - (k + 1)) + 1 by omega, List.getElem?_cons_succ, List.getElem?_drop, List.getD_eq_getElem?_getD, Nat.add_comm k]
theorem q_push {q q1 n : Nat} {F H : Nat → Nat → AV} {w : List Int} {p : Int} (hF : ∀ i, i < w.length → F (q + i) 0 = .int .i64 (w.getD i 0)) (hn : n - q = w.length)
    (hv : ∀ i j, i < n - q + 1 → j < 1 → H (q1 + i) j = if i < n - q then F (q + i) j else (fun _ jc => ([.int .i64 p] : List AV).getD jc (.con undef)) (i - (n - q)) j) : ∀ i, i < (w ++ [p]).length → H (q1 + i) 0 = .int .i64 ((w ++ [p]).getD i 0) := by
  intro i hi
  rw [List.length_append, List.length_singleton] at hi
  rw [hv i 0 (by omega) (by omega), hn]
  by_cases h : i < w.length
  · rw [if_pos h, hF i h]
    congr 1
    rw [List.getD_eq_getElem?_getD, List.getD_eq_getElem?_getD, List.getElem?_append_left h]
  · obtain rfl : i = w.length := by omega
    rw [if_neg h, List.getD_eq_getElem?_getD, List.getElem?_append_right (Nat.le_refl _), Nat.sub_self]; rfl
def pj (l : List P2) (i j : Nat) : Int := if j = 0 then pr0 l i else pr1 l i
def inO (o : List Int) (p0 p1 : Int) : Nat → List Int
  | 0 => o
  | 1 => stpO o p0
  | _ => stpO (stpO o p0) p1
def inW (o wl : List Int) (p0 p1 : Int) : Nat → List Int
  | 0 => wl
  | 1 => stpW o wl p0
  | _ => stpW (stpO o p0) (stpW o wl p0) p1
theorem inO_suc {o : List Int} {l : List P2} {i j : Nat} (hj : j < 2) : inO o (pr0 l i) (pr1 l i) (j + 1) = stpO (inO o (pr0 l i) (pr1 l i) j) (pj l i j) := by
  match j, hj with
  | 0, _ => rfl
  | 1, _ => rfl
theorem inW_suc {o wl : List Int} {l : List P2} {i j : Nat} (hj : j < 2) : inW o wl (pr0 l i) (pr1 l i) (j + 1) = stpW (inO o (pr0 l i) (pr1 l i) j) (inW o wl (pr0 l i) (pr1 l i) j) (pj l i j) := by
  match j, hj with
  | 0, _ => rfl
  | 1, _ => rfl
theorem inO_len {o : List Int} {p0 p1 : Int} : ∀ j, (inO o p0 p1 j).length ≤ o.length + 2 := by
  have h : ∀ (o : List Int) p, (stpO o p).length ≤ o.length + 1 := fun o p => by unfold stpO; split; (· rw [put_len]; exact Nat.le_refl _); (· omega)
  intro j
  match j with
  | 0 => exact Nat.le_add_right _ _
  | 1 => have := h o p0; show (stpO o p0).length ≤ _; omega
  | _ + 2 => have := h o p0; have := h (stpO o p0) p1; show (stpO (stpO o p0) p1).length ≤ _; omega
theorem inW_len {o wl : List Int} {p0 p1 : Int} : ∀ j, (inW o wl p0 p1 j).length ≤ wl.length + 2 := by
  have h : ∀ (o wl : List Int) p, (stpW o wl p).length ≤ wl.length + 1 := fun o wl p => by unfold stpW; split; (· simp); (· omega)
  intro j
  match j with
  | 0 => exact Nat.le_add_right _ _
  | 1 => have := h o wl p0; show (stpW o wl p0).length ≤ _; omega
  | _ + 2 => have := h o wl p0; have := h (stpO o p0) (stpW o wl p0) p1; show (stpW (stpO o p0) (stpW o wl p0) p1).length ≤ _; omega
structure Q1 where
  o : List Int
  wl : List Int
  q : Nat
  m : Nat
  F : Nat → Nat → AV
structure Q2 where
  j : Nat
  q : Nat
  F : Nat → Nat → AV
structure Q1ok (l : List P2) (k : Nat) (v : Q1) : Prop where
  scl : ∀ i j, (v.F i j).scl = true
  val : ∀ i, i < v.wl.length → v.F (v.q + i) 0 = .int .i64 (v.wl.getD i 0)
  run : bfs l v.m v.o v.wl = firstV l k
  meas : measI l v.o v.wl ≤ v.m
  ino : inL l v.o
  inw : inL l v.wl
  bq : v.q + v.m ≤ 2 * l.length + 1
  bo : v.o.length + 2 * v.m ≤ 4 * l.length + 2
theorem v_Has (l : List Int) (p : Int) : Fn Try.prog 45 [.one (.lst 1 l.length (fun i0 _ => .int .i64 (l.getD i0 0))), .one (.int .i64 p)] (.one (.bool (l.contains p))) := by
  refine Fn.of_body (fn := Try.f45) Try.func45 rfl (Nat.le_of_ble_eq_true rfl) trivial ?_
  intro w0
  show AW _ 17 _ _ _ _
  refine AW.bound (t := 0) rfl fun hx => ?_
  refine AW.seq ?_
  refine AW.region ?_
  refine ARun.pure (PureOp.assign rfl .bool) rfl rfl (Nat.le_of_ble_eq_true rfl) ?_
  refine ARun.nil ?_
  refine AW.seq ?_
  refine AW.seq ?_
  refine AW.region ?_
  refine ARun.pure (PureOp.move rfl (.tmp rfl)) rfl rfl (Nat.le_of_ble_eq_true rfl) ?_
  refine ARun.pure (PureOp.lenLst rfl (.tmp rfl) vca_sl_30) rfl rfl (Nat.le_of_ble_eq_true rfl) ?_
  refine ARun.pure (PureOp.move rfl .int) rfl rfl (Nat.le_of_ble_eq_true rfl) ?_
  refine ARun.nil ?_
  refine AW.block ?_
  refine AW.loop (ι := Nat) (fun k => ⟨[(1, .one (.int .i64 p)), (7, .one (.lst 1 l.length (fun i0 _ => .int .i64 (l.getD i0 0)))), (8, .one (.int .i64 (l.length : Int))), (9, .one (.int .i64 (k : Int)))], []⟩) (fun k => k ≤ l.length ∧ ∀ j, j < k → l.getD j 0 ≠ p) (fun k => l.length - k) 0 ⟨Nat.zero_le _, fun j hj => absurd hj (by omega)⟩ ⟨⟨⟨_, rfl, rfl⟩, ⟨_, rfl, rfl⟩, ⟨_, rfl, rfl⟩, ⟨_, rfl, rfl⟩, trivial⟩, trivial⟩ ?_
  intro k hI
  obtain ⟨hk, hks⟩ := hI
  refine AW.seq ?_
  refine AW.region ?_
  refine ARun.pure (PureOp.intOp rfl (.tmp rfl) (.tmp rfl) rfl) rfl rfl (Nat.le_of_ble_eq_true rfl) ?_
  refine ARun.nil ?_
  refine AW.seq ?_
  refine AW.cond (.tmp rfl) (fun hb1 => ?_) (fun hb1 => ?_)
  · have _u := True.intro
    replace hb1 := of_decide_eq_true hb1
    have hkl : k < l.length := by omega
    refine AW.skip ?_
    refine AW.seq ?_
    refine AW.block ?_
    refine AW.seq ?_
    refine AW.region ?_
    refine ARun.pure (PureOp.indexLst (i := k) rfl (.tmp rfl) vca_el_30_1 (.tmp rfl) rfl (by omega)) rfl rfl (Nat.le_of_ble_eq_true rfl) ?_
    refine ARun.pure (PureOp.loadRef rfl (.tmp rfl) vca_pl_3 (Nat.le_of_ble_eq_true rfl)) rfl rfl (Nat.le_of_ble_eq_true rfl) ?_
    refine ARun.pure (PureOp.assign rfl (.tmp rfl)) rfl rfl (Nat.le_of_ble_eq_true rfl) ?_
    refine ARun.nil ?_
    refine AW.seq ?_
    refine AW.region ?_
    refine ARun.pure (PureOp.move rfl (.tmp rfl)) rfl rfl (Nat.le_of_ble_eq_true rfl) ?_
    refine ARun.pure (PureOp.move rfl (.tmp rfl)) rfl rfl (Nat.le_of_ble_eq_true rfl) ?_
    refine ARun.pure (PureOp.intOp rfl (.tmp rfl) (.tmp rfl) rfl) rfl rfl (Nat.le_of_ble_eq_true rfl) ?_
    refine ARun.nil ?_
    refine AW.cond (.tmp rfl) (fun hb2 => ?_) (fun hb2 => ?_)
    · have _u := True.intro
      replace hb2 := of_decide_eq_true hb2
      refine AW.seq ?_
      refine AW.region ?_
      refine ARun.pure (PureOp.assign rfl .bool) rfl rfl (Nat.le_of_ble_eq_true rfl) ?_
      refine ARun.nil ?_
      refine AW.ret (show ResL _ _ [.tmp 4] _ from resB rfl ?_)
      exact (has_yes hkl hb2).symm
    · have _u := True.intro
      replace hb2 := of_decide_eq_false hb2
      have hne := hb2
      refine AW.skip ?_
      refine AW.region ?_
      refine ARun.pure (PureOp.add (c := ((k + 1 : Nat) : Int)) rfl (.tmp rfl) .int (by rw [wrap_id (by omega) (by omega)]; omega)) rfl rfl (Nat.le_of_ble_eq_true rfl) ?_
      refine ARun.pure (PureOp.move rfl (.tmp rfl)) rfl rfl (Nat.le_of_ble_eq_true rfl) ?_
      refine ARun.nil ?_
      exact ⟨k + 1, ⟨by omega, rng_succ (p := fun j => l.getD j 0 ≠ p) hks hne⟩, by dsimp only; omega, ⟨⟨⟨_, rfl, rfl⟩, ⟨_, rfl, rfl⟩, ⟨_, rfl, rfl⟩, ⟨_, rfl, rfl⟩, trivial⟩, trivial⟩⟩
  · have _u := True.intro
    replace hb1 := of_decide_eq_false hb1
    have hkl : ¬ k < l.length := by omega
    refine AW.exit ?_
    refine AW.seq ?_
    refine AW.region ?_
    refine ARun.pure (PureOp.assign rfl .bool) rfl rfl (Nat.le_of_ble_eq_true rfl) ?_
    refine ARun.nil ?_
    refine AW.ret (show ResL _ _ [.tmp 4] _ from resB rfl ?_)
    exact (has_no (fun j hj => hks j (by omega))).symm

theorem and_cond {a b : Bool} (h : cond a b false = true) : a = true ∧ b = true := by revert h; revert a b; decide
theorem and_cond2 {a b : Bool} (h : cond a b false = false) (ha : a = true) : b = false := by revert h ha; revert a b; decide
theorem v_Put (l : List Int) (p : Int) (hl : l.length ≤ 1000) (hno : l.contains p = false) : FnT Try.prog 68 [.one (.lst 1 l.length (fun i0 _ => .int .i64 (l.getD i0 0))), .one (.int .i64 p)] (.one (.lst 1 ((putI l p).length) (fun i0 _ => .int .i64 ((putI l p).getD i0 0)))) := by
  refine FnT.of_body (fn := Try.f68) Try.func68 rfl (Nat.le_of_ble_eq_true rfl)  ?_
  intro w0
  show AW _ 48 _ _ _ _
  refine AW.bound (t := 0) rfl fun hx => ?_
  refine AW.seq ?_
  refine AW.region ?_
  refine ARun.pure (PureOp.assign rfl .con) rfl rfl (Nat.le_of_ble_eq_true rfl) ?_
  refine ARun.nil ?_
  refine AW.seq ?_
  refine AW.region ?_
  refine ARun.pure (PureOp.assign rfl .int) rfl rfl (Nat.le_of_ble_eq_true rfl) ?_
  refine ARun.nil ?_
  refine AW.seq ?_
  refine AW.block ?_
  refine AW.loop (ι := Nat) (fun k => ⟨[(0, .one (.lst 1 l.length (fun i0 _ => .int .i64 (l.getD i0 0)))), (1, .one (.int .i64 p)), (5, .one (.int .i64 (k : Int)))], []⟩) (fun k => k ≤ l.length ∧ ∀ j, j < k → l.getD j 0 < p) (fun k => l.length - k) 0 ⟨Nat.zero_le _, fun j hj => absurd hj (by omega)⟩ ⟨⟨⟨_, rfl, rfl⟩, ⟨_, rfl, rfl⟩, ⟨_, rfl, rfl⟩, trivial⟩, trivial⟩ ?_
  intro k hI
  obtain ⟨hk, hq⟩ := hI
  refine AW.seq ?_
  refine AW.seq ?_
  refine AW.region ?_
  refine ARun.pure (PureOp.move rfl (.tmp rfl)) rfl rfl (Nat.le_of_ble_eq_true rfl) ?_
  refine ARun.pure (PureOp.move rfl (.tmp rfl)) rfl rfl (Nat.le_of_ble_eq_true rfl) ?_
  refine ARun.pure (PureOp.lenLst rfl (.tmp rfl) vca_sl_30) rfl rfl (Nat.le_of_ble_eq_true rfl) ?_
  refine ARun.pure (PureOp.intOp rfl (.tmp rfl) (.tmp rfl) rfl) rfl rfl (Nat.le_of_ble_eq_true rfl) ?_
  refine ARun.pure (PureOp.move rfl (.tmp rfl)) rfl rfl (Nat.le_of_ble_eq_true rfl) ?_
  refine ARun.gpure (want := true) (.tt rfl) (fun hg1 => PureOp.move rfl (.tmp rfl)) rfl rfl (Nat.le_of_ble_eq_true rfl) rfl (Nat.le_of_ble_eq_true rfl) ?_
  refine ARun.gpure (want := true) (.tt rfl) (fun hg2 => PureOp.move rfl (.tmp rfl)) rfl rfl (Nat.le_of_ble_eq_true rfl) rfl (Nat.le_of_ble_eq_true rfl) ?_
  refine ARun.gpure (want := true) (.tt rfl) (fun hg3 => PureOp.indexLst (i := k) rfl (.gtmp rfl hg3) vca_el_30_1 (.gtmp rfl hg3) rfl (by have q := hg3; simp only [Bool.cond_true_left, Bool.cond_false_right, Bool.not_eq_true', Bool.or_eq_false_iff, Bool.not_eq_false', Bool.and_eq_true, Bool.not_not, decide_eq_true_eq, decide_eq_false_iff_not, inB] at q; omega)) rfl rfl (Nat.le_of_ble_eq_true rfl) rfl (Nat.le_of_ble_eq_true rfl) ?_
  refine ARun.gpure (want := true) (.tt rfl) (fun hg4 => PureOp.loadRef rfl (.gtmp rfl hg4) vca_pl_3 (Nat.le_of_ble_eq_true rfl)) rfl rfl (Nat.le_of_ble_eq_true rfl) rfl (Nat.le_of_ble_eq_true rfl) ?_
  refine ARun.gpure (want := true) (.tt rfl) (fun hg5 => PureOp.move rfl (.tmp rfl)) rfl rfl (Nat.le_of_ble_eq_true rfl) rfl (Nat.le_of_ble_eq_true rfl) ?_
  refine ARun.gpure (want := true) (.tt rfl) (fun hg6 => PureOp.intOp rfl (.gtmp rfl hg6) (.gtmp rfl hg6) rfl) rfl rfl (Nat.le_of_ble_eq_true rfl) rfl (Nat.le_of_ble_eq_true rfl) ?_
  refine ARun.pure (PureOp.pick rfl (.tmp rfl) (fun hp7 => .gtmp rfl hp7) (fun _ => .bool)) rfl rfl (Nat.le_of_ble_eq_true rfl) ?_
  refine ARun.nil ?_
  refine AW.cond (.tmp rfl) (fun hb9 => ?_) (fun hb9 => ?_)
  · have _u := True.intro
    obtain ⟨ha, hb⟩ := and_cond hb9
    have hkl : k < l.length := by have := of_decide_eq_true ha; omega
    have hlt := of_decide_eq_true hb
    refine AW.skip ?_
    refine AW.block ?_
    refine AW.region ?_
    refine ARun.pure (PureOp.move rfl (.tmp rfl)) rfl rfl (Nat.le_of_ble_eq_true rfl) ?_
    refine ARun.pure (PureOp.add (c := ((k + 1 : Nat) : Int)) rfl (.tmp rfl) .int (by rw [wrap_id (by omega) (by omega)]; omega)) rfl rfl (Nat.le_of_ble_eq_true rfl) ?_
    refine ARun.pure (PureOp.assign rfl (.tmp rfl)) rfl rfl (Nat.le_of_ble_eq_true rfl) ?_
    refine ARun.nil ?_
    exact ⟨k + 1, ⟨by omega, fun j hj => (Nat.lt_succ_iff_lt_or_eq.1 hj).elim (hq j) (fun e => e ▸ hlt)⟩, by dsimp only; omega, ⟨⟨⟨_, rfl, rfl⟩, ⟨_, rfl, rfl⟩, ⟨_, rfl, rfl⟩, trivial⟩, trivial⟩⟩
  · have _u := True.intro
    have hge : k < l.length → ¬ l.getD k 0 < p := fun hkl => of_decide_eq_false (and_cond2 hb9 (decide_eq_true (by omega)))
    have hpos : posI l p = k := posI_eq hk hq hge
    refine AW.exit ?_
    refine AW.seq ?_
    refine AW.seq ?_
    refine AW.region ?_
    refine ARun.pure (PureOp.move rfl (.tmp rfl)) rfl rfl (Nat.le_of_ble_eq_true rfl) ?_
    refine ARun.pure (PureOp.move rfl (.tmp rfl)) rfl rfl (Nat.le_of_ble_eq_true rfl) ?_
    refine ARun.pure (PureOp.lenLst rfl (.tmp rfl) vca_sl_30) rfl rfl (Nat.le_of_ble_eq_true rfl) ?_
    refine ARun.pure (PureOp.intOp rfl (.tmp rfl) (.tmp rfl) rfl) rfl rfl (Nat.le_of_ble_eq_true rfl) ?_
    refine ARun.pure (PureOp.move rfl (.tmp rfl)) rfl rfl (Nat.le_of_ble_eq_true rfl) ?_
    refine ARun.gpure (want := true) (.tt rfl) (fun hg10 => PureOp.move rfl (.tmp rfl)) rfl rfl (Nat.le_of_ble_eq_true rfl) rfl (Nat.le_of_ble_eq_true rfl) ?_
    refine ARun.gpure (want := true) (.tt rfl) (fun hg11 => PureOp.move rfl (.tmp rfl)) rfl rfl (Nat.le_of_ble_eq_true rfl) rfl (Nat.le_of_ble_eq_true rfl) ?_
    refine ARun.gpure (want := true) (.tt rfl) (fun hg12 => PureOp.indexLst (i := k) rfl (.gtmp rfl hg12) vca_el_30_1 (.gtmp rfl hg12) rfl (by have q := hg12; simp only [Bool.cond_true_left, Bool.cond_false_right, Bool.not_eq_true', Bool.or_eq_false_iff, Bool.not_eq_false', Bool.and_eq_true, Bool.not_not, decide_eq_true_eq, decide_eq_false_iff_not, inB] at q; omega)) rfl rfl (Nat.le_of_ble_eq_true rfl) rfl (Nat.le_of_ble_eq_true rfl) ?_
    refine ARun.gpure (want := true) (.tt rfl) (fun hg13 => PureOp.loadRef rfl (.gtmp rfl hg13) vca_pl_3 (Nat.le_of_ble_eq_true rfl)) rfl rfl (Nat.le_of_ble_eq_true rfl) rfl (Nat.le_of_ble_eq_true rfl) ?_
    refine ARun.gpure (want := true) (.tt rfl) (fun hg14 => PureOp.move rfl (.tmp rfl)) rfl rfl (Nat.le_of_ble_eq_true rfl) rfl (Nat.le_of_ble_eq_true rfl) ?_
    refine ARun.gpure (want := true) (.tt rfl) (fun hg15 => PureOp.intOp rfl (.gtmp rfl hg15) (.gtmp rfl hg15) rfl) rfl rfl (Nat.le_of_ble_eq_true rfl) rfl (Nat.le_of_ble_eq_true rfl) ?_
    refine ARun.pure (PureOp.pick rfl (.tmp rfl) (fun hp16 => .gtmp rfl hp16) (fun _ => .bool)) rfl rfl (Nat.le_of_ble_eq_true rfl) ?_
    refine ARun.nil ?_
    refine AW.cond (.tmp rfl) (fun hb18 => ?_) (fun hb18 => ?_)
    · have _u := True.intro
      exfalso
      obtain ⟨ha, hb⟩ := and_cond hb18
      have hkl : k < l.length := by have := of_decide_eq_true ha; omega
      rw [has_yes hkl (of_decide_eq_true hb)] at hno
      cases hno
      --end
    · have _u := True.intro
      have hpl : (putI l p).length = l.length + 1 := put_len l p
      refine AW.skip ?_
      refine AW.seq ?_
      refine AW.region ?_
      refine ARun.pure (PureOp.assign rfl .con) rfl rfl (Nat.le_of_ble_eq_true rfl) ?_
      refine ARun.nil ?_
      refine AW.seq ?_
      refine AW.region ?_
      refine ARun.pure (PureOp.move rfl (.tmp rfl)) rfl rfl (Nat.le_of_ble_eq_true rfl) ?_
      refine ARun.pure (PureOp.move rfl (.tmp rfl)) rfl rfl (Nat.le_of_ble_eq_true rfl) ?_
      refine ARun.pure (PureOp.move rfl (.tmp rfl)) rfl rfl (Nat.le_of_ble_eq_true rfl) ?_
      refine ARun.pure (PureOp.takeLst (k := k) rfl (.tmp rfl) (.tmp rfl) rfl (by omega) vca_el_30_1) rfl rfl (Nat.le_of_ble_eq_true rfl) ?_
      refine ARun.append (id := 0) (sz := 1) (n := 0) (m := k) (by_ := 8) (z := (.int .i64 0)) (f := fun _ _ => .con undef) (g := fun i0 _ => .int .i64 (l.getD i0 0)) (h := fun ia ja => if ia < 0 then (fun _ _ => .con undef) ia ja else (fun i0 _ => .int .i64 (l.getD i0 0)) (ia - 0) ja) rfl (by kernel_rfl) rfl vca_sl_30 (.nil (.tmp rfl) rfl) (.lst (.tmp rfl)) (by decide) (fun i j hi hj => match j, hj with | 0, _ => rfl | _ + 1, h => absurd h (by omega)) (fun _ _ _ _ => rfl) (by omega) (by omega) ⟨rfl, (by repeat first | exact trivial | refine ⟨by decide, by first | rfl | exact trivial | (intro i j; first | rfl | exact getD_no rfl | (dsimp only; split <;> first | rfl | exact getD_no rfl) | exact scl_no (by apply_assumption) _), ?_⟩)⟩ (fun i j => by dsimp only; (repeat' split) <;> first | rfl | exact getD_no rfl) rfl rfl (Nat.le_of_ble_eq_true rfl) ?_
      refine ARun.pure (PureOp.assign rfl (.tmp rfl)) rfl rfl (Nat.le_of_ble_eq_true rfl) ?_
      refine ARun.nil ?_
      refine AW.seq ?_
      refine AW.region ?_
      refine ARun.pure (PureOp.move rfl (.tmp rfl)) rfl rfl (Nat.le_of_ble_eq_true rfl) ?_
      refine ARun.pure (PureOp.move rfl (.tmp rfl)) rfl rfl (Nat.le_of_ble_eq_true rfl) ?_
      refine ARun.slice1 (id := 1) (z := (.int .i64 0)) (by_ := 8) rfl (.tmp rfl) trivial (by kernel_rfl) rfl rfl (by decide) (by decide) ⟨rfl, (by repeat first | exact trivial | refine ⟨by decide, by first | rfl | exact trivial | (intro i j; first | rfl | exact getD_no rfl | (dsimp only; split <;> first | rfl | exact getD_no rfl) | exact scl_no (by apply_assumption) _), ?_⟩)⟩ rfl rfl rfl (Nat.le_of_ble_eq_true rfl) ?_
      refine ARun.append (id := 2) (sz := 1) (n := (0 + k)) (m := 1) (by_ := 8) (z := (.int .i64 0)) (f := fun ia ja => if ia < 0 then (fun _ _ => .con undef) ia ja else (fun i0 _ => .int .i64 (l.getD i0 0)) (ia - 0) ja) (g := fun _ jc => ([.int .i64 p] : List AV).getD jc (.con undef)) (h := fun ia ja => if ia < (0 + k) then (fun ia ja => if ia < 0 then (fun _ _ => .con undef) ia ja else (fun i0 _ => .int .i64 (l.getD i0 0)) (ia - 0) ja) ia ja else (fun _ jc => ([.int .i64 p] : List AV).getD jc (.con undef)) (ia - (0 + k)) ja) rfl (by kernel_rfl) rfl vca_sl_30 (.own (.tmp rfl) rfl rfl rfl (Nat.le_refl _) (fun _ _ _ _ => rfl)) (.own (.tmp rfl) rfl rfl (Nat.le_refl _) (fun _ _ _ _ => rfl)) (by decide) (fun i j hi hj => match j, hj with | 0, _ => rfl | _ + 1, h => absurd h (by omega)) (fun _ _ _ _ => rfl) (by omega) (by omega) ⟨rfl, (by repeat first | exact trivial | refine ⟨by decide, by first | rfl | exact trivial | (intro i j; first | rfl | exact getD_no rfl | (dsimp only; split <;> first | rfl | exact getD_no rfl) | exact scl_no (by apply_assumption) _), ?_⟩)⟩ (fun i j => by dsimp only; (repeat' split) <;> first | rfl | exact getD_no rfl) rfl rfl (Nat.le_of_ble_eq_true rfl) ?_
      refine ARun.pure (PureOp.assign rfl (.tmp rfl)) rfl rfl (Nat.le_of_ble_eq_true rfl) ?_
      refine ARun.nil ?_
      refine AW.seq ?_
      refine AW.region ?_
      refine ARun.pure (PureOp.move rfl (.tmp rfl)) rfl rfl (Nat.le_of_ble_eq_true rfl) ?_
      refine ARun.pure (PureOp.move rfl (.tmp rfl)) rfl rfl (Nat.le_of_ble_eq_true rfl) ?_
      refine ARun.pure (PureOp.move rfl (.tmp rfl)) rfl rfl (Nat.le_of_ble_eq_true rfl) ?_
      refine ARun.pure (PureOp.dropLst (k := k) rfl (.tmp rfl) (.tmp rfl) rfl (by omega) vca_el_30_1) rfl rfl (Nat.le_of_ble_eq_true rfl) ?_
      refine ARun.append (id := 3) (sz := 1) (n := ((0 + k) + 1)) (m := (l.length - k)) (by_ := 8) (z := (.int .i64 0)) (f := fun ia ja => if ia < (0 + k) then (fun ia ja => if ia < 0 then (fun _ _ => .con undef) ia ja else (fun i0 _ => .int .i64 (l.getD i0 0)) (ia - 0) ja) ia ja else (fun _ jc => ([.int .i64 p] : List AV).getD jc (.con undef)) (ia - (0 + k)) ja) (g := fun id_ jd_ => (fun i0 _ => .int .i64 (l.getD i0 0)) (id_ + k) jd_) (h := fun ia ja => if ia < ((0 + k) + 1) then (fun ia ja => if ia < (0 + k) then (fun ia ja => if ia < 0 then (fun _ _ => .con undef) ia ja else (fun i0 _ => .int .i64 (l.getD i0 0)) (ia - 0) ja) ia ja else (fun _ jc => ([.int .i64 p] : List AV).getD jc (.con undef)) (ia - (0 + k)) ja) ia ja else (fun id_ jd_ => (fun i0 _ => .int .i64 (l.getD i0 0)) (id_ + k) jd_) (ia - ((0 + k) + 1)) ja) rfl (by kernel_rfl) rfl vca_sl_30 (.own (.tmp rfl) rfl rfl rfl (Nat.le_refl _) (fun _ _ _ _ => rfl)) (.lst (.tmp rfl)) (by decide) (fun i j hi hj => match j, hj with | 0, _ => rfl | _ + 1, h => absurd h (by omega)) (fun _ _ _ _ => rfl) (by omega) (by omega) ⟨rfl, (by repeat first | exact trivial | refine ⟨by decide, by first | rfl | exact trivial | (intro i j; first | rfl | exact getD_no rfl | (dsimp only; split <;> first | rfl | exact getD_no rfl) | exact scl_no (by apply_assumption) _), ?_⟩)⟩ (fun i j => by dsimp only; (repeat' split) <;> first | rfl | exact getD_no rfl) rfl rfl (Nat.le_of_ble_eq_true rfl) ?_
      refine ARun.pure (PureOp.assign rfl (.tmp rfl)) rfl rfl (Nat.le_of_ble_eq_true rfl) ?_
      refine ARun.nil ?_
      exact AW.ret (show ∃ s t, ResL _ _ [.tmp 4] s ∧ TvS _ (ofLeaf t) 0 s _ from ⟨_, fun a b => if a = 3 then 0 else 1000, .inl ⟨_, rfl, .tmp rfl⟩, (Tv.flatN (by rw [hpl]; omega) rfl rfl rfl (Nat.le_refl _) (by rfl) (fun i j hi hj => by
      obtain rfl : j = 0 := by omega
      show _ = AV.int .i64 ((putI l p).getD i 0)
      unfold putI; rw [hpos, put_at hk]
      show (if i < 0 + k + 1 then (if i < 0 + k then (if i < 0 then _ else _) else _) else _) = _
      by_cases h1 : i < k
      · rw [if_pos (by omega), if_pos (by omega), if_neg (by omega), if_pos h1]; rfl
      · by_cases h2 : i = k
        · rw [if_pos (by omega), if_neg (by omega), if_neg h1, if_pos h2]; rfl
        · rw [if_neg (by omega), if_neg h1, if_neg h2]; show AV.int .i64 (l.getD (i - (0 + k + 1) + k) 0) = _; rw [Nat.zero_add]) (fun i j hi hj => match j, hj with | 0, _ => rfl | _ + 1, h => absurd h (by omega)))⟩)
end Go.Proofs.Ytmkhahiefdcinaa

/-
  What came first for an event, in the reference.
-/
namespace Go.Proofs.Ytmkhahiefdcinaa
open Go.ChangeShapes Go.WideShapes Go.ChangeAt Go.RowKit Go.BigFrame Go.Deep
set_option linter.unusedVariables false
set_option linter.unusedSimpArgs false
theorem vcf_ca_45 : callB Try.prog 45 = true := by kernel_rfl
theorem vcf_ca_52 : callB Try.prog 52 = true := by kernel_rfl
theorem vcf_ca_68 : callB Try.prog 68 = true := by kernel_rfl
theorem vcf_el_26_2 : elemB Try.prog 26 2 = true := by kernel_rfl
theorem vcf_el_30_1 : elemB Try.prog 30 1 = true := by kernel_rfl
theorem vcf_fi_64_1_1 : fieldB Try.prog 64 1 1 = true := by kernel_rfl
theorem vcf_pl_3 : plainB Try.prog 3 = true := by kernel_rfl
theorem vcf_sl_30 : sliceB Try.prog 30 = true := by kernel_rfl
theorem bfs_nil {l : List P2} {m : Nat} {o wl : List Int} (h : wl = []) : bfs l m o wl = o := by subst h; cases m <;> rfl
theorem newI_has {o : List Int} {p : Int} (h : newI o p = true) : o.contains p = false := by
  unfold newI at h; revert h; generalize o.contains p = a; generalize decide (0 ≤ p) = b; revert a b; decide
theorem q1_start {l : List P2} (he : Evs l) {k : Nat} (hk : k < l.length) : Q1ok l k ⟨[], [(k : Int)], 0, 2 * l.length + 1, fun _ jc => ([.int .i64 (k : Int)] : List AV).getD jc (.con undef)⟩ := by
  have hmiss : missI l [] ≤ l.length := by
    unfold missI
    exact Nat.le_trans (List.length_filter_le ..) (by simp)
  refine ⟨fun _ j => by cases j <;> rfl, fun i hi => ?_, rfl, by show measI l [] [(k : Int)] ≤ 2 * l.length + 1; unfold measI; simp; omega, fun x hx => (nomatch hx), fun x hx => ?_, by show 0 + (2 * l.length + 1) ≤ _; omega, by show 0 + 2 * (2 * l.length + 1) ≤ _; omega⟩
  · have hi : i < 1 := hi
    obtain rfl : i = 0 := by omega
    rfl
  · rw [List.mem_singleton.1 hx]; omega
theorem q1_pop {l : List P2} {v : Q1} (hmeas : measI l v.o v.wl ≤ v.m) (hinw : inL l v.wl) (h : 0 < v.wl.length) : ∃ (i : Nat) (w0 : List Int) (m' : Nat), v.wl = (i : Int) :: w0 ∧ i < l.length ∧ v.m = m' + 1 := by
  unfold measI at hmeas
  cases hw : v.wl with
  | nil => rw [hw] at h; simp at h
  | cons x w0 =>
    have hx := hinw x (by rw [hw]; exact List.mem_cons_self ..)
    refine ⟨x.toNat, w0, v.m - 1, ?_, by omega, by rw [hw, List.length_cons] at hmeas; omega⟩
    rw [Int.toNat_of_nonneg hx.1]
theorem q1_next {l : List P2} (he : Evs l) {k i m' : Nat} {v : Q1} {w0 : List Int} (hi : i < l.length) (hwl : v.wl = (i : Int) :: w0) (hm : v.m = m' + 1) (hrun : bfs l v.m v.o v.wl = firstV l k) (hmeas : measI l v.o v.wl ≤ v.m) (hino : inL l v.o) (hinw : inL l v.wl) {q : Nat} {F : Nat → Nat → AV} (hbq : q + m' ≤ 2 * l.length + 1) (hbo : v.o.length + 2 + 2 * m' ≤ 4 * l.length + 2)
    (hF : ∀ i j, (F i j).scl = true) (hval : ∀ r, r < (inW v.o w0 (pr0 l i) (pr1 l i) 2).length → F (q + r) 0 = .int .i64 ((inW v.o w0 (pr0 l i) (pr1 l i) 2).getD r 0)) : Q1ok l k ⟨inO v.o (pr0 l i) (pr1 l i) 2, inW v.o w0 (pr0 l i) (pr1 l i) 2, q, m', F⟩ := by
  have h0 : pr0 l i < l.length := by have := he.lt0 i hi; omega
  have h1 : pr1 l i < l.length := by have := he.lt1 i hi; omega
  have hw0 : inL l w0 := fun x hx => hinw x (by rw [hwl]; exact List.mem_cons_of_mem _ hx)
  refine ⟨hF, hval, ?_, ?_, inL_stp (inL_stp hino h0) h1, inL_stpW (inL_stpW hw0 h0) h1, hbq, ?_⟩
  · rw [hm, hwl] at hrun
    exact hrun
  · have g1 := meas_stp (l := l) (o := v.o) (wl := w0) h0
    have g2 := meas_stp (l := l) (o := stpO v.o (pr0 l i)) (wl := stpW v.o w0 (pr0 l i)) h1
    have g3 : measI l v.o v.wl = measI l v.o w0 + 1 := by unfold measI; rw [hwl, List.length_cons]; omega
    show measI l (stpO (stpO v.o (pr0 l i)) (pr1 l i)) _ ≤ m'
    show measI l (stpO (stpO v.o (pr0 l i)) (pr1 l i)) (stpW (stpO v.o (pr0 l i)) (stpW v.o w0 (pr0 l i)) (pr1 l i)) ≤ m'
    omega
  · have := inO_len (o := v.o) (p0 := pr0 l i) (p1 := pr1 l i) 2
    show (inO v.o (pr0 l i) (pr1 l i) 2).length + 2 * m' ≤ _
    omega
theorem v_First (n : Int) (l : List GEvent) (hg : goodEvs n l = true) (k : Nat) (hk : k < l.length) : FnT Try.prog 46 [.one (.lst 2 l.length (fun i0 j0 => ([.int .i64 ((l.getD i0 (default : GEvent)).a), .int .i64 ((l.getD i0 (default : GEvent)).b)] : List AV).getD j0 (.con undef))), .one (.int .i64 (k : Int))] (.one (.lst 1 ((firstV l k).length) (fun i0 _ => .int .i64 ((firstV l k).getD i0 0)))) := by
  have he := evs_of hg
  have hlen := (goodEvs_get hg).2.2.1
  obtain ⟨gn0, gn1, _⟩ := goodEvs_get hg
  refine FnT.of_body (fn := Try.f46) Try.func46 rfl (Nat.le_of_ble_eq_true rfl)  ?_
  intro w0
  show AW _ 51 _ _ _ _
  refine AW.seq ?_
  refine AW.region ?_
  refine ARun.pure (PureOp.assign rfl .con) rfl rfl (Nat.le_of_ble_eq_true rfl) ?_
  refine ARun.nil ?_
  refine AW.seq ?_
  refine AW.region ?_
  refine ARun.pure (PureOp.assign rfl .con) rfl rfl (Nat.le_of_ble_eq_true rfl) ?_
  refine ARun.nil ?_
  refine AW.seq ?_
  refine AW.region ?_
  refine ARun.pure (PureOp.move rfl (.tmp rfl)) rfl rfl (Nat.le_of_ble_eq_true rfl) ?_
  refine ARun.slice1 (id := 0) (z := (.int .i64 0)) (by_ := 8) rfl (.tmp rfl) trivial (by kernel_rfl) rfl rfl (by decide) (by decide) ⟨rfl, (by repeat first | exact trivial | refine ⟨by decide, by first | rfl | exact trivial | (intro i j; first | rfl | exact getD_no rfl | (dsimp only; split <;> first | rfl | exact getD_no rfl) | exact scl_no (by apply_assumption) _), ?_⟩)⟩ rfl rfl rfl (Nat.le_of_ble_eq_true rfl) ?_
  refine ARun.pure (PureOp.assign rfl (.tmp rfl)) rfl rfl (Nat.le_of_ble_eq_true rfl) ?_
  refine ARun.nil ?_
  refine AW.seq ?_
  refine AW.block ?_
  refine AW.nilSlot 5 900 1 (fun i _ => .int .i64 (([] : List Int).getD i 0)) rfl ⟨rfl, (by repeat first | exact trivial | refine ⟨by decide, by first | rfl | exact trivial | (intro i j; first | rfl | exact getD_no rfl | (dsimp only; split <;> first | rfl | exact getD_no rfl) | exact scl_no (by apply_assumption) _), ?_⟩)⟩ ?_
  refine AW.asTl 6 0 1 1 rfl ?_
  -- objects are renamed
  refine AW.loopR (ι := Q1) (fun v => ⟨[(0, .one (.lst 2 l.length (fun i0 j0 => ([.int .i64 ((l.getD i0 (default : GEvent)).a), .int .i64 ((l.getD i0 (default : GEvent)).b)] : List AV).getD j0 (.con undef)))), (5, .one (.own 900 1 v.o.length)), (6, .one (.tl 0 1 v.q (v.q + v.wl.length)))], [(0, .arr 1 (v.q + v.wl.length) v.F), (900, .arr 1 v.o.length (fun ii_ _ => .int .i64 (v.o.getD ii_ 0)))]⟩) (fun v => Q1ok l k v) (fun v => v.m) ⟨[], [(k : Int)], 0, 2 * l.length + 1, fun _ jc => ([.int .i64 (k : Int)] : List AV).getD jc (.con undef)⟩ (q1_start he hk) ⟨⟨⟨_, rfl, rfl⟩, ⟨_, rfl, rfl⟩, ⟨_, rfl, rfl⟩, trivial⟩, HeapLe.one rfl (HeapLe.one rfl trivial)⟩ ?_
  intro v hv
  obtain ⟨hF, hval, hrun, hmeas, hino, hinw, hbq, hbo⟩ := hv
  refine AW.seq ?_
  refine AW.seq ?_
  refine AW.region ?_
  refine ARun.pure (PureOp.move rfl (.tmp rfl)) rfl rfl (Nat.le_of_ble_eq_true rfl) ?_
  refine ARun.pure (PureOp.lenTl rfl (.tmp rfl) vcf_sl_30) rfl rfl (Nat.le_of_ble_eq_true rfl) ?_
  refine ARun.pure (PureOp.intOp rfl (.tmp rfl) .int rfl) rfl rfl (Nat.le_of_ble_eq_true rfl) ?_
  refine ARun.nil ?_
  refine AW.cond (.tmp rfl) (fun hb1 => ?_) (fun hb1 => ?_)
  · have _u := True.intro
    replace hb1 := of_decide_eq_true hb1
    obtain ⟨i, w0', m', hwl, hi, hm⟩ := q1_pop hmeas hinw (by omega)
    have hl0 : v.wl.length = w0'.length + 1 := by rw [hwl]; rfl
    have hwm : v.wl.length ≤ v.m := Nat.le_trans (Nat.le_add_left _ _) hmeas
    have hval_i : v.F (v.q + 0) 0 = .int .i64 (i : Int) := by rw [hval 0 (by omega), hwl]; rfl
    have hval0 : ∀ r, r < w0'.length → v.F (v.q + 1 + r) 0 = .int .i64 (w0'.getD r 0) := fun r hr => by rw [show v.q + 1 + r = v.q + (r + 1) by omega, hval (r + 1) (by omega), hwl]; rfl
    refine AW.skip ?_
    refine AW.block ?_
    refine AW.seq ?_
    refine AW.region ?_
    refine ARun.pure (PureOp.move rfl (.tmp rfl)) rfl rfl (Nat.le_of_ble_eq_true rfl) ?_
    refine ARun.pure (PureOp.indexTl (i := 0) rfl (.tmp rfl) vcf_el_30_1 .int rfl (by omega)) rfl rfl (Nat.le_of_ble_eq_true rfl) ?_
    refine ARun.pure (PureOp.loadPtrE (y := .int .i64 (i : Int)) rfl (.tmp rfl) vcf_pl_3 rfl rfl (show v.q + 0 < v.q + v.wl.length by omega) (Nat.le_of_ble_eq_true rfl) (hval_i)) rfl rfl (Nat.le_of_ble_eq_true rfl) ?_
    refine ARun.pure (PureOp.assign rfl (.tmp rfl)) rfl rfl (Nat.le_of_ble_eq_true rfl) ?_
    refine ARun.nil ?_
    refine AW.seq ?_
    refine AW.region ?_
    refine ARun.pure (PureOp.move rfl (.tmp rfl)) rfl rfl (Nat.le_of_ble_eq_true rfl) ?_
    refine ARun.pure (PureOp.dropTl (k := 1) rfl (.tmp rfl) .int rfl (by omega) vcf_el_30_1) rfl rfl (Nat.le_of_ble_eq_true rfl) ?_
    refine ARun.pure (PureOp.assign rfl (.tmp rfl)) rfl rfl (Nat.le_of_ble_eq_true rfl) ?_
    refine ARun.nil ?_
    refine AW.seq ?_
    refine AW.any (by kernel_rfl) (by kernel_rfl) ?_
    refine AD.pure (PureOp.move rfl (.tmp rfl)) rfl rfl (Nat.le_of_ble_eq_true rfl) ?_
    refine AD.pure (PureOp.move rfl (.tmp rfl)) rfl rfl (Nat.le_of_ble_eq_true rfl) ?_
    refine AD.pure (PureOp.call rfl (v_Prior n l hg i (by omega)) ⟨⟨_, (.tmp rfl), .lst⟩, ⟨_, (.tmp rfl), .int⟩, trivial⟩ vcf_ca_52 trivial) rfl rfl (Nat.le_of_ble_eq_true rfl) ?_
    refine AD.pure (PureOp.move rfl (.tmp rfl)) rfl rfl (Nat.le_of_ble_eq_true rfl) ?_
    refine AD.pure (PureOp.move rfl (.tmp rfl)) rfl rfl (Nat.le_of_ble_eq_true rfl) ?_
    refine AD.pure (PureOp.indexLst (i := i) rfl (.tmp rfl) vcf_el_26_2 (.tmp rfl) rfl (by omega)) rfl rfl (Nat.le_of_ble_eq_true rfl) ?_
    refine AD.pure (PureOp.fieldRef rfl (.tmp rfl) vcf_fi_64_1_1 (Nat.le_of_ble_eq_true rfl)) rfl rfl (Nat.le_of_ble_eq_true rfl) ?_
    refine AD.pure (PureOp.loadRef rfl (.tmp rfl) vcf_pl_3 (Nat.le_of_ble_eq_true rfl)) rfl rfl (Nat.le_of_ble_eq_true rfl) ?_
    refine AD.fresh (FreshOp.pair (a1 := pr0 l i) (a2 := (l.getD i (default : GEvent)).b) rfl (.tmp rfl) (.tmp rfl) Try.underlying30 (by kernel_rfl)) rfl rfl (Nat.le_of_ble_eq_true rfl) ?_
    refine AD.pure (PureOp.lenLst rfl (.frs (.tmp rfl)) vcf_sl_30) rfl rfl (Nat.le_of_ble_eq_true rfl) ?_
    refine AD.pure (PureOp.move rfl .int) rfl rfl (Nat.le_of_ble_eq_true rfl) ?_
    refine AD.nil ?_
    refine AW.block ?_
    -- objects are renamed
    refine AW.loopR (ι := Q2) (fun u => ⟨[(0, .one (.lst 2 l.length (fun i0 j0 => ([.int .i64 ((l.getD i0 (default : GEvent)).a), .int .i64 ((l.getD i0 (default : GEvent)).b)] : List AV).getD j0 (.con undef)))), (5, .one (.own 900 1 ((inO v.o (pr0 l i) (pr1 l i) u.j).length))), (6, .one (.tl 0 1 u.q (u.q + (inW v.o w0' (pr0 l i) (pr1 l i) u.j).length))), (28, .one (.frs (.lst 1 2 (fun i_ _ => .int .i64 (if i_ = 0 then pr0 l i else (l.getD i (default : GEvent)).b))))), (29, .one (.int .i64 (2 : Int))), (30, .one (.int .i64 (u.j : Int)))], [(0, .arr 1 (u.q + (inW v.o w0' (pr0 l i) (pr1 l i) u.j).length) u.F), (900, .arr 1 ((inO v.o (pr0 l i) (pr1 l i) u.j).length) (fun ii_ _ => .int .i64 ((inO v.o (pr0 l i) (pr1 l i) u.j).getD ii_ 0)))]⟩) (fun u => u.j ≤ 2 ∧ (∀ i j, (u.F i j).scl = true) ∧ (∀ r, r < (inW v.o w0' (pr0 l i) (pr1 l i) u.j).length → u.F (u.q + r) 0 = .int .i64 ((inW v.o w0' (pr0 l i) (pr1 l i) u.j).getD r 0)) ∧ u.q ≤ v.q + 1) (fun u => 2 - u.j) ⟨0, v.q + 1, v.F⟩ ⟨Nat.zero_le _, hF, (fun r hr => hval0 r hr), Nat.le_refl _⟩ ⟨⟨⟨_, rfl, rfl⟩, ⟨_, rfl, rfl⟩, ⟨_, rfl, congrArg (fun z : Nat => SV.one (.tl 0 1 (v.q + 1) z)) (show v.q + v.wl.length = v.q + 1 + w0'.length by omega)⟩, ⟨_, rfl, rfl⟩, ⟨_, rfl, rfl⟩, ⟨_, rfl, rfl⟩, trivial⟩, ⟨⟨_, rfl, rfl, Nat.le_of_eq (show v.q + 1 + w0'.length = v.q + v.wl.length by omega), fun _ _ _ _ => rfl⟩, ⟨_, rfl, rfl, Nat.le_refl _, fun _ _ _ _ => rfl⟩, trivial⟩⟩ ?_
    intro u hu
    obtain ⟨hu1, huF, huv, hu3⟩ := hu
    have hlo := inO_len (o := v.o) (p0 := pr0 l i) (p1 := pr1 l i) u.j
    have hlw := inW_len (o := v.o) (wl := w0') (p0 := pr0 l i) (p1 := pr1 l i) u.j
    refine AW.seq ?_
    refine AW.region ?_
    refine ARun.pure (PureOp.intOp rfl (.tmp rfl) (.tmp rfl) rfl) rfl rfl (Nat.le_of_ble_eq_true rfl) ?_
    refine ARun.nil ?_
    refine AW.seq ?_
    refine AW.cond (.tmp rfl) (fun hb2 => ?_) (fun hb2 => ?_)
    · have _u := True.intro
      replace hb2 := of_decide_eq_true hb2
      have hj2 : u.j < 2 := by omega
      refine AW.skip ?_
      refine AW.seq ?_
      refine AW.block ?_
      refine AW.seq ?_
      refine AW.region ?_
      refine ARun.pure (PureOp.indexLst (i := u.j) rfl (.frs (.tmp rfl)) vcf_el_30_1 (.tmp rfl) rfl (by omega)) rfl rfl (Nat.le_of_ble_eq_true rfl) ?_
      refine ARun.pure (PureOp.loadRef rfl (.tmp rfl) vcf_pl_3 (Nat.le_of_ble_eq_true rfl)) rfl rfl (Nat.le_of_ble_eq_true rfl) ?_
      refine ARun.pure (PureOp.assign rfl (.tmp rfl)) rfl rfl (Nat.le_of_ble_eq_true rfl) ?_
      refine ARun.nil ?_
      refine AW.seq ?_
      refine AW.region ?_
      refine ARun.pure (PureOp.move rfl (.tmp rfl)) rfl rfl (Nat.le_of_ble_eq_true rfl) ?_
      refine ARun.pure (PureOp.intOp rfl (.tmp rfl) .int rfl) rfl rfl (Nat.le_of_ble_eq_true rfl) ?_
      refine ARun.pure (PureOp.move rfl (.tmp rfl)) rfl rfl (Nat.le_of_ble_eq_true rfl) ?_
      refine ARun.gpure (want := true) (.tt rfl) (fun hg3 => PureOp.move rfl (.tmp rfl)) rfl rfl (Nat.le_of_ble_eq_true rfl) rfl (Nat.le_of_ble_eq_true rfl) ?_
      refine ARun.gpure (want := true) (.tt rfl) (fun hg4 => PureOp.move rfl (.tmp rfl)) rfl rfl (Nat.le_of_ble_eq_true rfl) rfl (Nat.le_of_ble_eq_true rfl) ?_
      refine ARun.gpure (want := true) (.tt rfl) (fun hg5 => PureOp.call rfl (v_Has (inO v.o (pr0 l i) (pr1 l i) u.j) (pj l i u.j)) ⟨⟨_, (.gtmp rfl hg5), (.own rfl rfl (Nat.le_refl _) (fun i j hi hj => (match j, hj with | 0, _ => .int | _ + 1, h => absurd h (by omega))))⟩, ⟨_, (.gtmp rfl hg5), .int⟩, trivial⟩ vcf_ca_45 trivial) rfl rfl (Nat.le_of_ble_eq_true rfl) rfl (Nat.le_of_ble_eq_true rfl) ?_
      refine ARun.gpure (want := true) (.tt rfl) (fun hg6 => PureOp.not rfl (.gtmp rfl hg6)) rfl rfl (Nat.le_of_ble_eq_true rfl) rfl (Nat.le_of_ble_eq_true rfl) ?_
      refine ARun.pure (PureOp.pick rfl (.tmp rfl) (fun hp7 => .gtmp rfl hp7) (fun _ => .bool)) rfl rfl (Nat.le_of_ble_eq_true rfl) ?_
      refine ARun.nil ?_
      refine AW.cond (.tmp rfl) (fun hb9 => ?_) (fun hb9 => ?_)
      · have _u := True.intro
        have hnew : newI (inO v.o (pr0 l i) (pr1 l i) u.j) (pj l i u.j) = true := hb9
        have hnc : (inO v.o (pr0 l i) (pr1 l i) u.j).contains (pj l i u.j) = false := newI_has hnew
        have hso : inO v.o (pr0 l i) (pr1 l i) (u.j + 1) = putI (inO v.o (pr0 l i) (pr1 l i) u.j) (pj l i u.j) := (inO_suc hj2).trans (if_pos hnew)
        have hsw : inW v.o w0' (pr0 l i) (pr1 l i) (u.j + 1) = inW v.o w0' (pr0 l i) (pr1 l i) u.j ++ [pj l i u.j] := (inW_suc hj2).trans (if_pos hnew)
        refine AW.seq ?_
        refine AW.region ?_
        refine ARun.pure (PureOp.move rfl (.tmp rfl)) rfl rfl (Nat.le_of_ble_eq_true rfl) ?_
        refine ARun.pure (PureOp.move rfl (.tmp rfl)) rfl rfl (Nat.le_of_ble_eq_true rfl) ?_
        refine ARun.prod (K := 1) rfl (v_Put (inO v.o (pr0 l i) (pr1 l i) u.j) (pj l i u.j) (by omega) hnc) ⟨rfl, (by repeat first | exact trivial | refine ⟨by decide, by first | rfl | exact trivial | (intro i j; first | rfl | exact getD_no rfl | (dsimp only; split <;> first | rfl | exact getD_no rfl) | exact scl_no (by apply_assumption) _), ?_⟩)⟩ ⟨⟨_, (.tmp rfl), (.own rfl rfl (Nat.le_refl _) (fun i j hi hj => (match j, hj with | 0, _ => .int | _ + 1, h => absurd h (by omega))))⟩, ⟨_, (.tmp rfl), .int⟩, trivial⟩ vcf_ca_68 rfl rfl rfl rfl rfl (Nat.le_of_ble_eq_true rfl) ?_
        refine ARun.openRow 44 1 0 1 1 ((putI (inO v.o (pr0 l i) (pr1 l i) u.j) (pj l i u.j)).length) 2 _ (fun ii_ _ => .int .i64 ((putI (inO v.o (pr0 l i) (pr1 l i) u.j) (pj l i u.j)).getD ii_ 0)) rfl rfl (by decide) rfl (fun i j hi hj => match j, hj with | 0, _ => rfl | _ + 1, h => absurd h (by omega)) (fun i j => by first | rfl | exact getD_no rfl) ⟨rfl, (by repeat first | exact trivial | refine ⟨by decide, by first | rfl | exact trivial | (intro i j; first | rfl | exact getD_no rfl | (dsimp only; split <;> first | rfl | exact getD_no rfl) | exact scl_no (by apply_assumption) _), ?_⟩)⟩ ?_
        refine ARun.pure (PureOp.assign rfl (.tmp rfl)) rfl rfl (Nat.le_of_ble_eq_true rfl) ?_
        refine ARun.nil ?_
        refine AW.region ?_
        refine ARun.pure (PureOp.move rfl (.tmp rfl)) rfl rfl (Nat.le_of_ble_eq_true rfl) ?_
        refine ARun.pure (PureOp.move rfl (.tmp rfl)) rfl rfl (Nat.le_of_ble_eq_true rfl) ?_
        refine ARun.slice1 (id := 3) (z := (.int .i64 0)) (by_ := 8) rfl (.tmp rfl) trivial (by kernel_rfl) rfl rfl (by decide) (by decide) ⟨rfl, (by repeat first | exact trivial | refine ⟨by decide, by first | rfl | exact trivial | (intro i j; first | rfl | exact getD_no rfl | (dsimp only; split <;> first | rfl | exact getD_no rfl) | exact scl_no (by apply_assumption) _), ?_⟩)⟩ rfl rfl rfl (Nat.le_of_ble_eq_true rfl) ?_
        refine ARun.appendTl (id := 4) (sz := 1) (m := 1) (by_ := 8) (z := (.int .i64 0)) (g := fun _ jc => ([.int .i64 (pj l i u.j)] : List AV).getD jc (.con undef)) (h := fun ia ja => if ia < ((u.q + (inW v.o w0' (pr0 l i) (pr1 l i) u.j).length) - u.q) then (u.F) (u.q + ia) ja else (fun _ jc => ([.int .i64 (pj l i u.j)] : List AV).getD jc (.con undef)) (ia - ((u.q + (inW v.o w0' (pr0 l i) (pr1 l i) u.j).length) - u.q)) ja) rfl (by kernel_rfl) rfl vcf_sl_30 (.tmp rfl) rfl rfl rfl (Nat.le_refl _) (.own (.tmp rfl) rfl rfl (Nat.le_refl _) (fun _ _ _ _ => rfl)) (by decide) (fun i j hi hj => match j, hj with | 0, _ => rfl | _ + 1, h => absurd h (by omega)) (fun _ _ => huF _ _) (fun _ j => match j with | 0 => rfl | _ + 1 => rfl) (fun _ _ _ _ => rfl) (by omega) (by omega) ⟨rfl, (by repeat first | exact trivial | refine ⟨by decide, by first | rfl | exact trivial | (intro i j; first | rfl | exact getD_no rfl | (dsimp only; split <;> first | rfl | exact getD_no rfl) | exact scl_no (by apply_assumption) _), ?_⟩)⟩ (fun i j => by dsimp only; split <;> first | rfl | exact scl_no ((fun _ _ => huF _ _) _ _) _ | exact getD_no rfl) rfl rfl (Nat.le_of_ble_eq_true rfl) (fun qq10 hh11 hscqq10 hleqq10 hvaqq10 => ?_)
        have hnw : (qq10 + (((u.q + (inW v.o w0' (pr0 l i) (pr1 l i) u.j).length) - u.q) + 1)) = qq10 + (inW v.o w0' (pr0 l i) (pr1 l i) (u.j + 1)).length := by rw [hsw, List.length_append, List.length_singleton]; omega
        have hpush : ∀ r, r < (inW v.o w0' (pr0 l i) (pr1 l i) (u.j + 1)).length → hh11 (qq10 + r) 0 = .int .i64 ((inW v.o w0' (pr0 l i) (pr1 l i) (u.j + 1)).getD r 0) := by rw [hsw]; exact q_push huv (by omega) hvaqq10
        refine ARun.pure (PureOp.assign rfl (.tmp rfl)) rfl rfl (Nat.le_of_ble_eq_true rfl) ?_
        refine ARun.nil ?_
        refine AW.region ?_
        refine ARun.pure (PureOp.add (c := ((u.j + 1 : Nat) : Int)) rfl (.tmp rfl) .int (by rw [wrap_id (by omega) (by omega)]; omega)) rfl rfl (Nat.le_of_ble_eq_true rfl) ?_
        refine ARun.pure (PureOp.move rfl (.tmp rfl)) rfl rfl (Nat.le_of_ble_eq_true rfl) ?_
        refine ARun.nil ?_
        exact ⟨⟨u.j + 1, qq10, hh11⟩, (fun z => (swp 900 2) ((swp 0 4) z)), ⟨by show u.j + 1 ≤ 2; omega, hscqq10, hpush, by show qq10 ≤ v.q + 1; omega⟩, by show 2 - (u.j + 1) < 2 - u.j; omega, (comp_inj swp_inj swp_inj), (comp_fix (swp_fix rfl rfl) (swp_fix rfl rfl)), ⟨⟨⟨_, rfl, rfl⟩, ⟨_, rfl, congrArg (fun z : List Int => SV.one (.own 2 1 z.length)) hso.symm⟩, ⟨_, rfl, congrArg (fun z : Nat => SV.one (.tl 4 1 qq10 z)) hnw⟩, ⟨_, rfl, rfl⟩, ⟨_, rfl, rfl⟩, ⟨_, rfl, rfl⟩, trivial⟩, ⟨⟨_, rfl, rfl, Nat.le_of_eq hnw.symm, fun ia ja _ _ => (ren_scl (hscqq10 ia ja)).symm⟩, ⟨_, rfl, rfl, Nat.le_of_eq (congrArg List.length hso), fun ia ja _ _ => congrArg (fun z : List Int => AV.int .i64 (z.getD ia 0)) hso.symm⟩, trivial⟩⟩⟩
      · have _u := True.intro
        have hnew : ¬ newI (inO v.o (pr0 l i) (pr1 l i) u.j) (pj l i u.j) = true := fun e => by rw [show newI (inO v.o (pr0 l i) (pr1 l i) u.j) (pj l i u.j) = _ from hb9] at e; cases e
        have hso : inO v.o (pr0 l i) (pr1 l i) (u.j + 1) = (inO v.o (pr0 l i) (pr1 l i) u.j) := (inO_suc hj2).trans (if_neg hnew)
        have hsw : inW v.o w0' (pr0 l i) (pr1 l i) (u.j + 1) = inW v.o w0' (pr0 l i) (pr1 l i) u.j := (inW_suc hj2).trans (if_neg hnew)
        refine AW.skip ?_
        refine AW.region ?_
        refine ARun.pure (PureOp.add (c := ((u.j + 1 : Nat) : Int)) rfl (.tmp rfl) .int (by rw [wrap_id (by omega) (by omega)]; omega)) rfl rfl (Nat.le_of_ble_eq_true rfl) ?_
        refine ARun.pure (PureOp.move rfl (.tmp rfl)) rfl rfl (Nat.le_of_ble_eq_true rfl) ?_
        refine ARun.nil ?_
        exact ⟨⟨u.j + 1, u.q, u.F⟩, id, ⟨by show u.j + 1 ≤ 2; omega, huF, hsw ▸ huv, hu3⟩, by show 2 - (u.j + 1) < 2 - u.j; omega, id_inj, (fun _ _ => rfl), ⟨⟨⟨_, rfl, rfl⟩, ⟨_, rfl, congrArg (fun z : List Int => SV.one (.own 900 1 z.length)) hso.symm⟩, ⟨_, rfl, congrArg (fun z : List Int => SV.one (.tl 0 1 u.q (u.q + z.length))) hsw.symm⟩, ⟨_, rfl, rfl⟩, ⟨_, rfl, rfl⟩, ⟨_, rfl, rfl⟩, trivial⟩, ⟨⟨_, rfl, rfl, Nat.le_of_eq (congrArg (fun z : List Int => u.q + z.length) hsw), fun ia ja _ _ => (ren_scl (huF ia ja)).symm⟩, ⟨_, rfl, rfl, Nat.le_of_eq (congrArg List.length hso), fun ia ja _ _ => congrArg (fun z : List Int => AV.int .i64 (z.getD ia 0)) hso.symm⟩, trivial⟩⟩⟩
    · have _u := True.intro
      replace hb2 := of_decide_eq_false hb2
      have hju : u.j = 2 := by omega
      have hue := huv
      rw [hju] at hue
      refine AW.exit ?_
      exact ⟨⟨inO v.o (pr0 l i) (pr1 l i) 2, inW v.o w0' (pr0 l i) (pr1 l i) 2, u.q, m', u.F⟩, id, q1_next he hi hwl hm hrun hmeas hino hinw (by omega) (by omega) huF hue, by show m' < v.m; omega, id_inj, (fun _ _ => rfl), ⟨⟨⟨_, rfl, rfl⟩, ⟨_, rfl, congrArg (fun z : Nat => SV.one (.own 900 1 (inO v.o (pr0 l i) (pr1 l i) z).length)) hju⟩, ⟨_, rfl, congrArg (fun z : Nat => SV.one (.tl 0 1 u.q (u.q + (inW v.o w0' (pr0 l i) (pr1 l i) z).length))) hju⟩, trivial⟩, ⟨⟨_, rfl, rfl, Nat.le_of_eq (congrArg (fun z => u.q + (inW v.o w0' (pr0 l i) (pr1 l i) z).length) hju.symm), fun ia ja _ _ => (ren_scl (huF ia ja)).symm⟩, ⟨_, rfl, rfl, Nat.le_of_eq (congrArg (fun z => (inO v.o (pr0 l i) (pr1 l i) z).length) hju.symm), fun ia ja _ _ => congrArg (fun z => AV.int .i64 ((inO v.o (pr0 l i) (pr1 l i) z).getD ia 0)) hju⟩, trivial⟩⟩⟩
  · have _u := True.intro
    replace hb1 := of_decide_eq_false hb1
    have hend : v.o = firstV l k := by rw [← hrun]; exact (bfs_nil (List.eq_nil_of_length_eq_zero (by omega))).symm
    refine AW.exit ?_
    refine AW.seq ?_
    refine AW.region ?_
    refine ARun.pure (PureOp.move rfl (.tmp rfl)) rfl rfl (Nat.le_of_ble_eq_true rfl) ?_
    refine ARun.pure (PureOp.assign rfl (.tmp rfl)) rfl rfl (Nat.le_of_ble_eq_true rfl) ?_
    refine ARun.nil ?_
    exact AW.ret (show ∃ s t, ResL _ _ [.tmp 4] s ∧ TvS _ (ofLeaf t) 0 s _ from ⟨_, fun a b => if a = 900 then 0 else 1000, .inl ⟨_, rfl, .tmp rfl⟩, (Tv.flatN (by rw [hend]) rfl rfl rfl (Nat.le_refl _) (by rfl) (fun i j hi hj => by rw [← hend]; rfl) (fun i j hi hj => rfl))⟩)
end Go.Proofs.Ytmkhahiefdcinaa

/-
  CutOf: the reference and the program answer the same.
-/
namespace Go.Proofs.Ytmkhahiefdcinaa
open Go.ChangeShapes Go.WideShapes Go.ChangeAt Go.RowKit Go.BigFrame Go.Deep
set_option linter.unusedVariables false
set_option linter.unusedSimpArgs false
theorem vcu_ca_44 : callB Try.prog 44 = true := by kernel_rfl
theorem vcu_ca_46 : callB Try.prog 46 = true := by kernel_rfl
theorem vcu_ca_48 : callB Try.prog 48 = true := by kernel_rfl
theorem vcu_ca_49 : callB Try.prog 49 = true := by kernel_rfl
theorem vcu_ca_50 : callB Try.prog 50 = true := by kernel_rfl
theorem vcu_ca_54 : callB Try.prog 54 = true := by kernel_rfl
theorem vcu_el_26_2 : elemB Try.prog 26 2 = true := by kernel_rfl
theorem vcu_el_30_1 : elemB Try.prog 30 1 = true := by kernel_rfl
theorem vcu_el_40_1 : elemB Try.prog 40 1 = true := by kernel_rfl
theorem vcu_fi_64_0_0 : fieldB Try.prog 64 0 0 = true := by kernel_rfl
theorem vcu_pl_3 : plainB Try.prog 3 = true := by kernel_rfl
theorem vcu_pl_30 : plainB Try.prog 30 = true := by kernel_rfl
theorem vcu_sl_26 : sliceB Try.prog 26 = true := by kernel_rfl
theorem vcu_sl_30 : sliceB Try.prog 30 = true := by kernel_rfl
theorem vcu_sz_3_1 : sizeB Try.prog 3 1 = true := by kernel_rfl
theorem v_AtI (n : Int) (l : List GEvent) (hg : goodEvs n l = true) : FnF Try.prog 54 [.one (.int .i64 n), .one (evsAV l)] (.one (intsAV (atL l l.length))) := by
  obtain ⟨h1, _⟩ := goodEvs_get hg
  obtain ⟨N, rfl⟩ : ∃ N : Nat, n = N := ⟨n.toNat, (Int.toNat_of_nonneg (by omega)).symm⟩
  exact v_At N l hg
theorem v_ClocksI (n : Int) (l : List GEvent) (hg : goodEvs n l = true) : FnT Try.prog 50 [.one (.int .i64 n), .one (evsAV l)] (.one (rowsAV (ckTo n.toNat l l.length))) := by
  obtain ⟨h1, _⟩ := goodEvs_get hg
  obtain ⟨N, rfl⟩ : ∃ N : Nat, n = N := ⟨n.toNat, (Int.toNat_of_nonneg (by omega)).symm⟩
  exact v_Clocks N l hg
def ctOk (n : Int) (l : List GEvent) (k : Int) : Prop := goodEvs n l = true ∧ 0 ≤ k ∧ k < l.length
open Classical in
noncomputable def cutV (n : Int) (l : List GEvent) (k : Int) : List Int × Bool := if ctOk n l k then (rowV n.toNat l k.toNat, true) else ([], false)
theorem cut_no {n : Int} {l : List GEvent} {k : Int} (h : ¬ ctOk n l k) : cutV n l k = ([], false) := if_neg h
theorem cut_yes {n : Int} {l : List GEvent} {k : Int} (h : ctOk n l k) : cutV n l k = (rowV n.toNat l k.toNat, true) := if_pos h
theorem cutS {n : Int} {l : List GEvent} {k : Int} {p : Bool} (h : cond (cond (!goodEvs n l) true (decide (k < 0))) true (decide ((l.length : Int) ≤ k)) = p) : (p = false → ctOk n l k) ∧ (p = true → ¬ ctOk n l k) := by
  unfold ctOk
  by_cases h1 : goodEvs n l = true <;> by_cases h2 : k < 0 <;> by_cases h3 : (l.length : Int) ≤ k <;> simp [h1, h2, h3] at h <;> subst h <;> simp [h1, h2, h3] <;> omega
theorem cutI {n : Int} {l : List GEvent} {k : Int} {p : Bool} (h : cond (!goodEvs n l) true (!inB 0 ((l.length : Int) - 1) k) = p) : (p = false → ctOk n l k) ∧ (p = true → ¬ ctOk n l k) := by
  unfold ctOk inB at *
  by_cases h1 : goodEvs n l = true <;> by_cases h2 : 0 ≤ k <;> by_cases h3 : k ≤ (l.length : Int) - 1 <;> simp [h1, h2, h3] at h <;> subst h <;> simp [h1, h2, h3] <;> omega
theorem first_app {L : List Int} {k k' : Int} (e : k' = k) {i : Nat} (hi : i < L.length + 1) : (if i < L.length then AV.int .i64 (L.getD i 0) else ([AV.int .i64 k] : List AV).getD 0 (.con undef)) = AV.int .i64 ((L ++ [k']).getD i 0) := by
  subst e
  by_cases h : i < L.length
  · rw [if_pos h, List.getD_eq_getElem?_getD, List.getD_eq_getElem?_getD, List.getElem?_append_left h]
  · obtain rfl : i = L.length := by omega
    rw [if_neg h, List.getD_eq_getElem?_getD (l := L ++ [k']), List.getElem?_append_right (Nat.le_refl _), Nat.sub_self]; rfl
theorem first_mem {n : Int} {l : List GEvent} (hg : goodEvs n l = true) {k t : Nat} (hk : k < l.length) (ht : t < (firstV l k ++ [(k : Int)]).length) : ∃ i : Nat, (firstV l k ++ [(k : Int)]).getD t 0 = (i : Int) ∧ i < l.length := by
  have hm : (firstV l k ++ [(k : Int)]).getD t 0 ∈ firstV l k ++ [(k : Int)] := by
    rw [List.getD_eq_getElem?_getD, List.getElem?_eq_getElem ht]; exact List.getElem_mem _
  rcases List.mem_append.1 hm with h1 | h1
  · have hb := first_bd (evs_of hg) hk _ h1
    exact ⟨_, (Int.toNat_of_nonneg hb.1).symm, by omega⟩
  · exact ⟨k, List.mem_singleton.1 h1, hk⟩
theorem atL_at {l : List P2} {i : Nat} (hi : i < l.length) : (atL l l.length).getD i 0 = atV l i := by
  rw [List.getD_eq_getElem?_getD, atL_get l hi]; rfl
theorem cut_set {l : List P2} {L : List Int} {t i j : Nat} (hi : L.getD t 0 = (i : Int)) (hn : 0 ≤ (ev l i).a) (h : cutF l L t (ev l i).a.toNat < atV l i) : (if j = (ev l i).a.toNat then atV l i else cutF l L t j) = cutF l L (t + 1) j := by
  simp only [cutF]
  rw [hi, Int.toNat_natCast]
  by_cases hj : j = (ev l i).a.toNat
  · subst hj
    rw [if_pos rfl, if_pos ⟨(Int.toNat_of_nonneg hn).symm, h⟩]
  · rw [if_neg hj, if_neg (fun e => hj (by omega))]
theorem cut_keep {l : List P2} {L : List Int} {t i j : Nat} (hi : L.getD t 0 = (i : Int)) (h : ¬ cutF l L t (ev l i).a.toNat < atV l i) : cutF l L t j = cutF l L (t + 1) j := by
  simp only [cutF]
  rw [hi, Int.toNat_natCast]
  by_cases hj : (ev l i).a = j ∧ cutF l L t j < atV l i
  · exfalso
    apply h
    have : (ev l i).a.toNat = j := by omega
    rw [this]; exact hj.2
  · rw [if_neg hj]
theorem rowV_len {n : Int} {l : List P2} (hg : goodEvs n l = true) {k : Nat} (hk : k < l.length) : (rowV n.toNat l k).length = n.toNat := (rowV_is (N := n.toNat) hk).1
theorem cut_end {n : Int} {l : List P2} (hg : goodEvs n l = true) {k : Nat} (hk : k < l.length) {j : Nat} (hj : j < n.toNat) : cutF l (firstV l k ++ [(k : Int)]) (firstV l k ++ [(k : Int)]).length j = (rowV n.toNat l k).getD j 0 := by
  obtain ⟨h1, _⟩ := goodEvs_get hg
  obtain ⟨N, rfl⟩ : ∃ N : Nat, n = N := ⟨n.toNat, (Int.toNat_of_nonneg (by omega)).symm⟩
  exact cut_clk hg hk hj
theorem first_len {n : Int} {l : List P2} (hg : goodEvs n l = true) {k : Nat} (hk : k < l.length) : (firstV l k).length ≤ 1000 := by
  have key : ∀ (m : Nat) (o wl : List Int), (bfs l m o wl).length ≤ o.length + 2 * m := by
    intro m
    induction m with
    | zero => intro o wl; exact Nat.le_refl _
    | succ m ih =>
      intro o wl
      cases wl with
      | nil => show o.length ≤ _; omega
      | cons i wl =>
        have h := ih (stpO (stpO o (pr0 l i.toNat)) (pr1 l i.toNat)) (stpW (stpO o (pr0 l i.toNat)) (stpW o wl (pr0 l i.toNat)) (pr1 l i.toNat))
        have h1 : ∀ (o : List Int) p, (stpO o p).length ≤ o.length + 1 := fun o p => by unfold stpO; split; (· rw [put_len]; exact Nat.le_refl _); (· omega)
        have := h1 o (pr0 l i.toNat)
        have := h1 (stpO o (pr0 l i.toNat)) (pr1 l i.toNat)
        show (bfs l m _ _).length ≤ _
        omega
  have h := key (2 * l.length + 1) [] [(k : Int)]
  have := (goodEvs_get hg).2.2.1
  have e : (firstV l k).length = (bfs l (2 * l.length + 1) [] [(k : Int)]).length := rfl
  rw [e]
  have : ([] : List Int).length = 0 := rfl
  omega
theorem v_FirstI (n : Int) (l : List GEvent) (hg : goodEvs n l = true) (k : Int) (hke : ((k.toNat : Nat) : Int) = k) (hk : k.toNat < l.length) : FnT Try.prog 46 [.one (evsAV l), .one (.int .i64 k)] (.one (intsAV (firstV l k.toNat))) := by
  have h := v_First n l hg k.toNat hk
  rw [hke] at h
  exact h
theorem ev_bd {n : Int} {l : List P2} (hg : goodEvs n l = true) {i : Nat} (hi : i < l.length) : 0 ≤ (l.getD i (default : GEvent)).a ∧ (l.getD i (default : GEvent)).a.toNat < n.toNat := by
  obtain ⟨h1, _⟩ := goodEvs_get hg
  obtain ⟨N, rfl⟩ : ∃ N : Nat, n = N := ⟨n.toNat, (Int.toNat_of_nonneg (by omega)).symm⟩
  have := evs_nd hg i hi
  refine ⟨this.1, ?_⟩
  have h2 : (ev l i).a < (N : Int) := this.2
  show (ev l i).a.toNat < ((N : Nat) : Int).toNat
  omega
theorem v_sCut (n : Int) (l : List GEvent) (k : Int) (hn : I64 n) (hk : I64 k) : FnT Try.prog 29 [.one (.int .i64 n), .one (.lst 2 l.length (fun i0 j0 => ([.int .i64 ((l.getD i0 (default : GEvent)).a), .int .i64 ((l.getD i0 (default : GEvent)).b)] : List AV).getD j0 (.con undef))), .one (.int .i64 k)] (.tup2 (.one (.lst 1 (((cutV n l k).1).length) (fun i0 _ => .int .i64 (((cutV n l k).1).getD i0 0)))) (.one (.bool ((cutV n l k).2)))) := by
  obtain ⟨hn0, hn1⟩ := hn
  obtain ⟨hk0, hk1⟩ := hk
  refine FnT.of_body (fn := Try.f29) Try.func29 rfl (Nat.le_of_ble_eq_true rfl)  ?_
  intro w0
  show AW _ 68 _ _ _ _
  refine AW.bound (t := 1) rfl fun hx => ?_
  refine AW.seq ?_
  refine AW.region ?_
  refine ARun.pure (PureOp.assign rfl .con) rfl rfl (Nat.le_of_ble_eq_true rfl) ?_
  refine ARun.pure (PureOp.assign rfl .bool) rfl rfl (Nat.le_of_ble_eq_true rfl) ?_
  refine ARun.nil ?_
  refine AW.seq ?_
  refine AW.seq ?_
  refine AW.region ?_
  refine ARun.pure (PureOp.move rfl (.tmp rfl)) rfl rfl (Nat.le_of_ble_eq_true rfl) ?_
  refine ARun.pure (PureOp.move rfl (.tmp rfl)) rfl rfl (Nat.le_of_ble_eq_true rfl) ?_
  refine ARun.pure (PureOp.call rfl (v_GoodEvents n l ⟨by omega, by omega⟩) ⟨⟨_, (.tmp rfl), .int⟩, ⟨_, (.tmp rfl), .lst⟩, trivial⟩ vcu_ca_44 trivial) rfl rfl (Nat.le_of_ble_eq_true rfl) ?_
  refine ARun.pure (PureOp.not rfl (.tmp rfl)) rfl rfl (Nat.le_of_ble_eq_true rfl) ?_
  refine ARun.pure (PureOp.move rfl (.tmp rfl)) rfl rfl (Nat.le_of_ble_eq_true rfl) ?_
  refine ARun.gpure (want := false) (.tf rfl) (fun hg1 => PureOp.move rfl (.tmp rfl)) rfl rfl (Nat.le_of_ble_eq_true rfl) rfl (Nat.le_of_ble_eq_true rfl) ?_
  refine ARun.gpure (want := false) (.tf rfl) (fun hg2 => PureOp.intOp rfl (.gtmp rfl hg2) .int rfl) rfl rfl (Nat.le_of_ble_eq_true rfl) rfl (Nat.le_of_ble_eq_true rfl) ?_
  refine ARun.pure (PureOp.pick rfl (.tmp rfl) (fun _ => .bool) (fun hp4 => .gtmp rfl (not_of hp4))) rfl rfl (Nat.le_of_ble_eq_true rfl) ?_
  refine ARun.pure (PureOp.move rfl (.tmp rfl)) rfl rfl (Nat.le_of_ble_eq_true rfl) ?_
  refine ARun.gpure (want := false) (.tf rfl) (fun hg5 => PureOp.move rfl (.tmp rfl)) rfl rfl (Nat.le_of_ble_eq_true rfl) rfl (Nat.le_of_ble_eq_true rfl) ?_
  refine ARun.gpure (want := false) (.tf rfl) (fun hg6 => PureOp.move rfl (.tmp rfl)) rfl rfl (Nat.le_of_ble_eq_true rfl) rfl (Nat.le_of_ble_eq_true rfl) ?_
  refine ARun.gpure (want := false) (.tf rfl) (fun hg7 => PureOp.lenLst rfl (.gtmp rfl hg7) vcu_sl_26) rfl rfl (Nat.le_of_ble_eq_true rfl) rfl (Nat.le_of_ble_eq_true rfl) ?_
  refine ARun.gpure (want := false) (.tf rfl) (fun hg8 => PureOp.intOp rfl (.gtmp rfl hg8) (.gtmp rfl hg8) rfl) rfl rfl (Nat.le_of_ble_eq_true rfl) rfl (Nat.le_of_ble_eq_true rfl) ?_
  refine ARun.pure (PureOp.pick rfl (.tmp rfl) (fun _ => .bool) (fun hp10 => .gtmp rfl (not_of hp10))) rfl rfl (Nat.le_of_ble_eq_true rfl) ?_
  refine ARun.nil ?_
  refine AW.cond (.tmp rfl) (fun hb11 => ?_) (fun hb11 => ?_)
  · have _u := True.intro
    have _h := hb11
    refine AW.seq ?_
    refine AW.region ?_
    refine ARun.pure (PureOp.assign rfl .con) rfl rfl (Nat.le_of_ble_eq_true rfl) ?_
    refine ARun.pure (PureOp.assign rfl .bool) rfl rfl (Nat.le_of_ble_eq_true rfl) ?_
    refine ARun.nil ?_
    rw [cut_no ((cutS hb11).2 rfl)]
    exact AW.ret (show ∃ s t, ResL _ _ [.tmp 6, .tmp 7] s ∧ TvS _ (ofLeaf t) 0 s _ from ⟨_, fun a b => 1000, .inr (.inl ⟨_, _, _, _, rfl, .tmp rfl, .tmp rfl, rfl⟩), ⟨.nil, .bool⟩⟩)
  · have _u := True.intro
    have hok := (cutS hb11).1 rfl
    obtain ⟨hg, hka, hkb⟩ := id hok
    obtain ⟨gn1, gn2, glen, _⟩ := goodEvs_get hg
    have hkl : k.toNat < l.length := by omega
    have hke : ((k.toNat : Nat) : Int) = k := Int.toNat_of_nonneg hka
    have hfl := first_len hg hkl
    refine AW.skip ?_
    refine AW.seq ?_
    refine AW.region ?_
    refine ARun.pure (PureOp.move rfl (.tmp rfl)) rfl rfl (Nat.le_of_ble_eq_true rfl) ?_
    refine ARun.make (id := 0) (n := n.toNat) (l := [.int .i64 0]) (z := (.int .i64 0)) (by_ := 8) rfl (by kernel_rfl) (fun _ _ _ => ⟨_, _, rfl, rfl, rfl⟩) (.tmp rfl) (.tmp rfl) (Int.toNat_of_nonneg (by omega)).symm (Int.toNat_of_nonneg (by omega)).symm (by omega) (by omega) (by decide) ⟨rfl, (by repeat first | exact trivial | refine ⟨by decide, by first | rfl | exact trivial | (intro i j; first | rfl | exact getD_no rfl | (dsimp only; split <;> first | rfl | exact getD_no rfl) | exact scl_no (by apply_assumption) _), ?_⟩)⟩ rfl rfl rfl (Nat.le_of_ble_eq_true rfl) ?_
    refine ARun.pure (PureOp.assign rfl (.tmp rfl)) rfl rfl (Nat.le_of_ble_eq_true rfl) ?_
    refine ARun.nil ?_
    refine AW.seq ?_
    refine AW.region ?_
    refine ARun.pure (PureOp.move rfl (.tmp rfl)) rfl rfl (Nat.le_of_ble_eq_true rfl) ?_
    refine ARun.pure (PureOp.move rfl (.tmp rfl)) rfl rfl (Nat.le_of_ble_eq_true rfl) ?_
    refine ARun.fresh (FreshOp.callS rfl (v_AtI n l hg) ⟨⟨_, (.tmp rfl), .int⟩, ⟨_, (.tmp rfl), .lst⟩, trivial⟩ vcu_ca_54 rfl) rfl rfl (Nat.le_of_ble_eq_true rfl) ?_
    refine ARun.pure (PureOp.assign rfl (.tmp rfl)) rfl rfl (Nat.le_of_ble_eq_true rfl) ?_
    refine ARun.nil ?_
    refine AW.seq ?_
    refine AW.seq ?_
    refine AW.region ?_
    refine ARun.pure (PureOp.move rfl (.tmp rfl)) rfl rfl (Nat.le_of_ble_eq_true rfl) ?_
    refine ARun.pure (PureOp.move rfl (.tmp rfl)) rfl rfl (Nat.le_of_ble_eq_true rfl) ?_
    refine ARun.prod (K := 1) rfl (v_FirstI n l hg k hke hkl) ⟨rfl, (by repeat first | exact trivial | refine ⟨by decide, by first | rfl | exact trivial | (intro i j; first | rfl | exact getD_no rfl | (dsimp only; split <;> first | rfl | exact getD_no rfl) | exact scl_no (by apply_assumption) _), ?_⟩)⟩ ⟨⟨_, (.tmp rfl), .lst⟩, ⟨_, (.tmp rfl), .int⟩, trivial⟩ vcu_ca_46 rfl rfl rfl rfl rfl (Nat.le_of_ble_eq_true rfl) ?_
    refine ARun.openRow 33 1 0 1 1 ((firstV l k.toNat).length) 2 _ (fun ii_ _ => .int .i64 ((firstV l k.toNat).getD ii_ 0)) rfl rfl (by decide) rfl (fun ia ja hi hj => match ja, hj with | 0, _ => rfl | _ + 1, h => absurd h (by omega)) (fun i j => by first | rfl | exact getD_no rfl) ⟨rfl, (by repeat first | exact trivial | refine ⟨by decide, by first | rfl | exact trivial | (intro i j; first | rfl | exact getD_no rfl | (dsimp only; split <;> first | rfl | exact getD_no rfl) | exact scl_no (by apply_assumption) _), ?_⟩)⟩ ?_
    refine ARun.pure (PureOp.move rfl (.tmp rfl)) rfl rfl (Nat.le_of_ble_eq_true rfl) ?_
    refine ARun.slice1 (id := 3) (z := (.int .i64 0)) (by_ := 8) rfl (.tmp rfl) trivial (by kernel_rfl) rfl rfl (by decide) (by decide) ⟨rfl, (by repeat first | exact trivial | refine ⟨by decide, by first | rfl | exact trivial | (intro i j; first | rfl | exact getD_no rfl | (dsimp only; split <;> first | rfl | exact getD_no rfl) | exact scl_no (by apply_assumption) _), ?_⟩)⟩ rfl rfl rfl (Nat.le_of_ble_eq_true rfl) ?_
    refine ARun.append (id := 4) (sz := 1) (n := (firstV l k.toNat).length) (m := 1) (by_ := 8) (z := (.int .i64 0)) (f := fun ii_ _ => .int .i64 ((firstV l k.toNat).getD ii_ 0)) (g := fun _ jc => ([.int .i64 k] : List AV).getD jc (.con undef)) (h := fun ia ja => if ia < (firstV l k.toNat).length then (fun ii_ _ => .int .i64 ((firstV l k.toNat).getD ii_ 0)) ia ja else (fun _ jc => ([.int .i64 k] : List AV).getD jc (.con undef)) (ia - (firstV l k.toNat).length) ja) rfl (by kernel_rfl) rfl vcu_sl_30 (.own (.tmp rfl) rfl rfl rfl (Nat.le_refl _) (fun _ _ _ _ => rfl)) (.own (.tmp rfl) rfl rfl (Nat.le_refl _) (fun _ _ _ _ => rfl)) (by decide) (fun i j hi hj => match j, hj with | 0, _ => rfl | _ + 1, h => absurd h (by omega)) (fun _ _ _ _ => rfl) (by omega) (by omega) ⟨rfl, (by repeat first | exact trivial | refine ⟨by decide, by first | rfl | exact trivial | (intro i j; first | rfl | exact getD_no rfl | (dsimp only; split <;> first | rfl | exact getD_no rfl) | exact scl_no (by apply_assumption) _), ?_⟩)⟩ (fun i j => by dsimp only; (repeat' split) <;> first | rfl | exact getD_no rfl) rfl rfl (Nat.le_of_ble_eq_true rfl) ?_
    refine ARun.pure (PureOp.lenOwn rfl (.tmp rfl) vcu_sl_30) rfl rfl (Nat.le_of_ble_eq_true rfl) ?_
    refine ARun.pure (PureOp.move rfl .int) rfl rfl (Nat.le_of_ble_eq_true rfl) ?_
    refine ARun.nil ?_
    refine AW.block ?_
    refine AW.loop (ι := Nat) (fun t => ⟨[(1, .one (.lst 2 l.length (fun i0 j0 => ([.int .i64 ((l.getD i0 (default : GEvent)).a), .int .i64 ((l.getD i0 (default : GEvent)).b)] : List AV).getD j0 (.con undef)))), (8, .one (.own 0 1 n.toNat)), (9, .one (.frs (.lst 1 ((atL l l.length).length) (fun i0 _ => .int .i64 ((atL l l.length).getD i0 0))))), (36, .one (.own 4 1 ((firstV l k.toNat ++ [(k.toNat : Int)]).length))), (37, .one (.int .i64 ((((firstV l k.toNat).length + 1) : Nat) : Int))), (38, .one (.int .i64 (t : Int)))], [(0, .arr 1 n.toNat (fun ii_ _ => .int .i64 (cutF l (firstV l k.toNat ++ [(k.toNat : Int)]) t ii_))), (4, .arr 1 ((firstV l k.toNat ++ [(k.toNat : Int)]).length) (fun ii_ _ => .int .i64 ((firstV l k.toNat ++ [(k.toNat : Int)]).getD ii_ 0)))]⟩) (fun t => t ≤ (firstV l k.toNat ++ [(k.toNat : Int)]).length) (fun t => (firstV l k.toNat ++ [(k.toNat : Int)]).length - t) 0 (Nat.zero_le _) ⟨⟨⟨_, rfl, rfl⟩, ⟨_, rfl, rfl⟩, ⟨_, rfl, rfl⟩, ⟨_, rfl, congrArg (fun z : Nat => SV.one (.own 4 1 z)) (by rw [List.length_append]; rfl)⟩, ⟨_, rfl, rfl⟩, ⟨_, rfl, rfl⟩, trivial⟩, ⟨⟨_, rfl, rfl, Nat.le_refl _, fun ja jb _ (hb : jb < 1) => by obtain rfl : jb = 0 := (by omega); rfl⟩, ⟨_, rfl, rfl, Nat.le_of_eq (by simp only [AObj.n]; rw [List.length_append]; rfl), fun ja jb (hi : ja < (firstV l k.toNat ++ [(k.toNat : Int)]).length) (hb : jb < 1) => by
      obtain rfl : jb = 0 := by omega
      rw [List.length_append] at hi
      exact first_app hke hi⟩, trivial⟩⟩ ?_
    intro t ht
    refine AW.seq ?_
    refine AW.region ?_
    refine ARun.pure (PureOp.intOp rfl (.tmp rfl) (.tmp rfl) rfl) rfl rfl (Nat.le_of_ble_eq_true rfl) ?_
    refine ARun.nil ?_
    refine AW.seq ?_
    refine AW.cond (.tmp rfl) (fun hb12 => ?_) (fun hb12 => ?_)
    · have _u := True.intro
      have hFK : (firstV l k.toNat ++ [(k.toNat : Int)]).length = (firstV l k.toNat).length + 1 := by rw [List.length_append, List.length_singleton]
      have htl : t < (firstV l k.toNat ++ [(k.toNat : Int)]).length := by have q := of_decide_eq_true hb12; omega
      obtain ⟨i, hfi0, hil⟩ := first_mem hg hkl htl
      have hfi : AV.int .i64 ((firstV l k.toNat ++ [(k.toNat : Int)]).getD t 0) = AV.int .i64 (i : Int) := congrArg (fun z : Int => AV.int .i64 z) hfi0
      have hni : 0 ≤ (l.getD i (default : GEvent)).a ∧ (l.getD i (default : GEvent)).a.toNat < n.toNat := ev_bd hg hil
      have hni1 := hni.1
      have hni2 := hni.2
      refine AW.skip ?_
      refine AW.seq ?_
      refine AW.block ?_
      refine AW.seq ?_
      refine AW.region ?_
      refine ARun.pure (PureOp.indexOwn (i := t) rfl (.tmp rfl) vcu_el_30_1 (.tmp rfl) rfl (show t < (firstV l k.toNat ++ [(k.toNat : Int)]).length from htl)) rfl rfl (Nat.le_of_ble_eq_true rfl) ?_
      refine ARun.pure (PureOp.loadPtrE (y := .int .i64 (i : Int)) rfl (.tmp rfl) vcu_pl_3 rfl rfl (show t < (firstV l k.toNat ++ [(k.toNat : Int)]).length from htl) (Nat.le_of_ble_eq_true rfl) hfi) rfl rfl (Nat.le_of_ble_eq_true rfl) ?_
      refine ARun.pure (PureOp.assign rfl (.tmp rfl)) rfl rfl (Nat.le_of_ble_eq_true rfl) ?_
      refine ARun.nil ?_
      refine AW.seq ?_
      refine AW.any (by kernel_rfl) (by kernel_rfl) ?_
      refine AD.pure (PureOp.move rfl (.tmp rfl)) rfl rfl (Nat.le_of_ble_eq_true rfl) ?_
      refine AD.pure (PureOp.move rfl (.tmp rfl)) rfl rfl (Nat.le_of_ble_eq_true rfl) ?_
      refine AD.pure (PureOp.indexLst (i := i) rfl (.frs (.tmp rfl)) vcu_el_30_1 (.tmp rfl) rfl (by try simp only [atL_len]; omega)) rfl rfl (Nat.le_of_ble_eq_true rfl) ?_
      refine AD.pure (PureOp.loadRef rfl (.tmp rfl) vcu_pl_3 (Nat.le_of_ble_eq_true rfl)) rfl rfl (Nat.le_of_ble_eq_true rfl) ?_
      refine AD.pure (PureOp.move rfl (.tmp rfl)) rfl rfl (Nat.le_of_ble_eq_true rfl) ?_
      refine AD.pure (PureOp.move rfl (.tmp rfl)) rfl rfl (Nat.le_of_ble_eq_true rfl) ?_
      refine AD.pure (PureOp.move rfl (.tmp rfl)) rfl rfl (Nat.le_of_ble_eq_true rfl) ?_
      refine AD.pure (PureOp.indexLst (i := i) rfl (.tmp rfl) vcu_el_26_2 (.tmp rfl) rfl (by omega)) rfl rfl (Nat.le_of_ble_eq_true rfl) ?_
      refine AD.pure (PureOp.fieldRef rfl (.tmp rfl) vcu_fi_64_0_0 (Nat.le_of_ble_eq_true rfl)) rfl rfl (Nat.le_of_ble_eq_true rfl) ?_
      refine AD.pure (PureOp.loadRef rfl (.tmp rfl) vcu_pl_3 (Nat.le_of_ble_eq_true rfl)) rfl rfl (Nat.le_of_ble_eq_true rfl) ?_
      refine AD.pure (PureOp.indexOwn (i := ((l.getD i (default : GEvent)).a).toNat) rfl (.tmp rfl) vcu_el_30_1 (.tmp rfl) (by omega) (by omega)) rfl rfl (Nat.le_of_ble_eq_true rfl) ?_
      refine AD.pure (PureOp.loadPtr rfl (.tmp rfl) vcu_pl_3 rfl rfl (show _ < n.toNat from hni2) (Nat.le_of_ble_eq_true rfl)) rfl rfl (Nat.le_of_ble_eq_true rfl) ?_
      refine AD.pure (PureOp.intOp rfl (.tmp rfl) (.tmp rfl) rfl) rfl rfl (Nat.le_of_ble_eq_true rfl) ?_
      refine AD.nil ?_
      refine AW.cond (.tmp rfl) (fun hb13 => ?_) (fun hb13 => ?_)
      · have _u := True.intro
        replace hb13 := of_decide_eq_true hb13
        rw [atL_at hil] at hb13
        have hbd := hb13
        refine AW.anyC 11 (by kernel_rfl) (Nat.le_of_ble_eq_true rfl) (by kernel_rfl) ?_
        refine ADC.pure (PureOp.move rfl (.tmp rfl)) rfl rfl (Nat.le_of_ble_eq_true rfl) rfl ?_
        refine ADC.pure (PureOp.move rfl (.tmp rfl)) rfl rfl (Nat.le_of_ble_eq_true rfl) rfl ?_
        refine ADC.pure (PureOp.move rfl (.tmp rfl)) rfl rfl (Nat.le_of_ble_eq_true rfl) rfl ?_
        refine ADC.pure (PureOp.indexLst (i := i) rfl (.tmp rfl) vcu_el_26_2 (.tmp rfl) rfl (by omega)) rfl rfl (Nat.le_of_ble_eq_true rfl) rfl ?_
        refine ADC.pure (PureOp.fieldRef rfl (.tmp rfl) vcu_fi_64_0_0 (Nat.le_of_ble_eq_true rfl)) rfl rfl (Nat.le_of_ble_eq_true rfl) rfl ?_
        refine ADC.pure (PureOp.loadRef rfl (.tmp rfl) vcu_pl_3 (Nat.le_of_ble_eq_true rfl)) rfl rfl (Nat.le_of_ble_eq_true rfl) rfl ?_
        refine ADC.pure (PureOp.move rfl (.tmp rfl)) rfl rfl (Nat.le_of_ble_eq_true rfl) rfl ?_
        refine ADC.pure (PureOp.move rfl (.tmp rfl)) rfl rfl (Nat.le_of_ble_eq_true rfl) rfl ?_
        refine ADC.pure (PureOp.indexLst (i := i) rfl (.frs (.tmp rfl)) vcu_el_30_1 (.tmp rfl) rfl (by try simp only [atL_len]; omega)) rfl rfl (Nat.le_of_ble_eq_true rfl) rfl ?_
        refine ADC.pure (PureOp.loadRef rfl (.tmp rfl) vcu_pl_3 (Nat.le_of_ble_eq_true rfl)) rfl rfl (Nat.le_of_ble_eq_true rfl) rfl ?_
        refine ADC.pure (PureOp.indexOwn (i := ((l.getD i (default : GEvent)).a).toNat) rfl (.tmp rfl) vcu_el_30_1 (.tmp rfl) (by omega) (by omega)) rfl rfl (Nat.le_of_ble_eq_true rfl) rfl ?_
        refine ADC.tail ?_
        refine ARun.storeElem rfl (.tmp rfl) (.tmp rfl) trivial rfl (show _ < n.toNat from hni2) rfl vcu_sz_3_1 rfl rfl ?_
        refine ARun.nil ?_
        refine AW.region ?_
        refine ARun.pure (PureOp.add (c := ((t + 1 : Nat) : Int)) rfl (.tmp rfl) .int (by rw [wrap_id (by omega) (by omega)]; omega)) rfl rfl (Nat.le_of_ble_eq_true rfl) ?_
        refine ARun.pure (PureOp.move rfl (.tmp rfl)) rfl rfl (Nat.le_of_ble_eq_true rfl) ?_
        refine ARun.nil ?_
        exact ⟨t + 1, by omega, by dsimp only; omega, ⟨⟨⟨_, rfl, rfl⟩, ⟨_, rfl, rfl⟩, ⟨_, rfl, rfl⟩, ⟨_, rfl, rfl⟩, ⟨_, rfl, rfl⟩, ⟨_, rfl, rfl⟩, trivial⟩, ⟨⟨_, rfl, rfl, Nat.le_refl _, fun ja jb _ (hb : jb < 1) => by
      obtain rfl : jb = 0 := by omega
      show (if ja = _ then ([AV.int .i64 _] : List AV).getD 0 (.con undef) else AV.int .i64 _) = AV.int .i64 _
      rw [← cut_set (j := ja) hfi0 hni.1 hbd]
      by_cases hj : ja = (l.getD i (default : GEvent)).a.toNat
      · rw [if_pos hj, if_pos hj]; exact congrArg (fun z : Int => AV.int .i64 z) (atL_at hil)
      · rw [if_neg hj, if_neg hj]⟩, ⟨_, rfl, rfl, Nat.le_refl _, fun _ _ _ _ => rfl⟩, trivial⟩⟩⟩
      · have _u := True.intro
        replace hb13 := of_decide_eq_false hb13
        rw [atL_at hil] at hb13
        have hbd := hb13
        refine AW.skip ?_
        refine AW.region ?_
        refine ARun.pure (PureOp.add (c := ((t + 1 : Nat) : Int)) rfl (.tmp rfl) .int (by rw [wrap_id (by omega) (by omega)]; omega)) rfl rfl (Nat.le_of_ble_eq_true rfl) ?_
        refine ARun.pure (PureOp.move rfl (.tmp rfl)) rfl rfl (Nat.le_of_ble_eq_true rfl) ?_
        refine ARun.nil ?_
        exact ⟨t + 1, by omega, by dsimp only; omega, ⟨⟨⟨_, rfl, rfl⟩, ⟨_, rfl, rfl⟩, ⟨_, rfl, rfl⟩, ⟨_, rfl, rfl⟩, ⟨_, rfl, rfl⟩, ⟨_, rfl, rfl⟩, trivial⟩, ⟨⟨_, rfl, rfl, Nat.le_refl _, fun ja jb _ _ => (congrArg (fun z : Int => AV.int .i64 z) (cut_keep hfi0 hbd))⟩, ⟨_, rfl, rfl, Nat.le_refl _, fun _ _ _ _ => rfl⟩, trivial⟩⟩⟩
    · have _u := True.intro
      have hFK : (firstV l k.toNat ++ [(k.toNat : Int)]).length = (firstV l k.toNat).length + 1 := by rw [List.length_append, List.length_singleton]
      have htl : ¬ t < (firstV l k.toNat ++ [(k.toNat : Int)]).length := by have q := of_decide_eq_false hb12; omega
      have hte : t = (firstV l k.toNat ++ [(k.toNat : Int)]).length := by omega
      refine AW.exit ?_
      refine AW.seq ?_
      refine AW.region ?_
      refine ARun.pure (PureOp.move rfl (.tmp rfl)) rfl rfl (Nat.le_of_ble_eq_true rfl) ?_
      refine ARun.pure (PureOp.assign rfl (.tmp rfl)) rfl rfl (Nat.le_of_ble_eq_true rfl) ?_
      refine ARun.pure (PureOp.assign rfl .bool) rfl rfl (Nat.le_of_ble_eq_true rfl) ?_
      refine ARun.nil ?_
      rw [cut_yes hok]
      exact AW.ret (show ∃ s t, ResL _ _ [.tmp 6, .tmp 7] s ∧ TvS _ (ofLeaf t) 0 s _ from ⟨_, fun a b => if a = 0 then 0 else 1000, .inr (.inl ⟨_, _, _, _, rfl, .tmp rfl, .tmp rfl, rfl⟩), ⟨(Tv.flatN (rowV_len hg hkl) rfl rfl rfl (Nat.le_refl _) (by rfl) (fun ia ja hi hj => by rw [hte]; exact congrArg (fun z : Int => AV.int .i64 z) (cut_end hg hkl hi)) (fun ia ja hi hj => rfl)), .bool⟩⟩)

theorem v_iCut (n : Int) (l : List GEvent) (k : Int) (hn : I64 n) (hk : I64 k) : FnT Try.prog 30 [.one (.int .i64 n), .one (.lst 2 l.length (fun i0 j0 => ([.int .i64 ((l.getD i0 (default : GEvent)).a), .int .i64 ((l.getD i0 (default : GEvent)).b)] : List AV).getD j0 (.con undef))), .one (.int .i64 k)] (.tup2 (.one (.lst 1 (((cutV n l k).1).length) (fun i0 _ => .int .i64 (((cutV n l k).1).getD i0 0)))) (.one (.bool ((cutV n l k).2)))) := by
  obtain ⟨hn0, hn1⟩ := hn
  obtain ⟨hk0, hk1⟩ := hk
  refine FnT.of_body (fn := Try.f30) Try.func30 rfl (Nat.le_of_ble_eq_true rfl)  ?_
  intro w0
  show AW _ 26 _ _ _ _
  refine AW.bound (t := 1) rfl fun hx => ?_
  refine AW.seq ?_
  refine AW.region ?_
  refine ARun.pure (PureOp.assign rfl .con) rfl rfl (Nat.le_of_ble_eq_true rfl) ?_
  refine ARun.pure (PureOp.assign rfl .bool) rfl rfl (Nat.le_of_ble_eq_true rfl) ?_
  refine ARun.nil ?_
  refine AW.seq ?_
  refine AW.seq ?_
  refine AW.region ?_
  refine ARun.pure (PureOp.move rfl (.tmp rfl)) rfl rfl (Nat.le_of_ble_eq_true rfl) ?_
  refine ARun.pure (PureOp.move rfl (.tmp rfl)) rfl rfl (Nat.le_of_ble_eq_true rfl) ?_
  refine ARun.pure (PureOp.call rfl (v_areEvents n l ⟨by omega, by omega⟩) ⟨⟨_, (.tmp rfl), .int⟩, ⟨_, (.tmp rfl), .lst⟩, trivial⟩ vcu_ca_48 trivial) rfl rfl (Nat.le_of_ble_eq_true rfl) ?_
  refine ARun.pure (PureOp.not rfl (.tmp rfl)) rfl rfl (Nat.le_of_ble_eq_true rfl) ?_
  refine ARun.pure (PureOp.move rfl (.tmp rfl)) rfl rfl (Nat.le_of_ble_eq_true rfl) ?_
  refine ARun.gpure (want := false) (.tf rfl) (fun hg1 => PureOp.move rfl (.tmp rfl)) rfl rfl (Nat.le_of_ble_eq_true rfl) rfl (Nat.le_of_ble_eq_true rfl) ?_
  refine ARun.gpure (want := false) (.tf rfl) (fun hg2 => PureOp.move rfl (.tmp rfl)) rfl rfl (Nat.le_of_ble_eq_true rfl) rfl (Nat.le_of_ble_eq_true rfl) ?_
  refine ARun.gpure (want := false) (.tf rfl) (fun hg3 => PureOp.lenLst rfl (.gtmp rfl hg3) vcu_sl_26) rfl rfl (Nat.le_of_ble_eq_true rfl) rfl (Nat.le_of_ble_eq_true rfl) ?_
  refine ARun.gpure (want := false) (.tf rfl) (fun hg4 => PureOp.sub (c := (l.length : Int) - 1) rfl (.gtmp rfl hg4) .int (wrap_id (by omega) (by omega))) rfl rfl (Nat.le_of_ble_eq_true rfl) rfl (Nat.le_of_ble_eq_true rfl) ?_
  refine ARun.gpure (want := false) (.tf rfl) (fun hg5 => PureOp.call rfl (v_within k 0 ((l.length : Int) - 1)) ⟨⟨_, (.gtmp rfl hg5), .int⟩, ⟨_, .int, .int⟩, ⟨_, (.gtmp rfl hg5), .int⟩, trivial⟩ vcu_ca_49 trivial) rfl rfl (Nat.le_of_ble_eq_true rfl) rfl (Nat.le_of_ble_eq_true rfl) ?_
  refine ARun.gpure (want := false) (.tf rfl) (fun hg6 => PureOp.not rfl (.gtmp rfl hg6)) rfl rfl (Nat.le_of_ble_eq_true rfl) rfl (Nat.le_of_ble_eq_true rfl) ?_
  refine ARun.pure (PureOp.pick rfl (.tmp rfl) (fun _ => .bool) (fun hp8 => .gtmp rfl (not_of hp8))) rfl rfl (Nat.le_of_ble_eq_true rfl) ?_
  refine ARun.nil ?_
  refine AW.cond (.tmp rfl) (fun hb9 => ?_) (fun hb9 => ?_)
  · have _u := True.intro
    have _h := hb9
    refine AW.seq ?_
    refine AW.region ?_
    refine ARun.pure (PureOp.assign rfl .con) rfl rfl (Nat.le_of_ble_eq_true rfl) ?_
    refine ARun.pure (PureOp.assign rfl .bool) rfl rfl (Nat.le_of_ble_eq_true rfl) ?_
    refine ARun.nil ?_
    rw [cut_no ((cutI hb9).2 rfl)]
    exact AW.ret (show ∃ s t, ResL _ _ [.tmp 6, .tmp 7] s ∧ TvS _ (ofLeaf t) 0 s _ from ⟨_, fun a b => 1000, .inr (.inl ⟨_, _, _, _, rfl, .tmp rfl, .tmp rfl, rfl⟩), ⟨.nil, .bool⟩⟩)
  · have _u := True.intro
    have hok := (cutI hb9).1 rfl
    obtain ⟨hg, hka, hkb⟩ := id hok
    obtain ⟨gn1, gn2, glen, _⟩ := goodEvs_get hg
    have hkl : k.toNat < l.length := by omega
    have hke : ((k.toNat : Nat) : Int) = k := Int.toNat_of_nonneg hka
    refine AW.skip ?_
    refine AW.seq ?_
    refine AW.region ?_
    refine ARun.pure (PureOp.move rfl (.tmp rfl)) rfl rfl (Nat.le_of_ble_eq_true rfl) ?_
    refine ARun.pure (PureOp.move rfl (.tmp rfl)) rfl rfl (Nat.le_of_ble_eq_true rfl) ?_
    refine ARun.prod (K := 0) rfl (v_ClocksI n l hg) ⟨rfl, (by repeat first | exact trivial | refine ⟨by decide, by first | rfl | exact trivial | (intro i j; first | rfl | exact getD_no rfl | (dsimp only; split <;> first | rfl | exact getD_no rfl) | exact scl_no (by apply_assumption) _), ?_⟩)⟩ ⟨⟨_, (.tmp rfl), .int⟩, ⟨_, (.tmp rfl), .lst⟩, trivial⟩ vcu_ca_50 rfl rfl rfl rfl rfl (Nat.le_of_ble_eq_true rfl) ?_
    refine ARun.openRow2 22 0 0 1 ((ckTo n.toNat l l.length).length) 1 2 _ (fun i0 _ => .lst 1 ((ckTo n.toNat l l.length).getD i0 []).length (fun i1 _ => .int .i64 (((ckTo n.toNat l l.length).getD i0 []).getD i1 0))) rfl rfl (by decide) rfl (fun i_ hi_ => ⟨_, _, _, rfl⟩) ⟨rfl, (by repeat first | exact trivial | refine ⟨by decide, by first | rfl | exact trivial | (intro i j; first | rfl | exact getD_no rfl | (dsimp only; split <;> first | rfl | exact getD_no rfl) | exact scl_no (by apply_assumption) _), ?_⟩)⟩ ⟨rfl, (by repeat first | exact trivial | refine ⟨by decide, by first | rfl | exact trivial | (intro i j; first | rfl | exact getD_no rfl | (dsimp only; split <;> first | rfl | exact getD_no rfl) | exact scl_no (by apply_assumption) _), ?_⟩)⟩ (by decide) ?_
    refine ARun.pure (PureOp.move rfl (.tmp rfl)) rfl rfl (Nat.le_of_ble_eq_true rfl) ?_
    refine ARun.pure (PureOp.indexOwn (i := k.toNat) rfl (.tmp rfl) vcu_el_40_1 (.tmp rfl) hke.symm (by rw [ckTo_len]; exact hkl)) rfl rfl (Nat.le_of_ble_eq_true rfl) ?_
    refine ARun.pure (PureOp.loadPtr rfl (.tmp rfl) vcu_pl_30 rfl rfl (by show k.toNat < (ckTo n.toNat l l.length).length; rw [ckTo_len]; exact hkl) (Nat.le_of_ble_eq_true rfl)) rfl rfl (Nat.le_of_ble_eq_true rfl) ?_
    refine ARun.pure (PureOp.assign rfl (.tmp rfl)) rfl rfl (Nat.le_of_ble_eq_true rfl) ?_
    refine ARun.pure (PureOp.assign rfl .bool) rfl rfl (Nat.le_of_ble_eq_true rfl) ?_
    refine ARun.nil ?_
    rw [cut_yes hok]
    exact AW.ret (show ∃ s t, ResL _ _ [.tmp 6, .tmp 7] s ∧ TvS _ (ofLeaf t) 0 s _ from ⟨_, fun a b => if a = 2 then 0 else 1000, .inr (.inl ⟨_, _, _, _, rfl, .tmp rfl, .tmp rfl, rfl⟩), ⟨(Tv.cast (Tv.tre rfl (by show k.toNat < (ckTo n.toNat l l.length).length; rw [ckTo_len]; exact hkl) (by rfl)) rfl), .bool⟩⟩)
end Go.Proofs.Ytmkhahiefdcinaa

/-
  CameFirst: the reference and the program answer the same.
-/
namespace Go.Proofs.Ytmkhahiefdcinaa
open Go.ChangeShapes Go.WideShapes Go.ChangeAt Go.RowKit Go.BigFrame Go.Deep
set_option linter.unusedVariables false
set_option linter.unusedSimpArgs false
theorem vcq_ca_44 : callB Try.prog 44 = true := by kernel_rfl
theorem vcq_ca_45 : callB Try.prog 45 = true := by kernel_rfl
theorem vcq_ca_46 : callB Try.prog 46 = true := by kernel_rfl
theorem vcq_ca_48 : callB Try.prog 48 = true := by kernel_rfl
theorem vcq_ca_49 : callB Try.prog 49 = true := by kernel_rfl
theorem vcq_ca_50 : callB Try.prog 50 = true := by kernel_rfl
theorem vcq_el_26_2 : elemB Try.prog 26 2 = true := by kernel_rfl
theorem vcq_el_30_1 : elemB Try.prog 30 1 = true := by kernel_rfl
theorem vcq_el_40_1 : elemB Try.prog 40 1 = true := by kernel_rfl
theorem vcq_fi_64_0_0 : fieldB Try.prog 64 0 0 = true := by kernel_rfl
theorem vcq_pl_3 : plainB Try.prog 3 = true := by kernel_rfl
theorem vcq_pl_30 : plainB Try.prog 30 = true := by kernel_rfl
theorem vcq_sl_26 : sliceB Try.prog 26 = true := by kernel_rfl
def cfOk (n : Int) (l : List GEvent) (a b : Int) : Prop := goodEvs n l = true ∧ (0 ≤ a ∧ a < l.length) ∧ 0 ≤ b ∧ b < l.length
open Classical in
noncomputable def cfV (n : Int) (l : List GEvent) (a b : Int) : Bool × Bool := if cfOk n l a b then ((firstV l b.toNat).contains a, true) else (false, false)
theorem cf_no {n : Int} {l : List GEvent} {a b : Int} (h : ¬ cfOk n l a b) : cfV n l a b = (false, false) := if_neg h
theorem cf_yes {n : Int} {l : List GEvent} {a b : Int} (h : cfOk n l a b) : cfV n l a b = ((firstV l b.toNat).contains a, true) := if_pos h
theorem cfS {n : Int} {l : List GEvent} {a b : Int} {p : Bool} (h : cond (cond (cond (cond (!goodEvs n l) true (decide (a < 0))) true (decide ((l.length : Int) ≤ a))) true (decide (b < 0))) true (decide ((l.length : Int) ≤ b)) = p) : (p = false → cfOk n l a b) ∧ (p = true → ¬ cfOk n l a b) := by
  unfold cfOk
  by_cases h1 : goodEvs n l = true <;> by_cases h2 : a < 0 <;> by_cases h3 : (l.length : Int) ≤ a <;> by_cases h4 : b < 0 <;> by_cases h5 : (l.length : Int) ≤ b <;> simp [h1, h2, h3, h4, h5] at h <;> subst h <;> simp [h1, h2, h3, h4, h5] <;> omega
theorem cfI {n : Int} {l : List GEvent} {a b : Int} {p : Bool} (h : cond (cond (!goodEvs n l) true (!inB 0 ((l.length : Int) - 1) a)) true (!inB 0 ((l.length : Int) - 1) b) = p) : (p = false → cfOk n l a b) ∧ (p = true → ¬ cfOk n l a b) := by
  unfold cfOk inB at *
  by_cases h1 : goodEvs n l = true <;> by_cases h2 : 0 ≤ a <;> by_cases h3 : a ≤ (l.length : Int) - 1 <;> by_cases h4 : 0 ≤ b <;> by_cases h5 : b ≤ (l.length : Int) - 1 <;> simp [h1, h2, h3, h4, h5] at h <;> subst h <;> simp [h1, h2, h3, h4, h5] <;> omega
theorem cf_end {n : Int} {l : List P2} (hg : goodEvs n l = true) {a b : Int} (ha : 0 ≤ a ∧ a < l.length) (hb : 0 ≤ b ∧ b < l.length) : cond (!decide (a = b)) (decide (((ckTo n.toNat l l.length).getD a.toNat []).getD (l.getD a.toNat (default : GEvent)).a.toNat 0 ≤ ((ckTo n.toNat l l.length).getD b.toNat []).getD (l.getD a.toNat (default : GEvent)).a.toNat 0)) false = (firstV l b.toNat).contains a := by
  obtain ⟨h1, _⟩ := goodEvs_get hg
  obtain ⟨N, rfl⟩ : ∃ N : Nat, n = N := ⟨n.toNat, (Int.toNat_of_nonneg (by omega)).symm⟩
  obtain ⟨A, rfl⟩ : ∃ A : Nat, a = A := ⟨a.toNat, (Int.toNat_of_nonneg ha.1).symm⟩
  obtain ⟨B, rfl⟩ : ∃ B : Nat, b = B := ⟨b.toNat, (Int.toNat_of_nonneg hb.1).symm⟩
  simp only [Int.toNat_natCast]
  rw [came_first hg (a := A) (b := B) (by omega) (by omega)]
  have e : decide ((A : Int) = (B : Int)) = decide (A = B) := decide_eq_decide.2 (by omega)
  rw [e]
  have eA : clk N l (A : Int) (ev l A).a.toNat = ((ckTo N l l.length).getD A []).getD (l.getD A (default : GEvent)).a.toNat 0 := by unfold clk; rw [if_pos (by omega)]; rfl
  have eB : clk N l (B : Int) (ev l A).a.toNat = ((ckTo N l l.length).getD B []).getD (l.getD A (default : GEvent)).a.toNat 0 := by unfold clk; rw [if_pos (by omega)]; rfl
  show _ = (!decide (A = B) && decide (clk N l (A : Int) _ ≤ clk N l (B : Int) _))
  rw [eA, eB]
  cases decide (A = B) <;> rfl
theorem v_sCame (n : Int) (l : List GEvent) (a b : Int) (hn : I64 n) (ha : I64 a) (hb : I64 b) : Fn Try.prog 11 [.one (.int .i64 n), .one (.lst 2 l.length (fun i0 j0 => ([.int .i64 ((l.getD i0 (default : GEvent)).a), .int .i64 ((l.getD i0 (default : GEvent)).b)] : List AV).getD j0 (.con undef))), .one (.int .i64 a), .one (.int .i64 b)] (.tup2 (.one (.bool ((cfV n l a b).1))) (.one (.bool ((cfV n l a b).2)))) := by
  obtain ⟨hn0, hn1⟩ := hn
  obtain ⟨ha0, ha1⟩ := ha
  obtain ⟨hb0, hb1⟩ := hb
  refine Fn.of_body (fn := Try.f11) Try.func11 rfl (Nat.le_of_ble_eq_true rfl) ⟨trivial, trivial⟩ ?_
  intro w0
  show AW _ 39 _ _ _ _
  refine AW.bound (t := 1) rfl fun hx => ?_
  refine AW.seq ?_
  refine AW.region ?_
  refine ARun.pure (PureOp.assign rfl .bool) rfl rfl (Nat.le_of_ble_eq_true rfl) ?_
  refine ARun.pure (PureOp.assign rfl .bool) rfl rfl (Nat.le_of_ble_eq_true rfl) ?_
  refine ARun.nil ?_
  refine AW.seq ?_
  refine AW.seq ?_
  refine AW.region ?_
  refine ARun.pure (PureOp.move rfl (.tmp rfl)) rfl rfl (Nat.le_of_ble_eq_true rfl) ?_
  refine ARun.pure (PureOp.move rfl (.tmp rfl)) rfl rfl (Nat.le_of_ble_eq_true rfl) ?_
  refine ARun.pure (PureOp.call rfl (v_GoodEvents n l ⟨by omega, by omega⟩) ⟨⟨_, (.tmp rfl), .int⟩, ⟨_, (.tmp rfl), .lst⟩, trivial⟩ vcq_ca_44 trivial) rfl rfl (Nat.le_of_ble_eq_true rfl) ?_
  refine ARun.pure (PureOp.not rfl (.tmp rfl)) rfl rfl (Nat.le_of_ble_eq_true rfl) ?_
  refine ARun.pure (PureOp.move rfl (.tmp rfl)) rfl rfl (Nat.le_of_ble_eq_true rfl) ?_
  refine ARun.gpure (want := false) (.tf rfl) (fun hg1 => PureOp.move rfl (.tmp rfl)) rfl rfl (Nat.le_of_ble_eq_true rfl) rfl (Nat.le_of_ble_eq_true rfl) ?_
  refine ARun.gpure (want := false) (.tf rfl) (fun hg2 => PureOp.intOp rfl (.gtmp rfl hg2) .int rfl) rfl rfl (Nat.le_of_ble_eq_true rfl) rfl (Nat.le_of_ble_eq_true rfl) ?_
  refine ARun.pure (PureOp.pick rfl (.tmp rfl) (fun _ => .bool) (fun hp4 => .gtmp rfl (not_of hp4))) rfl rfl (Nat.le_of_ble_eq_true rfl) ?_
  refine ARun.pure (PureOp.move rfl (.tmp rfl)) rfl rfl (Nat.le_of_ble_eq_true rfl) ?_
  refine ARun.gpure (want := false) (.tf rfl) (fun hg5 => PureOp.move rfl (.tmp rfl)) rfl rfl (Nat.le_of_ble_eq_true rfl) rfl (Nat.le_of_ble_eq_true rfl) ?_
  refine ARun.gpure (want := false) (.tf rfl) (fun hg6 => PureOp.move rfl (.tmp rfl)) rfl rfl (Nat.le_of_ble_eq_true rfl) rfl (Nat.le_of_ble_eq_true rfl) ?_
  refine ARun.gpure (want := false) (.tf rfl) (fun hg7 => PureOp.lenLst rfl (.gtmp rfl hg7) vcq_sl_26) rfl rfl (Nat.le_of_ble_eq_true rfl) rfl (Nat.le_of_ble_eq_true rfl) ?_
  refine ARun.gpure (want := false) (.tf rfl) (fun hg8 => PureOp.intOp rfl (.gtmp rfl hg8) (.gtmp rfl hg8) rfl) rfl rfl (Nat.le_of_ble_eq_true rfl) rfl (Nat.le_of_ble_eq_true rfl) ?_
  refine ARun.pure (PureOp.pick rfl (.tmp rfl) (fun _ => .bool) (fun hp10 => .gtmp rfl (not_of hp10))) rfl rfl (Nat.le_of_ble_eq_true rfl) ?_
  refine ARun.pure (PureOp.move rfl (.tmp rfl)) rfl rfl (Nat.le_of_ble_eq_true rfl) ?_
  refine ARun.gpure (want := false) (.tf rfl) (fun hg11 => PureOp.move rfl (.tmp rfl)) rfl rfl (Nat.le_of_ble_eq_true rfl) rfl (Nat.le_of_ble_eq_true rfl) ?_
  refine ARun.gpure (want := false) (.tf rfl) (fun hg12 => PureOp.intOp rfl (.gtmp rfl hg12) .int rfl) rfl rfl (Nat.le_of_ble_eq_true rfl) rfl (Nat.le_of_ble_eq_true rfl) ?_
  refine ARun.pure (PureOp.pick rfl (.tmp rfl) (fun _ => .bool) (fun hp14 => .gtmp rfl (not_of hp14))) rfl rfl (Nat.le_of_ble_eq_true rfl) ?_
  refine ARun.pure (PureOp.move rfl (.tmp rfl)) rfl rfl (Nat.le_of_ble_eq_true rfl) ?_
  refine ARun.gpure (want := false) (.tf rfl) (fun hg15 => PureOp.move rfl (.tmp rfl)) rfl rfl (Nat.le_of_ble_eq_true rfl) rfl (Nat.le_of_ble_eq_true rfl) ?_
  refine ARun.gpure (want := false) (.tf rfl) (fun hg16 => PureOp.move rfl (.tmp rfl)) rfl rfl (Nat.le_of_ble_eq_true rfl) rfl (Nat.le_of_ble_eq_true rfl) ?_
  refine ARun.gpure (want := false) (.tf rfl) (fun hg17 => PureOp.lenLst rfl (.gtmp rfl hg17) vcq_sl_26) rfl rfl (Nat.le_of_ble_eq_true rfl) rfl (Nat.le_of_ble_eq_true rfl) ?_
  refine ARun.gpure (want := false) (.tf rfl) (fun hg18 => PureOp.intOp rfl (.gtmp rfl hg18) (.gtmp rfl hg18) rfl) rfl rfl (Nat.le_of_ble_eq_true rfl) rfl (Nat.le_of_ble_eq_true rfl) ?_
  refine ARun.pure (PureOp.pick rfl (.tmp rfl) (fun _ => .bool) (fun hp20 => .gtmp rfl (not_of hp20))) rfl rfl (Nat.le_of_ble_eq_true rfl) ?_
  refine ARun.nil ?_
  refine AW.cond (.tmp rfl) (fun hb21 => ?_) (fun hb21 => ?_)
  · have _u := True.intro
    have _h := hb21
    refine AW.seq ?_
    refine AW.region ?_
    refine ARun.pure (PureOp.assign rfl .bool) rfl rfl (Nat.le_of_ble_eq_true rfl) ?_
    refine ARun.pure (PureOp.assign rfl .bool) rfl rfl (Nat.le_of_ble_eq_true rfl) ?_
    refine ARun.nil ?_
    refine AW.ret (show ResL _ _ [.tmp 8, .tmp 9] _ from res2B rfl rfl ?_)
    rw [cf_no ((cfS hb21).2 rfl)]
    exact ⟨rfl, rfl⟩
  · have _u := True.intro
    have hok := (cfS hb21).1 rfl
    obtain ⟨hg, haa, hbb⟩ := id hok
    obtain ⟨gn1, gn2, glen, _⟩ := goodEvs_get hg
    have hal : a.toNat < l.length := by omega
    have hbl : b.toNat < l.length := by omega
    have hae : ((a.toNat : Nat) : Int) = a := Int.toNat_of_nonneg haa.1
    have hbe : ((b.toNat : Nat) : Int) = b := Int.toNat_of_nonneg hbb.1
    have hni : 0 ≤ (l.getD a.toNat (default : GEvent)).a ∧ (l.getD a.toNat (default : GEvent)).a.toNat < n.toNat := ev_bd hg hal
    have hni2 := hni.2
    have hnd := (Int.toNat_of_nonneg hni.1).symm
    refine AW.skip ?_
    refine AW.seq ?_
    refine AW.region ?_
    refine ARun.pure (PureOp.move rfl (.tmp rfl)) rfl rfl (Nat.le_of_ble_eq_true rfl) ?_
    refine ARun.pure (PureOp.move rfl (.tmp rfl)) rfl rfl (Nat.le_of_ble_eq_true rfl) ?_
    refine ARun.fresh (FreshOp.callS rfl (FnT.toF (v_FirstI n l hg b hbe hbl)) ⟨⟨_, (.tmp rfl), .lst⟩, ⟨_, (.tmp rfl), .int⟩, trivial⟩ vcq_ca_46 rfl) rfl rfl (Nat.le_of_ble_eq_true rfl) ?_
    refine ARun.pure (PureOp.move rfl (.tmp rfl)) rfl rfl (Nat.le_of_ble_eq_true rfl) ?_
    refine ARun.pure (PureOp.call rfl (v_Has (firstV l b.toNat) a) ⟨⟨_, (.tmp rfl), .frs⟩, ⟨_, (.tmp rfl), .int⟩, trivial⟩ vcq_ca_45 trivial) rfl rfl (Nat.le_of_ble_eq_true rfl) ?_
    refine ARun.pure (PureOp.assign rfl (.tmp rfl)) rfl rfl (Nat.le_of_ble_eq_true rfl) ?_
    refine ARun.pure (PureOp.assign rfl .bool) rfl rfl (Nat.le_of_ble_eq_true rfl) ?_
    refine ARun.nil ?_
    refine AW.ret (show ResL _ _ [.tmp 8, .tmp 9] _ from res2B rfl rfl ?_)
    rw [cf_yes hok]
    exact ⟨rfl, rfl⟩

theorem v_iCame (n : Int) (l : List GEvent) (a b : Int) (hn : I64 n) (ha : I64 a) (hb : I64 b) : Fn Try.prog 13 [.one (.int .i64 n), .one (.lst 2 l.length (fun i0 j0 => ([.int .i64 ((l.getD i0 (default : GEvent)).a), .int .i64 ((l.getD i0 (default : GEvent)).b)] : List AV).getD j0 (.con undef))), .one (.int .i64 a), .one (.int .i64 b)] (.tup2 (.one (.bool ((cfV n l a b).1))) (.one (.bool ((cfV n l a b).2)))) := by
  obtain ⟨hn0, hn1⟩ := hn
  obtain ⟨ha0, ha1⟩ := ha
  obtain ⟨hb0, hb1⟩ := hb
  refine Fn.of_body (fn := Try.f13) Try.func13 rfl (Nat.le_of_ble_eq_true rfl) ⟨trivial, trivial⟩ ?_
  intro w0
  show AW _ 60 _ _ _ _
  refine AW.bound (t := 1) rfl fun hx => ?_
  refine AW.seq ?_
  refine AW.region ?_
  refine ARun.pure (PureOp.assign rfl .bool) rfl rfl (Nat.le_of_ble_eq_true rfl) ?_
  refine ARun.pure (PureOp.assign rfl .bool) rfl rfl (Nat.le_of_ble_eq_true rfl) ?_
  refine ARun.nil ?_
  refine AW.seq ?_
  refine AW.seq ?_
  refine AW.region ?_
  refine ARun.pure (PureOp.move rfl (.tmp rfl)) rfl rfl (Nat.le_of_ble_eq_true rfl) ?_
  refine ARun.pure (PureOp.move rfl (.tmp rfl)) rfl rfl (Nat.le_of_ble_eq_true rfl) ?_
  refine ARun.pure (PureOp.call rfl (v_areEvents n l ⟨by omega, by omega⟩) ⟨⟨_, (.tmp rfl), .int⟩, ⟨_, (.tmp rfl), .lst⟩, trivial⟩ vcq_ca_48 trivial) rfl rfl (Nat.le_of_ble_eq_true rfl) ?_
  refine ARun.pure (PureOp.not rfl (.tmp rfl)) rfl rfl (Nat.le_of_ble_eq_true rfl) ?_
  refine ARun.pure (PureOp.move rfl (.tmp rfl)) rfl rfl (Nat.le_of_ble_eq_true rfl) ?_
  refine ARun.gpure (want := false) (.tf rfl) (fun hg1 => PureOp.move rfl (.tmp rfl)) rfl rfl (Nat.le_of_ble_eq_true rfl) rfl (Nat.le_of_ble_eq_true rfl) ?_
  refine ARun.gpure (want := false) (.tf rfl) (fun hg2 => PureOp.move rfl (.tmp rfl)) rfl rfl (Nat.le_of_ble_eq_true rfl) rfl (Nat.le_of_ble_eq_true rfl) ?_
  refine ARun.gpure (want := false) (.tf rfl) (fun hg3 => PureOp.lenLst rfl (.gtmp rfl hg3) vcq_sl_26) rfl rfl (Nat.le_of_ble_eq_true rfl) rfl (Nat.le_of_ble_eq_true rfl) ?_
  refine ARun.gpure (want := false) (.tf rfl) (fun hg4 => PureOp.sub (c := (l.length : Int) - 1) rfl (.gtmp rfl hg4) .int (wrap_id (by omega) (by omega))) rfl rfl (Nat.le_of_ble_eq_true rfl) rfl (Nat.le_of_ble_eq_true rfl) ?_
  refine ARun.gpure (want := false) (.tf rfl) (fun hg5 => PureOp.call rfl (v_within a 0 ((l.length : Int) - 1)) ⟨⟨_, (.gtmp rfl hg5), .int⟩, ⟨_, .int, .int⟩, ⟨_, (.gtmp rfl hg5), .int⟩, trivial⟩ vcq_ca_49 trivial) rfl rfl (Nat.le_of_ble_eq_true rfl) rfl (Nat.le_of_ble_eq_true rfl) ?_
  refine ARun.gpure (want := false) (.tf rfl) (fun hg6 => PureOp.not rfl (.gtmp rfl hg6)) rfl rfl (Nat.le_of_ble_eq_true rfl) rfl (Nat.le_of_ble_eq_true rfl) ?_
  refine ARun.pure (PureOp.pick rfl (.tmp rfl) (fun _ => .bool) (fun hp8 => .gtmp rfl (not_of hp8))) rfl rfl (Nat.le_of_ble_eq_true rfl) ?_
  refine ARun.pure (PureOp.move rfl (.tmp rfl)) rfl rfl (Nat.le_of_ble_eq_true rfl) ?_
  refine ARun.gpure (want := false) (.tf rfl) (fun hg9 => PureOp.move rfl (.tmp rfl)) rfl rfl (Nat.le_of_ble_eq_true rfl) rfl (Nat.le_of_ble_eq_true rfl) ?_
  refine ARun.gpure (want := false) (.tf rfl) (fun hg10 => PureOp.move rfl (.tmp rfl)) rfl rfl (Nat.le_of_ble_eq_true rfl) rfl (Nat.le_of_ble_eq_true rfl) ?_
  refine ARun.gpure (want := false) (.tf rfl) (fun hg11 => PureOp.lenLst rfl (.gtmp rfl hg11) vcq_sl_26) rfl rfl (Nat.le_of_ble_eq_true rfl) rfl (Nat.le_of_ble_eq_true rfl) ?_
  refine ARun.gpure (want := false) (.tf rfl) (fun hg12 => PureOp.sub (c := (l.length : Int) - 1) rfl (.gtmp rfl hg12) .int (wrap_id (by omega) (by omega))) rfl rfl (Nat.le_of_ble_eq_true rfl) rfl (Nat.le_of_ble_eq_true rfl) ?_
  refine ARun.gpure (want := false) (.tf rfl) (fun hg13 => PureOp.call rfl (v_within b 0 ((l.length : Int) - 1)) ⟨⟨_, (.gtmp rfl hg13), .int⟩, ⟨_, .int, .int⟩, ⟨_, (.gtmp rfl hg13), .int⟩, trivial⟩ vcq_ca_49 trivial) rfl rfl (Nat.le_of_ble_eq_true rfl) rfl (Nat.le_of_ble_eq_true rfl) ?_
  refine ARun.gpure (want := false) (.tf rfl) (fun hg14 => PureOp.not rfl (.gtmp rfl hg14)) rfl rfl (Nat.le_of_ble_eq_true rfl) rfl (Nat.le_of_ble_eq_true rfl) ?_
  refine ARun.pure (PureOp.pick rfl (.tmp rfl) (fun _ => .bool) (fun hp16 => .gtmp rfl (not_of hp16))) rfl rfl (Nat.le_of_ble_eq_true rfl) ?_
  refine ARun.nil ?_
  refine AW.cond (.tmp rfl) (fun hb17 => ?_) (fun hb17 => ?_)
  · have _u := True.intro
    have _h := hb17
    refine AW.seq ?_
    refine AW.region ?_
    refine ARun.pure (PureOp.assign rfl .bool) rfl rfl (Nat.le_of_ble_eq_true rfl) ?_
    refine ARun.pure (PureOp.assign rfl .bool) rfl rfl (Nat.le_of_ble_eq_true rfl) ?_
    refine ARun.nil ?_
    refine AW.ret (show ResL _ _ [.tmp 8, .tmp 9] _ from res2B rfl rfl ?_)
    rw [cf_no ((cfI hb17).2 rfl)]
    exact ⟨rfl, rfl⟩
  · have _u := True.intro
    have hok := (cfI hb17).1 rfl
    obtain ⟨hg, haa, hbb⟩ := id hok
    obtain ⟨gn1, gn2, glen, _⟩ := goodEvs_get hg
    have hal : a.toNat < l.length := by omega
    have hbl : b.toNat < l.length := by omega
    have hae : ((a.toNat : Nat) : Int) = a := Int.toNat_of_nonneg haa.1
    have hbe : ((b.toNat : Nat) : Int) = b := Int.toNat_of_nonneg hbb.1
    have hni : 0 ≤ (l.getD a.toNat (default : GEvent)).a ∧ (l.getD a.toNat (default : GEvent)).a.toNat < n.toNat := ev_bd hg hal
    have hni2 := hni.2
    have hnd := (Int.toNat_of_nonneg hni.1).symm
    refine AW.skip ?_
    refine AW.seq ?_
    refine AW.region ?_
    refine ARun.pure (PureOp.move rfl (.tmp rfl)) rfl rfl (Nat.le_of_ble_eq_true rfl) ?_
    refine ARun.pure (PureOp.move rfl (.tmp rfl)) rfl rfl (Nat.le_of_ble_eq_true rfl) ?_
    refine ARun.fresh (FreshOp.callS rfl (FnT.toF (v_ClocksI n l hg)) ⟨⟨_, (.tmp rfl), .int⟩, ⟨_, (.tmp rfl), .lst⟩, trivial⟩ vcq_ca_50 rfl) rfl rfl (Nat.le_of_ble_eq_true rfl) ?_
    refine ARun.pure (PureOp.assign rfl (.tmp rfl)) rfl rfl (Nat.le_of_ble_eq_true rfl) ?_
    refine ARun.nil ?_
    refine AW.seq ?_
    refine AW.region ?_
    refine ARun.pure (PureOp.move rfl (.tmp rfl)) rfl rfl (Nat.le_of_ble_eq_true rfl) ?_
    refine ARun.pure (PureOp.move rfl (.tmp rfl)) rfl rfl (Nat.le_of_ble_eq_true rfl) ?_
    refine ARun.pure (PureOp.indexLst (i := a.toNat) rfl (.tmp rfl) vcq_el_26_2 (.tmp rfl) hae.symm hal) rfl rfl (Nat.le_of_ble_eq_true rfl) ?_
    refine ARun.pure (PureOp.fieldRef rfl (.tmp rfl) vcq_fi_64_0_0 (Nat.le_of_ble_eq_true rfl)) rfl rfl (Nat.le_of_ble_eq_true rfl) ?_
    refine ARun.pure (PureOp.loadRef rfl (.tmp rfl) vcq_pl_3 (Nat.le_of_ble_eq_true rfl)) rfl rfl (Nat.le_of_ble_eq_true rfl) ?_
    refine ARun.pure (PureOp.assign rfl (.tmp rfl)) rfl rfl (Nat.le_of_ble_eq_true rfl) ?_
    refine ARun.nil ?_
    refine AW.seq ?_
    refine AW.any (by kernel_rfl) (by kernel_rfl) ?_
    refine AD.pure (PureOp.move rfl (.tmp rfl)) rfl rfl (Nat.le_of_ble_eq_true rfl) ?_
    refine AD.pure (PureOp.move rfl (.tmp rfl)) rfl rfl (Nat.le_of_ble_eq_true rfl) ?_
    refine AD.pure (PureOp.intOp rfl (.tmp rfl) (.tmp rfl) rfl) rfl rfl (Nat.le_of_ble_eq_true rfl) ?_
    refine AD.pure (PureOp.move rfl (.tmp rfl)) rfl rfl (Nat.le_of_ble_eq_true rfl) ?_
    refine AD.gpure (want := true) (.tt rfl) (fun hg18 => PureOp.move rfl (.tmp rfl)) rfl rfl rfl (Nat.le_of_ble_eq_true rfl) ?_
    refine AD.gpure (want := true) (.tt rfl) (fun hg19 => PureOp.move rfl (.tmp rfl)) rfl rfl rfl (Nat.le_of_ble_eq_true rfl) ?_
    refine AD.gpure (want := true) (.tt rfl) (fun hg20 => PureOp.indexLst (i := b.toNat) rfl (.frs (.gtmp rfl hg20)) vcq_el_40_1 (.gtmp rfl hg20) hbe.symm (by rw [ckTo_len]; exact hbl)) rfl rfl rfl (Nat.le_of_ble_eq_true rfl) ?_
    refine AD.gpure (want := true) (.tt rfl) (fun hg21 => PureOp.loadRef rfl (.gtmp rfl hg21) vcq_pl_30 (Nat.le_of_ble_eq_true rfl)) rfl rfl rfl (Nat.le_of_ble_eq_true rfl) ?_
    refine AD.gpure (want := true) (.tt rfl) (fun hg22 => PureOp.move rfl (.tmp rfl)) rfl rfl rfl (Nat.le_of_ble_eq_true rfl) ?_
    refine AD.gpure (want := true) (.tt rfl) (fun hg23 => PureOp.indexLst (i := ((l.getD a.toNat (default : GEvent)).a).toNat) rfl (.gtmp rfl hg23) vcq_el_30_1 (.gtmp rfl hg23) hnd (by show _ < (rowV n.toNat l b.toNat).length; rw [rowV_len hg hbl]; exact hni2)) rfl rfl rfl (Nat.le_of_ble_eq_true rfl) ?_
    refine AD.gpure (want := true) (.tt rfl) (fun hg24 => PureOp.loadRef rfl (.gtmp rfl hg24) vcq_pl_3 (Nat.le_of_ble_eq_true rfl)) rfl rfl rfl (Nat.le_of_ble_eq_true rfl) ?_
    refine AD.gpure (want := true) (.tt rfl) (fun hg25 => PureOp.move rfl (.tmp rfl)) rfl rfl rfl (Nat.le_of_ble_eq_true rfl) ?_
    refine AD.gpure (want := true) (.tt rfl) (fun hg26 => PureOp.move rfl (.tmp rfl)) rfl rfl rfl (Nat.le_of_ble_eq_true rfl) ?_
    refine AD.gpure (want := true) (.tt rfl) (fun hg27 => PureOp.indexLst (i := a.toNat) rfl (.frs (.gtmp rfl hg27)) vcq_el_40_1 (.gtmp rfl hg27) hae.symm (by rw [ckTo_len]; exact hal)) rfl rfl rfl (Nat.le_of_ble_eq_true rfl) ?_
    refine AD.gpure (want := true) (.tt rfl) (fun hg28 => PureOp.loadRef rfl (.gtmp rfl hg28) vcq_pl_30 (Nat.le_of_ble_eq_true rfl)) rfl rfl rfl (Nat.le_of_ble_eq_true rfl) ?_
    refine AD.gpure (want := true) (.tt rfl) (fun hg29 => PureOp.move rfl (.tmp rfl)) rfl rfl rfl (Nat.le_of_ble_eq_true rfl) ?_
    refine AD.gpure (want := true) (.tt rfl) (fun hg30 => PureOp.indexLst (i := ((l.getD a.toNat (default : GEvent)).a).toNat) rfl (.gtmp rfl hg30) vcq_el_30_1 (.gtmp rfl hg30) hnd (by show _ < (rowV n.toNat l a.toNat).length; rw [rowV_len hg hal]; exact hni2)) rfl rfl rfl (Nat.le_of_ble_eq_true rfl) ?_
    refine AD.gpure (want := true) (.tt rfl) (fun hg31 => PureOp.loadRef rfl (.gtmp rfl hg31) vcq_pl_3 (Nat.le_of_ble_eq_true rfl)) rfl rfl rfl (Nat.le_of_ble_eq_true rfl) ?_
    refine AD.gpure (want := true) (.tt rfl) (fun hg32 => PureOp.intOp rfl (.gtmp rfl hg32) (.gtmp rfl hg32) rfl) rfl rfl rfl (Nat.le_of_ble_eq_true rfl) ?_
    refine AD.pure (PureOp.pick rfl (.tmp rfl) (fun hp33 => .gtmp rfl hp33) (fun _ => .bool)) rfl rfl (Nat.le_of_ble_eq_true rfl) ?_
    refine AD.pure (PureOp.assign rfl (.tmp rfl)) rfl rfl (Nat.le_of_ble_eq_true rfl) ?_
    refine AD.pure (PureOp.assign rfl .bool) rfl rfl (Nat.le_of_ble_eq_true rfl) ?_
    refine AD.nil ?_
    refine AW.ret (show ResL _ _ [.tmp 8, .tmp 9] _ from res2B rfl rfl ?_)
    rw [cf_yes hok]
    rw [← cf_end hg haa hbb]
    exact ⟨rfl, rfl⟩
end Go.Proofs.Ytmkhahiefdcinaa

/-
  A calculus for walks, part 30: a row of one byte and its string; quotients; negation.
-/
namespace Go.Proofs.Ytmkhahiefdcinaa
open Go.ChangeShapes Go.WideShapes Go.ChangeAt Go.RowKit Go.BigFrame Go.Deep
set_option linter.unusedVariables false

set_option linter.unusedSimpArgs false
section
variable {P : Program} {σ : Sig} {o : Oper}
/-- A row of one byte. -/
theorem FreshOp.byte1 {t e : Nat} {x : Operand} {a1 : Int} (ho : o.op = .buildSlice t 1 #[(0, x)]) (hx : Kn σ x (.one (.int .u8 a1)))
    (ht : P.underlying t = some (.slice e)) (hz : (P.info? e).map (fun i => (i.size, i.zero)) = some (1, some (.int .u8 0))) : FreshOp P o σ (.one (.frs (.lst 1 1 fun _ _ => .int .u8 a1))) := by
  constructor
  intro N w0 ρ S a w K Q' hs hK
  have e1 : a.eval x = .int .u8 a1 := hx.sound hs
  obtain ⟨i, hi, hi2⟩ := Option.map_eq_some_iff.1 hz
  simp only [Prod.mk.injEq] at hi2
  obtain ⟨z1, z2⟩ := hi2
  have er : (execOp a.eval o).run P w = .ok (.value (.slice (some ⟨w.heap.size, 0, none⟩) 1 1)) (w.alloc (.cells #[.int .u8 a1] e)) := by
    generalize a.eval = ev at e1 ⊢
    simp [execOp, ho, Instr.buildSlice, run_underlying ht, sizeOf, typeInfo, hi, z1, z2, zeroValue, e1, go_sem]
  unfold Oper.wp
  rw [er]
  have hb : Below w.heap.size w (w.alloc (.cells #[.int .u8 a1] e)) := (Below.refl _ _).alloc (Nat.le_refl _) _
  obtain ⟨g1, g2⟩ := hs.grow hb
  have hlt : ρ.base ≤ w.heap.size := by rw [hs.mem.base]; exact hs.mem.low
  refine hK _ _ _ g1 hb (fun b h => h.imp (fun h => h) (fun h => h.1)) g2 ⟨_, _, rfl, Nat.le_refl _, by decide, (fun h => by cases h), fun j hj => ⟨w.heap.size, 0, rfl, ⟨.inr ⟨Nat.le_refl _, by rw [World.heap_alloc, Array.size_push]; omega⟩, hlt⟩, fun q hq => ?_⟩⟩
  obtain rfl : q = 0 := by omega
  obtain rfl : j = 0 := by omega
  exact ⟨.int .u8 a1, by simp [World.cell?, World.heap_alloc], rfl⟩
/-- The string of a row of one byte. -/
theorem PureOp.byteStr {s t e : Nat} {x : Operand} {f : Nat → Nat → AV} {c : UInt8} (ho : o.op = .convert s t x) (hx : Kn σ x (.one (.lst 1 1 f))) (hf : f 0 0 = .int .u8 (c.toNat : Int))
    (hs : P.underlying s = some (.slice e)) (he : P.underlying e = some (.int .u8)) (hd : P.underlying t = some .string) : PureOp P o σ (.one (.str ⟨#[c]⟩)) := by
  refine PureOp.val fun N w0 ρ S ac w hst => ?_
  obtain ⟨A, cc, e1, h1, h2, h3, h4⟩ := hx.sound hst
  obtain ⟨b, off, hA, hS, hc⟩ := h4 0 (by omega)
  obtain ⟨u, hu, hr⟩ := hc 0 (by omega)
  rw [hf] at hr
  subst hA
  refine ⟨.string ⟨#[c]⟩, ⟨rfl, by have h1 : (⟨#[c]⟩ : ByteArray).size = 1 := rfl
                                   unfold maxLen; omega⟩, fun w' hb => ?_⟩
  have hu' := ((hst.mem.same hb).cell hS).trans hu
  have hr' : u = .int .u8 (c.toNat : Int) := hr
  subst hr'
  have h := run_convert_bytes_back (P := P) w' s t e ⟨b, off, none⟩ cc [c] hs he hd (fun j hj => by
    have hj0 : j = 0 := by simpa using hj
    subst hj0
    rw [show (⟨b, off, none⟩ : Addr).add 0 = ⟨b, off, none⟩ from rfl]
    simpa using hu')
  generalize ac.eval = ev at e1 ⊢
  simp only [execOp, ho, e1, Sem.run_bind]
  simp only [List.length_singleton] at h
  rw [h]
  rfl
theorem PureOp.quo {t t' : TypeId} {x y : Operand} {a b : Nat} {c : Int} (ho : o.op = .binOp .quo t x y t') (hx : Kn σ x (.one (.int .i64 (a : Int)))) (hy : Kn σ y (.one (.int .i64 c))) (hc : c = (b : Int)) (hb : 0 < b) (ha : a ≤ 9223372036854775807) : PureOp P o σ (.one (.int .i64 ((a / b : Nat) : Int))) := by
  subst hc
  refine PureOp.val fun N w0 ρ S ac w hs => ?_
  have e1 : ac.eval x = .int .i64 (a : Int) := hx.sound hs
  have e2 : ac.eval y = .int .i64 (b : Int) := hy.sound hs
  refine ⟨_, rfl, fun w' _ => ?_⟩
  generalize ac.eval = ev at e1 e2 ⊢
  have hq : a / b ≤ a := Nat.div_le_self a b
  have hw : ((a : Int).tdiv (b : Int)) = ((a / b : Nat) : Int) := by rw [Int.tdiv_eq_ediv_of_nonneg (by omega)]; rfl
  have hwr : IntKind.i64.wrap ((a : Int).tdiv (b : Int)) = ((a / b : Nat) : Int) := by
    rw [hw]
    generalize a / b = q at hq
    exact wrap_id (by omega) (by omega)
  simp only [execOp, ho, e1, e2, Sem.run_bind, eqGuard_int, Result.andThen_ok]
  have hb0 : b ≠ 0 := by omega
  have hwr2 : IntKind.i64.wrap ((a : Int) / (b : Int)) = (a : Int) / (b : Int) := by
    rw [hw] at hwr
    rw [← Int.natCast_ediv]; exact hwr
  simp [binOp, Op.intArith, go_sem, hb0, hwr2]
theorem PureOp.neg {t : TypeId} {x : Operand} {a b : Int} (ho : o.op = .unOp .neg t x) (hx : Kn σ x (.one (.int .i64 a))) (hb : IntKind.i64.wrap (-a) = b) : PureOp P o σ (.one (.int .i64 b)) := by
  subst hb
  refine PureOp.val fun N w0 ρ S ac w hs => ?_
  have e1 : ac.eval x = .int .i64 a := hx.sound hs
  refine ⟨_, rfl, fun w' _ => ?_⟩
  generalize ac.eval = ev at e1 ⊢
  simp [execOp, ho, e1, Op.unary, go_sem]
end
end Go.Proofs.Ytmkhahiefdcinaa

/-
  How a law's statement follows from its walk: the arguments are opened to Lean values ('Opens'), and behind a call that leaves old memory alone each argument reads as before ('law_post').
-/
namespace Go.Proofs.Ytmkhahiefdcinaa
open Go.ChangeShapes Go.WideShapes Go.ChangeAt Go.RowKit Go.Deep
set_option linter.unusedVariables false

theorem own : ownKnob Try.prog.godebug = none := by kernel_rfl
theorem laidOut : laidOutB Try.prog = true := by kernel_rfl

section
variable {H : Type} {enc : TypeId × Value → H} {P : Program}
theorem trodAll_stays {W W' : World} {sp : Nat → Bool} (hl : laidOutB P = true) : ∀ {ts : List TypeId} {vs : List Value} {ds : List (DataW H)} {ps : List MemPlace}, (ts.all fun t => P.readableRec t && decide (t < P.types.size)) = true →
    DataW.TrodAll enc P W 0 (fun _ => true) true ts vs ds ps → (∀ p ∈ ps, W.sameAt W' p) → (∀ p ∈ ps, sp p.block = true) → DataW.TrodAll enc P W' 0 sp true ts vs ds ps := by
  intro ts
  induction ts with
  | nil =>
    intro vs ds ps _ h _ _
    cases vs <;> cases ds <;> first | exact h | exact h.elim
  | cons t ts ih =>
    intro vs ds ps ht h hs hsp
    cases vs with
    | nil => cases ds <;> exact h.elim
    | cons v vs =>
      cases ds with
      | nil => exact h.elim
      | cons d ds =>
        obtain ⟨p, q, h1, h2, rfl⟩ := h
        simp only [List.all_cons, Bool.and_eq_true, decide_eq_true_eq] at ht
        exact ⟨p, q, WideElems.Trod_stays hl ht.1.1 ht.1.2 h1 (fun x hx => hs x (List.mem_append_left _ hx)) (fun x hx => hsp x (List.mem_append_left _ hx)),
          ih ht.2 h2 (fun x hx => hs x (List.mem_append_right _ hx)) (fun x hx => hsp x (List.mem_append_right _ hx)), rfl⟩

/-- The row's last step: the call returned true and left old memory alone. -/
theorem law_post {f : Func} {s : ChangeSpec} {W W' : World} {args : Array Value} {ds gs : List (DataW H)} {before : List MemPlace} {tb : TypeId}
    (hW : DataW.Whole enc P f.params.toList s.vars false W args.toList ds gs before) (hvars : s.vars = []) (hl : laidOutB P = true) (hts : (f.params.toList.all fun t => P.readableRec t && decide (t < P.types.size)) = true)
    (hb : Below W.heap.size W W') (hfn : s.fn H (ds ++ gs) = { results := [.lit (.bool true)], args := ds }) (hrt : f.resultTypes = #[tb]) (hu : P.underlying tb = some .bool) :
    s.post enc P f false true false false W args (.bool true) W' := by
  have hlt : ∀ p ∈ before, p.block < W.heap.size := fun p hp => hW.lt p hp
  have hW' := hW
  obtain ⟨p, q, hA, hV, rfl, hz, hn⟩ := hW
  rw [hvars] at hV
  have hV' := hV
  obtain ⟨rfl, rfl⟩ := trodVars_none hV
  have hargs : ∀ sp : Nat → Bool, (∀ x ∈ p ++ [], sp x.block = true) → DataW.TrodAll enc P W' 0 sp true f.params.toList args.toList (s.fn H (ds ++ [])).args p := fun sp hsp => by
    rw [hfn]
    exact trodAll_stays hl hts hA (fun x hx => hb.same (hlt x (by simpa using hx))) (fun x hx => hsp x (by simpa using hx))
  have hvs : ∀ sp : Nat → Bool, DataW.TrodVars enc P W' sp s.vars (s.fn H (ds ++ [])).vars [] := fun sp => by
    rw [hvars, hfn]
    rfl
  have hres : ∀ (b : Nat) (sp : Nat → Bool) (hd : Bool), DataW.TrodAll enc P W' b sp hd f.resultTypes.toList ((Value.bool true).resultList f.resultTypes.size) (s.fn H (ds ++ [])).results [] := fun b sp hd => by
    rw [hfn, hrt]
    exact trodAll_cons_mk (shut_bool hu _) trodAll_mk0
  have hold : ∀ x ∈ p ++ [], (fun b => decide (b < W.heap.size)) x.block = true := fun x hx => by simpa using hlt x hx
  refine ⟨ds, [], p ++ [], [], p, [], hW', hres _ _ _, hargs _ hold, hvs _, World.keptBut_mono (fun x hx => ⟨hx, ?_⟩) (hb.frame (· ∈ p ++ [])), fun h => by cases h⟩
  exact Or.inr (by simpa using hx)

/-- A value of type t reads as an α. -/
def Opens (P : Program) (t : TypeId) (α : Type) [Rep α] : Prop :=
  ∀ (H : Type) (enc : TypeId × Value → H) (w : World) (fuel : Nat) (cs : List Value) (x : DataW H × List MemPlace), DataW.trod enc P w 0 (fun _ => true) true fuel t cs = some x → ∃ a : α, Rep.rep w (· < w.heap.size) a cs

theorem i64_of_wf {n : Int} (h : (Lit.int .i64 n).wf = true) : I64 n := by
  simpa [Lit.wf, IntKind.min, IntKind.max, IntKind.signed, IntKind.bits, I64] using h
theorem Opens.int {t : TypeId} (ht : P.underlying t = some (.int .i64)) : Opens P t Int := fun _ _ _ _ _ _ h => by
  obtain ⟨n, rfl, _, hw⟩ := DataW.trod_int ht h
  exact ⟨n, rfl, i64_of_wf hw⟩
theorem Opens.bool {t : TypeId} (ht : P.underlying t = some .bool) : Opens P t Bool := fun _ _ _ _ _ _ h => by
  obtain ⟨n, rfl, _⟩ := DataW.trod_bool ht h
  exact ⟨n, rfl, trivial⟩
theorem Opens.string {t : TypeId} (ht : P.underlying t = some .string) : Opens P t ByteArray := fun _ _ _ _ _ _ h => by
  obtain ⟨s, rfl, _, hs⟩ := DataW.trod_string ht h
  exact ⟨s, rfl, hs⟩
theorem list_of_fun {α : Type} (f : Nat → Option α) (len : Nat) (hf : ∀ i, i < len → ∃ y, f i = some y) : ∃ l : List α, l.length = len ∧ ∀ i (h : i < l.length), f i = some l[i] := by
  induction len with
  | zero => exact ⟨[], rfl, fun i h => absurd h (by simp)⟩
  | succ k ih =>
    obtain ⟨l, hl, hl2⟩ := ih (fun i hi => hf i (by omega))
    obtain ⟨y, hy⟩ := hf k (by omega)
    refine ⟨l ++ [y], by simp [hl], fun i h => ?_⟩
    by_cases hik : i < l.length
    · rw [List.getElem_append_left hik]; exact hl2 i hik
    · have : i = l.length := by simp at h; omega
      subst this
      rw [List.getElem_append_right (Nat.le_refl _)]
      simp [hl, hy]
theorem Opens.slice {α : Type} [Rep α] {t e : TypeId} (ht : P.underlying t = some (.slice e)) (hC : P.cellsOf e = Rep.size α) (hp : 0 < Rep.size α) (he : Opens P e α) : Opens P t (List α) := fun H enc w fuel cs x h => by
  rcases open_slice ht h with ⟨rfl, _⟩ | ⟨a, len, cap, m, n, D, Pl, rfl, _, hl, hm, hmm, _, hi⟩
  · exact ⟨[], none, 0, rfl, Nat.le_refl _, by simp [maxLen], fun _ => rfl, fun i hi => absurd hi (by simp)⟩
  · have hlm : len ≤ m := by rw [hmm]; simpa using hl
    have hx : ∀ i, i < len → ∃ (y : α) (xs : List Value), Rep.rep w (· < w.heap.size) y xs ∧ xs.length = Rep.size α ∧ ∀ j, j < Rep.size α → w.cell? (a.add (i * Rep.size α + j)) = xs[j]? := fun i hil => by
      obtain ⟨cs', hc, ht'⟩ := hi i (by omega)
      rw [hC] at hc
      obtain ⟨_, hcl, hat⟩ := World.cells?_some hc
      obtain ⟨y, hy⟩ := he H enc w n cs' _ ht'
      exact ⟨y, cs', hy, hcl, fun j hj => by rw [← hat j hj, add_add]⟩
    have hch : ∃ f : Nat → Option α, ∀ i, i < len → ∃ (y : α) (xs : List Value), f i = some y ∧ Rep.rep w (· < w.heap.size) y xs ∧ xs.length = Rep.size α ∧ ∀ j, j < Rep.size α → w.cell? (a.add (i * Rep.size α + j)) = xs[j]? := by
      classical
      refine ⟨fun i => if hil : i < len then some (hx i hil).choose else none, fun i hil => ⟨(hx i hil).choose, (hx i hil).choose_spec.choose, by simp [hil], (hx i hil).choose_spec.choose_spec⟩⟩
    obtain ⟨f, hf⟩ := hch
    have hlist := list_of_fun f len fun i hil => let ⟨y, _, hy, _⟩ := hf i hil; ⟨y, hy⟩
    obtain ⟨l, hl1, hl2⟩ := hlist
    subst hl1
    refine ⟨l, some a, cap, rfl, hl, hm, (fun e => by cases e), fun i hil => ?_⟩
    obtain ⟨y, xs, hy, hr, hxl, hc⟩ := hf i hil
    rw [hl2 i hil] at hy
    obtain rfl := Option.some.inj hy
    have hspot : a.spot = none := by
      obtain ⟨y, xs, _, _, hxl, hc⟩ := hf 0 (by omega)
      have h0 := hc 0 hp
      rw [List.getElem?_eq_getElem (by omega)] at h0
      simp only [Nat.zero_mul, Nat.add_zero] at h0
      have e : a.add 0 = a := rfl
      rw [e] at h0
      unfold World.cell? at h0
      split at h0
      · split at h0
        · cases h0
        · rename_i hs; simpa using hs
      · cases h0
    obtain ⟨b, off, sp⟩ := a
    obtain rfl : sp = none := hspot
    have h0 := hc 0 hp
    rw [List.getElem?_eq_getElem (by omega), Addr.add_lit] at h0
    refine ⟨b, off, xs, rfl, World.block_lt_of_cell? w _ h0, fun j u hu => ?_, hr⟩
    have hj : j < Rep.size α := by rw [← hxl]; exact (List.getElem?_eq_some_iff.1 hu).1
    rw [← hu, ← hc j hj, Addr.add_lit]

theorem Opens.int2 {t t0 t1 : TypeId} {f0 f1 : Field} (ht : P.underlying t = some (.struct #[f0, f1])) (hone : oneCellFields P #[f0, f1] = true) (hC : P.cellsOf t = 2) (e0 : f0.type = t0) (e1 : f1.type = t1)
    (h0 : P.underlying t0 = some (.int .i64)) (h1 : P.underlying t1 = some (.int .i64)) : Opens P t P2 := fun H enc w fuel cs x h => by
  obtain ⟨y0, y1, n, _, hl, g0, g1⟩ := trod_struct2 ht h
  rw [hC] at hl
  match cs, hl with
  | [c0, c1], _ =>
    obtain ⟨o0, k0⟩ := hone_of hone 0 f0 rfl
    obtain ⟨o1, k1⟩ := hone_of hone 1 f1 rfl
    rw [o0, k0, e0] at g0
    rw [o1, k1, e1] at g1
    obtain ⟨a, ea, wa⟩ := Opens.int h0 H enc w n _ _ g0
    obtain ⟨b, eb, wb⟩ := Opens.int h1 H enc w n _ _ g1
    exact ⟨⟨a, b⟩, by simp [Flat.enc] at ea eb ⊢; exact ⟨ea, eb⟩, wa, wb⟩

theorem Opens.intstr {t t0 t1 : TypeId} {f0 f1 : Field} (ht : P.underlying t = some (.struct #[f0, f1])) (hone : oneCellFields P #[f0, f1] = true) (hC : P.cellsOf t = 2) (e0 : f0.type = t0) (e1 : f1.type = t1)
    (h0 : P.underlying t0 = some (.int .i64)) (h1 : P.underlying t1 = some .string) : Opens P t IS := fun H enc w fuel cs x h => by
  obtain ⟨y0, y1, n, _, hl, g0, g1⟩ := trod_struct2 ht h
  rw [hC] at hl
  match cs, hl with
  | [c0, c1], _ =>
    obtain ⟨o0, k0⟩ := hone_of hone 0 f0 rfl
    obtain ⟨o1, k1⟩ := hone_of hone 1 f1 rfl
    rw [o0, k0, e0] at g0
    rw [o1, k1, e1] at g1
    obtain ⟨a, ea, wa⟩ := Opens.int h0 H enc w n _ _ g0
    obtain ⟨b, eb, wb⟩ := Opens.string h1 H enc w n _ _ g1
    exact ⟨⟨a, b⟩, by simp [Flat.enc] at ea eb ⊢; exact ⟨ea, eb⟩, wa, wb⟩

/-- An argument that is a slice. -/
theorem Opens.arg {α : Type} [Rep α] {t : TypeId} (h : Opens P t (List α)) {W : World} {v : Value} {d : DataW H} {p : List MemPlace} (hv : ∃ a n c, v = .slice a n c) (ht : DataW.Trod enc P W 0 (fun _ => true) true t v d p) :
    ∃ (l : List α) (A : Option Addr) (n c : Nat), v = .slice A n c ∧ RepL W (· < W.heap.size) l A n c := by
  obtain ⟨fuel, hf⟩ := ht
  obtain ⟨a, n, c, rfl⟩ := hv
  obtain ⟨l, hl⟩ := h H enc W fuel _ _ hf
  have hl' := hl
  obtain ⟨A, c', e, h1, h2, h4, h3⟩ := hl'
  simp only [Value.cells, List.cons.injEq, Value.slice.injEq, and_true] at e
  obtain ⟨rfl, rfl, rfl⟩ := e
  exact ⟨l, a, _, c, rfl, rfl, hl⟩
end
end Go.Proofs.Ytmkhahiefdcinaa

/-
  How the arguments of a law are opened to data of the calculus.
-/
namespace Go.Proofs.Ytmkhahiefdcinaa
open Go.ChangeShapes Go.WideShapes Go.ChangeAt Go.RowKit Go.BigFrame Go.Deep
set_option linter.unusedVariables false

set_option linter.unusedSimpArgs false
section
variable {P : Program}
/-- Cells of type t read as an α. -/
def OpensC (P : Program) (t : TypeId) {α : Type} (enc : α → List AV) : Prop :=
  ∀ (H : Type) (eh : TypeId × Value → H) (w : World) (fuel : Nat) (cs : List Value) (x : DataW H × List MemPlace), DataW.trod eh P w 0 (fun _ => true) true fuel t cs = some x → ∃ a : α, DL w (· < w.heap.size) (enc a) cs
theorem OpensC.int {t : TypeId} (ht : P.underlying t = some (.int .i64)) : OpensC P t (fun n : Int => [.int .i64 n]) := fun _ _ _ _ _ _ h => by
  obtain ⟨n, rfl, _, hw⟩ := DataW.trod_int ht h
  exact ⟨n, _, _, rfl, rfl, rfl⟩
theorem OpensC.bool {t : TypeId} (ht : P.underlying t = some .bool) : OpensC P t (fun b : Bool => [.bool b]) := fun _ _ _ _ _ _ h => by
  obtain ⟨n, rfl, _⟩ := DataW.trod_bool ht h
  exact ⟨n, _, _, rfl, rfl, rfl⟩
theorem OpensC.string {t : TypeId} (ht : P.underlying t = some .string) : OpensC P t (fun s : ByteArray => [.str s]) := fun _ _ _ _ _ _ h => by
  obtain ⟨s, rfl, _, hs⟩ := DataW.trod_string ht h
  exact ⟨s, _, _, rfl, ⟨rfl, hs⟩, rfl⟩
theorem DL.len {w : World} {S : Nat → Prop} : ∀ {l : List AV} {us : List Value}, DL w S l us → us.length = l.length
  | [], us, h => by rw [show us = [] from h]; rfl
  | _ :: _, _, ⟨_, _, e, _, h2⟩ => by rw [e]; simp [DL.len h2]
theorem DL.get {w : World} {S : Nat → Prop} : ∀ {l : List AV} {us : List Value}, DL w S l us → ∀ {j : Nat} {x : AV}, l[j]? = some x → ∃ u, us[j]? = some u ∧ D w S x u
  | [], _, _, j, x, hx => by simp at hx
  | y :: l, _, ⟨u, us, e, h1, h2⟩, j, x, hx => by
    subst e
    cases j with
    | zero => simp at hx; subst hx; exact ⟨u, rfl, h1⟩
    | succ j => simp at hx ⊢; exact DL.get h2 hx
theorem DL.append {w : World} {S : Nat → Prop} : ∀ {l m : List AV} {us vs : List Value}, DL w S l us → DL w S m vs → DL w S (l ++ m) (us ++ vs)
  | [], _, us, _, h, k => by rw [show us = [] from h]; exact k
  | _ :: _, _, _, _, ⟨u, us, e, h1, h2⟩, k => ⟨u, _, by rw [e]; rfl, h1, DL.append h2 k⟩
theorem DL.part {w : World} {S : Nat → Prop} {l m : List AV} {cs : List Value} {o s : Nat} (h : DL w S l ((cs.drop o).take s)) (k : DL w S m (cs.drop (o + s))) : DL w S (l ++ m) (cs.drop o) := by
  have := DL.append h k
  rwa [← List.drop_drop, List.take_append_drop] at this
theorem OpensC.slice {α : Type} {t e : TypeId} {sz : Nat} {en : α → List AV} {f : List α → Nat → Nat → AV} (d : α) (ht : P.underlying t = some (.slice e)) (hC : P.cellsOf e = sz) (hp : 0 < sz) (he : OpensC P e en) (hlen : ∀ a, (en a).length = sz)
    (hf : ∀ l i j, i < l.length → j < sz → f l i j = (en (l.getD i d)).getD j (.con undef)) : OpensC P t (fun l : List α => [.lst sz l.length (f l)]) := fun H eh w fuel cs x h => by
  rcases open_slice ht h with ⟨rfl, _⟩ | ⟨a, len, cap, m, n, D, Pl, rfl, _, hl, hm, hmm, _, hi⟩
  · exact ⟨[], _, _, rfl, ⟨none, 0, rfl, Nat.le_refl _, by simp [maxLen], fun _ => rfl, fun i hi => absurd hi (by simp)⟩, rfl⟩
  · have hlm : len ≤ m := by rw [hmm]; simpa using hl
    have hx : ∀ i, i < len → ∃ (y : α) (xs : List Value), DL w (· < w.heap.size) (en y) xs ∧ ∀ j, j < sz → w.cell? (a.add (i * sz + j)) = xs[j]? := fun i hil => by
      obtain ⟨cs', hc, ht'⟩ := hi i (by omega)
      rw [hC] at hc
      obtain ⟨_, hcl, hat⟩ := World.cells?_some hc
      obtain ⟨y, hy⟩ := he H eh w n cs' _ ht'
      exact ⟨y, cs', hy, fun j hj => by rw [← hat j hj, add_add]⟩
    have hch : ∃ g : Nat → Option α, ∀ i, i < len → ∃ (y : α) (xs : List Value), g i = some y ∧ DL w (· < w.heap.size) (en y) xs ∧ ∀ j, j < sz → w.cell? (a.add (i * sz + j)) = xs[j]? := by
      classical
      refine ⟨fun i => if hil : i < len then some (hx i hil).choose else none, fun i hil => ⟨(hx i hil).choose, (hx i hil).choose_spec.choose, by simp [hil], (hx i hil).choose_spec.choose_spec⟩⟩
    obtain ⟨g, hg⟩ := hch
    obtain ⟨l, hl1, hl2⟩ := list_of_fun g len fun i hil => let ⟨y, _, hy, _⟩ := hg i hil; ⟨y, hy⟩
    subst hl1
    have hspot : 0 < l.length → a.spot = none := fun h0l => by
      obtain ⟨y, xs, _, hr, hc⟩ := hg 0 h0l
      have h0 := hc 0 hp
      have hxl : xs.length = sz := by rw [hr.len, hlen]
      rw [List.getElem?_eq_getElem (by omega)] at h0
      simp only [Nat.zero_mul, Nat.add_zero] at h0
      have e : a.add 0 = a := rfl
      rw [e] at h0
      unfold World.cell? at h0
      split at h0
      · split at h0
        · cases h0
        · rename_i hs; simpa using hs
      · cases h0
    refine ⟨l, _, _, rfl, ⟨some a, cap, rfl, hl, hm, (fun e => by cases e), fun i hil => ?_⟩, rfl⟩
    obtain ⟨y, xs, hy, hr, hc⟩ := hg i hil
    have hsp := hspot (by omega)
    obtain ⟨b, off, sp⟩ := a
    obtain rfl : sp = none := hsp
    rw [hl2 i hil] at hy
    obtain rfl := Option.some.inj hy
    have hxl : xs.length = sz := by rw [hr.len, hlen]
    have h0 := hc 0 hp
    rw [List.getElem?_eq_getElem (by omega), Addr.add_lit] at h0
    refine ⟨b, off, rfl, World.block_lt_of_cell? w _ h0, fun j hj => ?_⟩
    have hget : l.getD i d = l[i] := by rw [List.getD_eq_getElem?_getD, List.getElem?_eq_getElem hil]; rfl
    have hjl : j < (en l[i]).length := by rw [hlen]; exact hj
    obtain ⟨u, hu, hd⟩ := hr.get (List.getElem?_eq_getElem hjl)
    refine ⟨u, ?_, ?_⟩
    · have := hc j hj
      rw [Addr.add_lit, hu] at this
      exact this
    · rw [hf l i j hil hj, hget, List.getD_eq_getElem?_getD, List.getElem?_eq_getElem hjl]
      exact hd
/-- An argument. -/
theorem OpensC.arg {H : Type} {eh : TypeId × Value → H} {t : TypeId} {α : Type} {en : α → List AV} (h : OpensC P t en) {W : World} {v : Value} {d : DataW H} {p : List MemPlace} (ht : DataW.Trod eh P W 0 (fun _ => true) true t v d p) : ∃ a, DL W (· < W.heap.size) (en a) v.cells.toList := by
  obtain ⟨fuel, hf⟩ := ht
  exact h H eh W fuel _ _ hf
theorem DS.one_of {w : World} {S : Nat → Prop} {x : AV} {v : Value} (hv : v.cells = #[v]) (h : DL w S [x] v.cells.toList) : DS w S (.one x) v := by
  obtain ⟨u, us, e, h1, h2⟩ := h
  rw [hv] at e
  simp at e
  rw [e.1]; exact h1
theorem DS.agg_of {w : World} {S : Nat → Prop} {l : List AV} {v : Value} (hv : ∃ cs, v = .agg cs) (h : DL w S l v.cells.toList) : DS w S (.agg l) v := by
  obtain ⟨cs, rfl⟩ := hv
  exact ⟨cs, rfl, h⟩
end
end Go.Proofs.Ytmkhahiefdcinaa

/-
  A calculus for walks, part 31: functions that draw out of a cursor: what they yield is not told, only bounded.
-/
namespace Go.Proofs.Ytmkhahiefdcinaa
open Go.ChangeShapes Go.WideShapes Go.ChangeAt Go.RowKit Go.BigFrame Go.Deep
set_option linter.unusedVariables false

set_option linter.unusedSimpArgs false
section
variable {P : Program} {σ : Sig} {o : Oper}
theorem PureOp.shr40 {t t' : TypeId} {x y : Operand} {k : IntKind} {a : Nat} (ho : o.op = .binOp .shr t x y t') (hx : Kn σ x (.one (.int .u64 (a : Int)))) (hy : Kn σ y (.one (.int k 40))) : PureOp P o σ (.one (.int .u64 ((a / 1099511627776 : Nat) : Int))) := by
  refine PureOp.val fun N w0 ρ S ac w hs => ?_
  have e1 : ac.eval x = .int .u64 (a : Int) := hx.sound hs
  have e2 : ac.eval y = .int k 40 := hy.sound hs
  refine ⟨_, rfl, fun w' _ => ?_⟩
  generalize ac.eval = ev at e1 e2 ⊢
  simp only [execOp, ho, e1, e2, Sem.run_bind, eqGuard_int, Result.andThen_ok, binOp_shr]
  rw [shift_shr_u64 k (a : Int) 40 (by decide) (by decide)]
  simp [go_sem]
theorem and_255 {x : Int} (h₀ : 0 ≤ x) (h₁ : x < 18446744073709551616) : bits .and .u64 x 255 = x % 256 := bits_mask .u64 64 (by decide) (fun n h0 h1 => by rw [IntKind.wrap_u64]; omega) 8 (by decide) x h₀ h₁
theorem PureOp.and255 {t t' : TypeId} {x y : Operand} {a : Nat} (ho : o.op = .binOp .and t x y t') (hx : Kn σ x (.one (.int .u64 (a : Int)))) (hy : Kn σ y (.one (.int .u64 255))) (ha : a < 18446744073709551616) : PureOp P o σ (.one (.int .u64 ((a % 256 : Nat) : Int))) := by
  refine PureOp.val fun N w0 ρ S ac w hs => ?_
  have e1 : ac.eval x = .int .u64 (a : Int) := hx.sound hs
  have e2 : ac.eval y = .int .u64 255 := hy.sound hs
  refine ⟨_, rfl, fun w' _ => ?_⟩
  generalize ac.eval = ev at e1 e2 ⊢
  simp only [execOp, ho, e1, e2, Sem.run_bind, eqGuard_int, Result.andThen_ok, binOp_and, intBits_and]
  rw [and_255 (by omega) (by omega)]
  rfl
theorem PureOp.mulU {t t' : TypeId} {x y : Operand} {a b c : Int} (ho : o.op = .binOp .mul t x y t') (hx : Kn σ x (.one (.int .u64 a))) (hy : Kn σ y (.one (.int .u64 b))) (hc : IntKind.u64.wrap (a * b) = c) : PureOp P o σ (.one (.int .u64 c)) := by
  subst hc; exact PureOp.intOp ho hx hy rfl
theorem PureOp.addU {t t' : TypeId} {x y : Operand} {a b c : Int} (ho : o.op = .binOp .add t x y t') (hx : Kn σ x (.one (.int .u64 a))) (hy : Kn σ y (.one (.int .u64 b))) (hc : IntKind.u64.wrap (a + b) = c) : PureOp P o σ (.one (.int .u64 c)) := by
  subst hc; exact PureOp.intOp ho hx hy rfl
/-- A row of three numbers. -/
theorem FreshOp.trip {t e : Nat} {x y z : Operand} {a1 a2 a3 : Int} (ho : o.op = .buildSlice t 3 #[(0, x), (1, y), (2, z)]) (hx : Kn σ x (.one (.int .i64 a1))) (hy : Kn σ y (.one (.int .i64 a2))) (hz3 : Kn σ z (.one (.int .i64 a3)))
    (ht : P.underlying t = some (.slice e)) (hz : (P.info? e).map (fun i => (i.size, i.zero)) = some (1, some (.int .i64 0))) : FreshOp P o σ (.one (.frs (.lst 1 3 fun i _ => .int .i64 (([a1, a2, a3] : List Int).getD i 0)))) := by
  constructor
  intro N w0 ρ S a w K Q' hs hK
  have e1 : a.eval x = .int .i64 a1 := hx.sound hs
  have e2 : a.eval y = .int .i64 a2 := hy.sound hs
  have e3 : a.eval z = .int .i64 a3 := hz3.sound hs
  obtain ⟨i, hi, hi2⟩ := Option.map_eq_some_iff.1 hz
  simp only [Prod.mk.injEq] at hi2
  obtain ⟨z1, z2⟩ := hi2
  have er : (execOp a.eval o).run P w = .ok (.value (.slice (some ⟨w.heap.size, 0, none⟩) 3 3)) (w.alloc (.cells #[.int .i64 a1, .int .i64 a2, .int .i64 a3] e)) := by
    generalize a.eval = ev at e1 e2 e3 ⊢
    simp [execOp, ho, Instr.buildSlice, run_underlying ht, sizeOf, typeInfo, hi, z1, z2, zeroValue, e1, e2, e3, go_sem]
  unfold Oper.wp
  rw [er]
  have hb : Below w.heap.size w (w.alloc (.cells #[.int .i64 a1, .int .i64 a2, .int .i64 a3] e)) := (Below.refl _ _).alloc (Nat.le_refl _) _
  obtain ⟨g1, g2⟩ := hs.grow hb
  have hlt : ρ.base ≤ w.heap.size := by rw [hs.mem.base]; exact hs.mem.low
  refine hK _ _ _ g1 hb (fun b h => h.imp (fun h => h) (fun h => h.1)) g2 ⟨_, _, rfl, Nat.le_refl _, by decide, (fun h => by cases h), fun j hj => ⟨w.heap.size, 0, rfl, ⟨.inr ⟨Nat.le_refl _, by rw [World.heap_alloc, Array.size_push]; omega⟩, hlt⟩, fun q hq => ?_⟩⟩
  obtain rfl : q = 0 := by omega
  have hcell : ∀ p, (w.alloc (.cells #[.int .i64 a1, .int .i64 a2, .int .i64 a3] e)).cell? ⟨w.heap.size, p, none⟩ = (#[Value.int .i64 a1, .int .i64 a2, .int .i64 a3])[p]? := fun p => by simp [World.cell?, World.heap_alloc]
  match j, hj with
  | 0, _ => exact ⟨.int .i64 a1, by rw [hcell]; rfl, rfl⟩
  | 1, _ => exact ⟨.int .i64 a2, by rw [hcell]; rfl, rfl⟩
  | 2, _ => exact ⟨.int .i64 a3, by rw [hcell]; rfl, rfl⟩
end
/-- A cursor: the code that it reads, its place, its seed. -/
abbrev curO (c : Value) (n : Nat) (F : Nat → Nat) (p s : Nat) : AObj := .cells [.cv c (.lst 1 n fun i _ => .int .u8 ((F i : Nat) : Int)), .int .i64 (p : Int), .int .u64 (s : Int)]
/-- Where a cursor stands behind at most k draws. -/
structure CurOk (p k p' s' : Nat) : Prop where
  ge : p ≤ p'
  le : p' ≤ p + k
  sd : s' < 18446744073709551616
theorem CurOk.gd {p k p' s s' : Nat} {b : Bool} (hs : s < 18446744073709551616) (h1 : b = true → CurOk p k p' s') (h2 : b = false → p' = p ∧ s' = s) : CurOk p k p' s' := by
  cases b with
  | true => exact h1 rfl
  | false => obtain ⟨rfl, rfl⟩ := h2 rfl; exact ⟨Nat.le_refl _, Nat.le_add_right _ _, hs⟩
/-- The contract of a function that is handed a cursor and draws. -/
def FnC (P : Program) (f : FuncId) (n : Nat) (F : Nat → Nat) (args : List SV) (p s : Nat) {X : Type} (φ : X → Nat → Nat → Prop) (r : X → SV) : Prop :=
  ∀ (c : Value) (ρ : Rho) (S : Nat → Prop) (w : World) (vs : List Value), MemOk ρ.base ρ S [(1000000, curO c n F p s)] w → Pre ρ.base w → RSs ρ w S (.one (.ptr 1000000 3 0 0) :: args) vs →
    Calls P f vs.toArray w fun e w' => ∃ x p' s' v, φ x p' s' ∧ e = .returned v ∧ Below ρ.base w w' ∧ Same S w S w' ∧ MemOk ρ.base ρ S [(1000000, curO c n F p' s')] w' ∧ DR w' (newS w w') (r x) v
/-- The contract of a function that yields fresh data of which only bounds are told. -/
def FnE (P : Program) (f : FuncId) (args : List SV) {X : Type} (φ : X → Prop) (r : X → SV) : Prop :=
  ∀ (w : World) (S : Nat → Prop) (vs : List Value), Rd S w → DSs w S args vs → Calls P f vs.toArray w fun e w' => ∃ x v, φ x ∧ e = .returned v ∧ DR w' (newS w w') (r x) v ∧ Below w.heap.size w w'
/-- What a walk holds, seen as fresh data: rows of its own, plain values. -/
inductive Fw (H : Heap) : AV → AV → Prop
  | int {k : IntKind} {n : Int} : Fw H (.int k n) (.int k n)
  | bool {b : Bool} : Fw H (.bool b) (.bool b)
  | str {s : ByteArray} : Fw H (.str s) (.str s)
  | cnil {sz : Nat} {g : Nat → Nat → AV} : Fw H (.con (.slice none 0 0)) (.lst sz 0 g)
  | own {id sz n : Nat} {g : Nat → Nat → AV} {o : AObj} : (id == 1000000) = false → H.lookup id = some o → o.sz = sz → n ≤ o.n → (∀ i j, i < n → j < sz → Fw H (o.f i j) (g i j)) → Fw H (.own id sz n) (.lst sz n g)
theorem Fw.sound {B L hb : Nat} {ρ : Rho} {S : Nat → Prop} {H : Heap} {w : World} {o0 : AObj} (hm : MemOk B ρ S H w) (hS : ∀ b, b < L → b ≠ hb → S b) (h0 : H.lookup 1000000 = some o0) (hn0 : 0 < o0.n) (h1 : (ρ 1000000).1 = hb) {x y : AV} (h : Fw H x y) : ∀ {v : Value}, R ρ w S x v → D w (freshTo L w) y v := by
  induction h with
  | int => exact fun h => h
  | bool => exact fun h => h
  | str => exact fun h => h
  | cnil =>
    intro v hv
    have e : v = Value.slice none 0 0 := hv
    exact ⟨none, 0, e, Nat.le_refl _, by decide, fun _ => rfl, fun i hi => absurd hi (by omega)⟩
  | @own id sz n g o hid ho hsz hn _ ih =>
    intro v hv
    subst hsz
    obtain ⟨A, hv, hn1, hn2, hA⟩ := hv
    refine ⟨A, _, hv, hn1, hn2, (fun e => by rcases hA with h | ⟨_, h⟩; (· rw [h] at e; cases e); (· exact h)), fun i hi => ?_⟩
    have hc : (ρ id).2 ≠ 0 := by omega
    have hlt := hm.blk ho hc
    obtain ⟨cs, e, k1, k2, k3, k4, k5, k6, k7⟩ := hm.obj id o ho hc
    have hne : (ρ id).1 ≠ hb := by
      rw [← h1]
      exact hm.inj id 1000000 o o0 ho h0 (by simpa using hid) hc (hm.pos h0 hn0)
    have hL : L ≤ (ρ id).1 := by
      rcases Nat.lt_or_ge (ρ id).1 L with h | h
      · exact absurd (hS _ h hne) k6
      · exact h
    refine ⟨(ρ id).1, 0, by rcases hA with h | ⟨_, h⟩; (· exact h); (· exact absurd h hc), ⟨hL, hlt⟩, fun j hj => ?_⟩
    obtain ⟨u, hu, hr⟩ := k7 i j (by omega) hj
    refine ⟨u, ?_, ih i j hi hj hr⟩
    simp [World.cell?, k1, hu]
def FwL (H : Heap) : List AV → List AV → Prop
  | [], [] => True
  | x :: l, y :: m => Fw H x y ∧ FwL H l m
  | _, _ => False
def FwS (H : Heap) : SV → SV → Prop
  | .one x, .one y => Fw H x y
  | .agg l, .agg m => FwL H l m
  | .tup2 (.one a) (.one b), .tup2 (.one c) (.one d) => Fw H a c ∧ Fw H b d
  | .tup3 (.one a) (.one b) (.one e), .tup3 (.one c) (.one d) (.one f) => Fw H a c ∧ Fw H b d ∧ Fw H e f
  | _, _ => False
theorem FwL.sound {B L hb : Nat} {ρ : Rho} {S : Nat → Prop} {H : Heap} {w : World} {o0 : AObj} (hm : MemOk B ρ S H w) (hS : ∀ b, b < L → b ≠ hb → S b) (h0 : H.lookup 1000000 = some o0) (hn0 : 0 < o0.n) (h1 : (ρ 1000000).1 = hb) : ∀ {l m : List AV} {us : List Value}, FwL H l m → RL ρ w S l us → DL w (freshTo L w) m us
  | [], [], _, _, h => h
  | _ :: _, _ :: _, _, ⟨g1, g2⟩, ⟨u, us, e, k1, k2⟩ => ⟨u, us, e, g1.sound hm hS h0 hn0 h1 k1, FwL.sound hm hS h0 hn0 h1 g2 k2⟩
  | [], _ :: _, _, h, _ => h.elim
  | _ :: _, [], _, h, _ => h.elim
theorem FwS.sound {B L hb : Nat} {ρ : Rho} {S : Nat → Prop} {H : Heap} {w : World} {o0 : AObj} (hm : MemOk B ρ S H w) (hS : ∀ b, b < L → b ≠ hb → S b) (h0 : H.lookup 1000000 = some o0) (hn0 : 0 < o0.n) (h1 : (ρ 1000000).1 = hb) {s t : SV} {v : Value} (h : FwS H s t) (hr : RS ρ w S s v) : DR w (freshTo L w) t v := by
  unfold FwS at h
  split at h
  · exact h.sound hm hS h0 hn0 h1 hr
  · obtain ⟨us, e, hl⟩ := hr
    exact ⟨us, e, FwL.sound hm hS h0 hn0 h1 h hl⟩
  · obtain ⟨a, b, e, g1, g2⟩ := hr
    exact ⟨a, b, e, h.1.sound hm hS h0 hn0 h1 g1, h.2.sound hm hS h0 hn0 h1 g2⟩
  · obtain ⟨a, b, c, e, g1, g2, g3⟩ := hr
    exact ⟨a, b, c, e, h.1.sound hm hS h0 hn0 h1 g1, h.2.1.sound hm hS h0 hn0 h1 g2, h.2.2.sound hm hS h0 hn0 h1 g3⟩
  · exact h.elim
/-- How a body that draws ends. -/
def RetC (P : Program) (fn : Func) (c : Value) (n : Nat) (F : Nat → Nat) {X : Type} (φ : X → Nat → Nat → Prop) (r : X → SV) : Exit → Sig → Prop
  | .ret, σ => ∃ x p' s' t, φ x p' s' ∧ ResL P σ fn.results.toList t ∧ FwS σ.heap t (r x) ∧ σ.heap.lookup 1000000 = some (curO c n F p' s')
  | .normal, σ => ∃ x p' s' t, φ x p' s' ∧ ResL P σ fn.results.toList t ∧ FwS σ.heap t (r x) ∧ σ.heap.lookup 1000000 = some (curO c n F p' s')
  | _, _ => False
theorem cur_view {ρ : Rho} {w : World} {S S' : Nat → Prop} {c : Value} {n : Nat} {F : Nat → Nat} {p s p' s' : Nat} (h : ∀ u, R ρ w S (.cv c (.lst 1 n fun i _ => .int .u8 ((F i : Nat) : Int))) u → R ρ w S' (.cv c (.lst 1 n fun i _ => .int .u8 ((F i : Nat) : Int))) u) {i j : Nat} {u : Value} (hr : R ρ w S ((curO c n F p s).f i j) u) : R ρ w S' ((curO c n F p s).f i j) u := by
  unfold curO AObj.f at hr ⊢
  match j with
  | 0 => exact h u hr
  | 1 => exact hr
  | 2 => exact hr
  | k + 3 => exact hr
theorem FnC.of_body {P : Program} {f : FuncId} {fn : Func} {b : Code} {n : Nat} {F : Nat → Nat} {args : List SV} {p s : Nat} {X : Type} {φ : X → Nat → Nat → Prop} {r : X → SV} (hf : P.funcs[f]? = some fn) (hb : fn.body = some b) (hle : args.length + 1 ≤ fn.ntmps)
    (h : ∀ w0 c, AW P fn.ntmps w0 b (RetC P fn c n F φ r) ⟨enumE 0 (.one (.ptr 1000000 3 0 0) :: args), [(1000000, curO c n F p s)]⟩) : FnC P f n F args p s φ r := by
  intro c ρ0 S w vs hm hpre hd
  have hl := hd.len
  have hlk : ([(1000000, curO c n F p s)] : Heap).lookup 1000000 = some (curO c n F p s) := by simp
  have hpos : (ρ0 1000000).2 ≠ 0 := hm.pos hlk (i := 0) Nat.zero_lt_one
  obtain ⟨cs0, e0, k1, k2, k3, k4, k5, k6, k7⟩ := hm.obj _ _ hlk hpos
  obtain ⟨u0, hu0, hr0⟩ := k7 0 0 Nat.zero_lt_one (Nat.zero_lt_succ 2)
  have hcv : u0 = c ∧ D w S (.lst 1 n fun i _ => .int .u8 ((F i : Nat) : Int)) c := by
    have hr0 : u0 = c ∧ D w S (.lst 1 n fun i _ => .int .u8 ((F i : Nat) : Int)) u0 := hr0
    exact ⟨hr0.1, hr0.1 ▸ hr0.2⟩
  let S0 : Nat → Prop := fun q => q < w.heap.size ∧ q ≠ (ρ0 1000000).1
  have hsub : ∀ q, S q → S0 q := fun q hq => ⟨hm.lt q hq, fun e => k6 (e ▸ hq)⟩
  have hsame0 : Same S w S0 w := ⟨hsub, fun _ _ => rfl⟩
  have only : ∀ id o, ([(1000000, curO c n F p s)] : Heap).lookup id = some o → id = 1000000 ∧ o = curO c n F p s := by
    intro id o ho
    rcases lookup_put ho with ⟨rfl, rfl⟩ | ⟨_, ho⟩
    · exact ⟨rfl, rfl⟩
    · simp at ho
  have hm0 : MemOk ρ0.base ρ0 S0 [(1000000, curO c n F p s)] w := by
    refine ⟨rfl, hm.low, fun q hq => hq.1, hm.cap, ?_, hm.inj, ?_⟩
    · intro id o ho hc
      obtain ⟨rfl, rfl⟩ := only id o ho
      refine ⟨cs0, e0, k1, k2, k3, k4, k5, fun hq => hq.2 rfl, fun i j hi hj => ?_⟩
      obtain ⟨u, hu, hr⟩ := k7 i j hi hj
      exact ⟨u, hu, hr.keep hsame0 (Rn.refl _ _)⟩
    · intro id m X hX
      have := (only id _ hX).2
      cases this
  refine calls_of_wp hf hb ?_
  refine h ⟨ρ0.base, w, S0, w, ρ0, hpre⟩ c ρ0 S0 _ w _ (fun e ρ S' σ a w' hs hq => ?_) ⟨?_, rfl, ⟨Below.refl _ _, Same.refl _ _, fun _ _ => .refl _ _⟩, hm0, ?_⟩
  · have fin : (∃ x p' s' t, φ x p' s' ∧ ResL P σ fn.results.toList t ∧ FwS σ.heap t (r x) ∧ σ.heap.lookup 1000000 = some (curO c n F p' s')) → a.defers = [] ∧ ∃ v, (results fn a.tmps).run P w' = .ok v w' ∧
        (∃ x p' s' v', φ x p' s' ∧ Ending.returned v = .returned v' ∧ Below ρ0.base w w' ∧ Same S w S w' ∧ MemOk ρ0.base ρ0 S [(1000000, curO c n F p' s')] w' ∧ DR w' (newS w w') (r x) v') := fun ⟨x, p', s', t, hφ, hr, hfw, hcur⟩ => by
      obtain ⟨v, hv, hrun⟩ := hr.run hs
      have hid := hs.below.ids 1000000 (Nat.le_refl _)
      have e1 : (ρ 1000000) = (ρ0 1000000) := hid.m
      have hS0 : Same S0 w S' w' := hs.below.same
      have hbl := hs.below.old
      have hsz : w.heap.size ≤ w'.heap.size := hbl.size
      have hSS : Same S w S w' := ⟨fun _ h => h, fun q hq => hS0.blk q (hsub q hq)⟩
      have hpos' : (ρ 1000000).2 ≠ 0 := by rw [e1]; exact hpos
      obtain ⟨cs, e, g1, g2, g3, g4, g5, g6, g7⟩ := hs.mem.obj _ _ hcur hpos'
      rw [e1] at g1 g2 g3 g4 g5 g6
      refine ⟨hs.defers, v, hrun, x, p', s', v, hφ, rfl, hbl, hSS, ?_, ?_⟩
      · have only' : ∀ id o, ([(1000000, curO c n F p' s')] : Heap).lookup id = some o → id = 1000000 ∧ o = curO c n F p' s' := by
          intro id o ho
          rcases lookup_put ho with ⟨rfl, rfl⟩ | ⟨_, ho⟩
          · exact ⟨rfl, rfl⟩
          · simp at ho
        refine ⟨rfl, Nat.le_trans hm.low hsz, fun q hq => Nat.lt_of_lt_of_le (hm.lt q hq) hsz, fun id o ho => ?_, fun id o ho hc => ?_, fun id id' o o' ho ho' hne => ?_, fun id m X hX => ?_⟩
        · obtain ⟨rfl, rfl⟩ := only' id o ho; exact g3
        · obtain ⟨rfl, rfl⟩ := only' id o ho
          refine ⟨cs, e, g1, g2, g3, g4, k5, k6, fun i j hi hj => ?_⟩
          obtain ⟨u, hu, hr⟩ := g7 i j hi hj
          refine ⟨u, hu, ?_⟩
          unfold curO AObj.f at hr ⊢
          match j with
          | 0 =>
            have hr : u = c ∧ D w' S' _ u := hr
            exact ⟨hr.1, by rw [hr.1]; exact hcv.2.keep hSS⟩
          | 1 => exact hr
          | 2 => exact hr
          | k + 3 => exact hr
        · obtain ⟨rfl, rfl⟩ := only' id o ho; exact absurd (only' id' o' ho').1.symm hne
        · cases (only' id _ hX).2
      · exact hfw.sound hs.mem (L := w.heap.size) (hb := (ρ0 1000000).1) (fun q h1 h2 => hS0.sub q ⟨h1, h2⟩) hcur Nat.zero_lt_one (by rw [e1]) hv
    cases e
    case ret => exact fin hq
    case normal => exact fin hq
    all_goals exact hq.elim
  · simp [hl]; omega
  · intro t s' ht
    obtain ⟨j, u, e1, e2, e3⟩ := hd.get ht
    have hj : j < vs.length := (List.getElem?_eq_some_iff.1 e2).1
    have : ((vs.toArray ++ Array.replicate (fn.ntmps - vs.toArray.size) undef).getD t undef) = u := by
      rw [Array.getD_eq_getD_getElem?, Array.getElem?_append_left (by simp; omega)]
      simp [show t = j by omega, e2]
    show RS _ w S0 s' ((vs.toArray ++ Array.replicate (fn.ntmps - vs.toArray.size) undef).getD t undef)
    rw [this]
    exact e3.keep hsame0 (Rn.refl _ _)
def RetE (P : Program) (fn : Func) {X : Type} (φ : X → Prop) (r : X → SV) : Exit → Sig → Prop
  | .ret, σ => ∃ x s, φ x ∧ ResL P σ fn.results.toList s ∧ FvS σ.heap s (r x)
  | .normal, σ => ∃ x s, φ x ∧ ResL P σ fn.results.toList s ∧ FvS σ.heap s (r x)
  | _, _ => False
theorem FnE.of_body {P : Program} {f : FuncId} {fn : Func} {c : Code} {args : List SV} {X : Type} {φ : X → Prop} {r : X → SV} (hf : P.funcs[f]? = some fn) (hb : fn.body = some c) (hle : args.length ≤ fn.ntmps)
    (h : ∀ w0, AW P fn.ntmps w0 c (RetE P fn φ r) ⟨enumE 0 args, []⟩) : FnE P f args φ r := by
  intro w S vs hS hd
  have hl := hd.len
  refine calls_of_wp hf hb ?_
  refine h ⟨w.heap.size, w, S, w, ⟨fun _ => (0, 0), w.heap.size, fun _ _ => undef, fun _ _ _ => False, fun _ => 0⟩, hS.pre⟩ ⟨fun _ => (0, 0), w.heap.size, fun _ _ => undef, fun _ _ _ => False, fun _ => 0⟩ S _ w _ (fun e ρ S' σ a w' hs hq => ?_) ⟨?_, rfl, ⟨Below.refl _ _, Same.refl _ _, fun _ _ => .refl _ _⟩, ⟨rfl, Nat.le_refl _, hS, fun id o ho => by simp at ho, fun id o ho => by simp at ho, fun id id' o o' ho => by simp at ho, fun id n X ho => by simp at ho⟩, ?_⟩
  · have fin : (∃ x s, φ x ∧ ResL P σ fn.results.toList s ∧ FvS σ.heap s (r x)) → a.defers = [] ∧ ∃ v, (results fn a.tmps).run P w' = .ok v w' ∧ (∃ x v', φ x ∧ Ending.returned v = .returned v' ∧ DR w' (newS w w') (r x) v' ∧ Below w.heap.size w w') := fun ⟨x, s, hφ, hr, hfv⟩ => by
      obtain ⟨v, hv, hrun⟩ := hr.run hs
      exact ⟨hs.defers, v, hrun, x, v, hφ, rfl, hfv.sound hs.mem hv, hs.below.old⟩
    cases e
    case ret => exact fin hq
    case normal => exact fin hq
    all_goals exact hq.elim
  · simp [hl]; omega
  · intro t s ht
    obtain ⟨j, u, e1, e2, e3⟩ := hd.get ht
    have hj : j < vs.length := (List.getElem?_eq_some_iff.1 e2).1
    have : ((vs.toArray ++ Array.replicate (fn.ntmps - vs.toArray.size) undef).getD t undef) = u := by
      rw [Array.getD_eq_getD_getElem?, Array.getElem?_append_left (by simp; omega)]
      simp [show t = j by omega, e2]
    show RS _ w S s ((vs.toArray ++ Array.replicate (fn.ntmps - vs.toArray.size) undef).getD t undef)
    rw [this]
    exact e3.toRS
section
variable {P : Program} {N : Nat} {w0 : Start} {σ : Sig} {ops : Array Oper} {rest : List Oper} {o : Oper} {Q : Sig → Prop}
theorem lookup_drop {id : Nat} : ∀ {H : Heap} {k : Nat} {q : AObj}, (H.filter fun p => p.1 != id).lookup k = some q → H.lookup k = some q ∧ k ≠ id
  | [], _, _, h => by simp at h
  | (a, b) :: l, k, q, h => by
    by_cases e : a = id
    · subst e
      rw [List.filter_cons_of_neg (by simp)] at h
      obtain ⟨h1, h2⟩ := lookup_drop h
      exact ⟨by rw [List.lookup_cons, show (k == a) = false by simpa using h2]; exact h1, h2⟩
    · rw [List.filter_cons_of_pos (by simpa using e)] at h
      rcases lookup_put h with ⟨rfl, rfl⟩ | ⟨hne, h⟩
      · exact ⟨by simp, e⟩
      · obtain ⟨h1, h2⟩ := lookup_drop h
        exact ⟨by rw [List.lookup_cons, show (k == a) = false by simpa using hne]; exact h1, h2⟩
/-- More blocks are read, of which no object is one. -/
theorem St.widen {ρ : Rho} {S T : Nat → Prop} {a : Act} {w : World} (hs : St N w0 ρ S σ a w) (hT : ∀ b, T b → b < w.heap.size) (ho : ∀ id o, σ.heap.lookup id = some o → (ρ id).2 ≠ 0 → ¬ T (ρ id).1) (ht : ∀ id n X i b, σ.heap.lookup id = some (.trees n X) → i < n → ρ.tb id i b → ¬ T b) :
    Same S w (fun b => S b ∨ T b) w ∧ St N w0 ρ (fun b => S b ∨ T b) σ a w := by
  have hsame : Same S w (fun b => S b ∨ T b) w := ⟨fun b h => .inl h, fun b h => rfl⟩
  refine ⟨hsame, hs.size, hs.defers, hs.below.step (Below.refl _ _) hsame, ⟨hs.mem.base, hs.mem.low, ?_, hs.mem.cap, ?_, hs.mem.inj, ?_⟩, fun t s ht => (hs.env t s ht).keep hsame (Rn.refl _ _)⟩
  · rintro b (h | h)
    · exact hs.mem.lt b h
    · exact hT b h
  · intro id o hl hc
    obtain ⟨cs, e, h1, h2, h3, h4, h5, h6, h7⟩ := hs.mem.obj id o hl hc
    refine ⟨cs, e, h1, h2, h3, h4, h5, ?_, fun i j hi hj => ?_⟩
    · rintro (h | h)
      · exact h6 h
      · exact ho id o hl hc h
    · obtain ⟨u, hu, hr⟩ := h7 i j hi hj
      exact ⟨u, hu, hr.keep hsame (Rn.refl _ _)⟩
  · refine hs.mem.treeOf (Nat.le_refl _) (fun k n X hX => ⟨X, hX, fun _ _ => rfl, rfl, rfl, rfl⟩) (fun k n X i b hX hi hb' => ?_) (fun k p hp hc => .inl ⟨p, hp, rfl⟩)
    obtain ⟨q1, q2, q3, _⟩ := (hs.mem.tree k n X hX i hi).2 b hb'
    refine ⟨rfl, q2, ?_⟩
    rintro (h | h)
    · exact q3 h
    · exact ht k n X i b hX hi hb' h
/-- A call that is handed the cursor. -/
theorem St.curCall {ρ : Rho} {S : Nat → Prop} {a : Act} {w : World} (hs : St N w0 ρ S σ a w) {f id p s n : Nat} {c : Value} {F : Nat → Nat} {xs : List Operand} {ts : Array TypeId} {args : List SV} {Hr : Heap} {X : Type} {φ : X → Nat → Nat → Prop} {r : X → SV} (ho : o.op = .call { callee := .value (.func f), args := xs.toArray, argTypes := ts })
    (hF : FnC P f n F args p s φ r) (hB : callB P f = true) (hk : KnG σ Hr (fun _ => id) xs (.one (.ptr 1000000 3 0 0) :: args))
    (hH : σ.heap.lookup id = some (curO c n F p s))
    (hr : ∀ k q, Hr.lookup k = some q → σ.heap.lookup k = some q ∧ k ≠ id) {K : Act → World → Prop} {Q' : Exit → Act → World → Prop}
    (h : ∀ x p' s' v S' w', φ x p' s' → St N w0 ρ S' ⟨σ.env, (id, curO c n F p' s') :: Hr⟩ a w' → RS ρ w' S' (r x).fr v → K (a.put o.dst v) w') : o.wp P a w K Q' := by
  let g : Nat → Nat := fun _ => id
  have hpos : (ρ id).2 ≠ 0 := hs.mem.pos hH (i := 0) Nat.zero_lt_one
  obtain ⟨cs0, e0, k1, k2, k3, k4, k5, k6, k7⟩ := hs.mem.obj _ _ hH hpos
  have hmr : MemOk w0.base ρ S Hr w := hs.mem.le' fun k q hq => HLe.refl (hr k q hq).1
  have hsame : Same S w (withOwn ρ Hr S) w := ⟨fun _ h => .inl h, fun _ _ => rfl⟩
  have only : ∀ {p s : Nat} k q, ([(1000000, curO c n F p s)] : Heap).lookup k = some q → k = 1000000 ∧ q = curO c n F p s := by
    intro p s k q ho
    rcases lookup_put ho with ⟨rfl, rfl⟩ | ⟨_, ho⟩
    · exact ⟨rfl, rfl⟩
    · simp at ho
  have hnot : ¬ withOwn ρ Hr S (ρ id).1 := by
    rintro (hb | ⟨id', p', hp', hc', e'⟩ | ⟨id', n', X', i', hX', hi', hb'⟩)
    · exact k6 hb
    · exact hs.mem.inj id' id p' _ (hr id' p' hp').1 hH (hr id' p' hp').2 hc' hpos e'
    · exact ((hs.mem.tree id' n' X' (hr id' _ hX').1 i' hi').2 _ hb').2.2.2.1 id _ hH hpos rfl
  have hm : MemOk (ρ.ren g).base (ρ.ren g) (withOwn ρ Hr S) [(1000000, curO c n F p s)] w := by
    refine ⟨rfl, by rw [show (ρ.ren g).base = w0.base from hs.mem.base]; exact hs.mem.low, ?_, ?_, ?_, ?_, ?_⟩
    · rintro b (hb | ⟨id, p, hp, hc, rfl⟩ | ⟨id, n, X, i, hX, hi, hb⟩)
      · exact hs.mem.lt b hb
      · exact hs.mem.blk (hr id p hp).1 hc
      · exact ((hs.mem.tree id n X (hr id _ hX).1 i hi).2 b hb).2.1
    · intro k q hq
      obtain ⟨rfl, rfl⟩ := only k q hq
      exact k3
    · intro k q hq hc
      obtain ⟨rfl, rfl⟩ := only k q hq
      refine ⟨cs0, e0, k1, k2, k3, k4, by rw [show (ρ.ren g).base = w0.base from hs.mem.base]; exact k5, hnot, fun i j hi hj => ?_⟩
      obtain ⟨u, hu, hru⟩ := k7 i j hi hj
      refine ⟨u, hu, ?_⟩
      unfold curO AObj.f at hru ⊢
      match j with
      | 0 =>
        have hru : u = c ∧ D w S _ u := hru
        exact ⟨hru.1, hru.2.keep hsame⟩
      | 1 => exact hru
      | 2 => exact hru
      | k + 3 => exact hru
    · intro k k' q q' hq hq' hne
      exact absurd ((only k q hq).1.trans (only k' q' hq').1.symm) hne
    · intro k m X hX
      cases (only k _ hX).2
  have h2 := hF c (ρ.ren g) (withOwn ρ Hr S) w _ hm (show Pre ρ.base w by rw [hs.mem.base]; exact hs.preB) (hk.sound hs hmr hsame)
  have e : (execOp a.eval o).run P w = .ok (.enter f (xs.map a.eval).toArray) w := by
    have := execCall (P := P) (ev := a.eval) (caps := #[]) ho rfl hB w
    simpa using this
  unfold Oper.wp
  rw [e]
  refine Calls.mono h2 fun e w' ⟨x, p', s', v, hφ, he, hb, hsm, hm', hv⟩ => ?_
  subst he
  have hbb : (ρ.ren g).base = w0.base := hs.mem.base
  rw [hbb] at hb hm'
  have hkeep : Same S w S w' := ⟨fun _ h => h, fun b hb' => hsm.blk b (.inl hb')⟩
  have hl' : ([(1000000, curO c n F p' s')] : Heap).lookup 1000000 = some (curO c n F p' s') := by simp
  obtain ⟨cs, e1, g1, g2, g3, g4, g5, g6, g7⟩ := hm'.obj 1000000 _ hl' hpos
  have hheap : ∀ k q, ((id, curO c n F p' s') :: Hr : Heap).lookup k = some q → (k = id ∧ q = curO c n F p' s') ∨ (k ≠ id ∧ Hr.lookup k = some q) := by
    intro k q hq
    rcases lookup_put hq with ⟨rfl, rfl⟩ | ⟨h1, h2⟩
    · exact .inl ⟨rfl, rfl⟩
    · exact .inr ⟨h1, h2⟩
  have hst : St N w0 ρ S ⟨σ.env, (id, curO c n F p' s') :: Hr⟩ a w' := by
    refine ⟨hs.size, hs.defers, hs.below.step hb hkeep, ⟨hs.mem.base, Nat.le_trans hs.mem.low hb.size, fun b hb' => Nat.lt_of_lt_of_le (hs.mem.lt b hb') hb.size, ?_, ?_, ?_, ?_⟩, fun t s ht => (hs.env t s ht).keep hkeep (Rn.refl _ _)⟩
    · intro k q hq
      rcases hheap k q hq with ⟨rfl, rfl⟩ | ⟨_, hq⟩
      · exact g3
      · exact hmr.cap k q hq
    · intro k q hq hc
      rcases hheap k q hq with ⟨rfl, rfl⟩ | ⟨_, hq⟩
      · refine ⟨cs, e1, g1, g2, g3, g4, k5, k6, fun i j hi hj => ?_⟩
        obtain ⟨u, hu, hru⟩ := g7 i j hi hj
        refine ⟨u, hu, ?_⟩
        obtain ⟨u0, hu0, hr0⟩ := k7 0 0 Nat.zero_lt_one (Nat.zero_lt_succ 2)
        have hr0 : u0 = c ∧ D w S (.lst 1 n fun i _ => .int .u8 ((F i : Nat) : Int)) u0 := hr0
        unfold curO AObj.f at hru ⊢
        match j with
        | 0 =>
          have hru : u = c ∧ D w' _ _ u := hru
          exact ⟨hru.1, by rw [hru.1, ← hr0.1]; exact hr0.2.keep hkeep⟩
        | 1 => exact hru
        | 2 => exact hru
        | k + 3 => exact hru
      · obtain ⟨cs, e, h1, h2, h3, h4, h5, h6, h7⟩ := hmr.obj k q hq hc
        refine ⟨cs, e, by rw [hsm.blk _ (.inr (.inl ⟨k, q, hq, hc, rfl⟩))]; exact h1, h2, h3, h4, h5, h6, fun i j hi hj => ?_⟩
        obtain ⟨u, hu, hru⟩ := h7 i j hi hj
        exact ⟨u, hu, hru.keep hkeep (Rn.refl _ _)⟩
    · intro k k' q q' hq hq' hne hc hc'
      have old : ∀ k q, ((id, curO c n F p' s') :: Hr : Heap).lookup k = some q → ∃ q, σ.heap.lookup k = some q := by
        intro k q hq
        rcases hheap k q hq with ⟨rfl, rfl⟩ | ⟨_, hq⟩
        · exact ⟨_, hH⟩
        · exact ⟨q, (hr k q hq).1⟩
      obtain ⟨z, hz⟩ := old k q hq
      obtain ⟨z', hz'⟩ := old k' q' hq'
      exact hs.mem.inj k k' z z' hz hz' hne hc hc'
    · refine hmr.treeOf (Nat.le_refl _) (fun k m X hX => ?_) (fun k m X i b hX hi hb' => ?_) (fun k q hq hc => ?_)
      · rcases hheap k _ hX with ⟨_, h⟩ | ⟨_, h⟩
        · cases h
        · exact ⟨X, h, fun _ _ => rfl, rfl, rfl, rfl⟩
      · obtain ⟨q1, q2, q3, _⟩ := (hmr.tree k m X hX i hi).2 b hb'
        exact ⟨hsm.blk b (.inr (.inr ⟨k, m, X, i, hX, hi, hb'⟩)), Nat.lt_of_lt_of_le q2 hb.size, q3⟩
      · rcases hheap k q hq with ⟨rfl, rfl⟩ | ⟨_, hq⟩
        · exact .inr fun k2 m X i hX hi hb' => ((hs.mem.tree k2 m X (hr k2 _ hX).1 i hi).2 _ hb').2.2.2.1 k _ hH hc rfl
        · exact .inl ⟨q, hq, rfl⟩
  have hblk : ∀ k q, ((id, curO c n F p' s') :: Hr : Heap).lookup k = some q → (ρ k).2 ≠ 0 → (ρ k).1 < w.heap.size := by
    intro k q hq hc
    rcases hheap k q hq with ⟨rfl, rfl⟩ | ⟨_, hq⟩
    · exact hs.mem.blk hH hc
    · exact hmr.blk hq hc
  obtain ⟨w1, w2⟩ := hst.widen (T := newS w w') (fun b hb => hb.2) (fun k q hq hc hn => by have := hblk k q hq hc; have := hn.1; omega) (fun k m X i b hX hi hb' hn => by
    rcases hheap k _ hX with ⟨_, h⟩ | ⟨_, h⟩
    · cases h
    · have := ((hmr.tree k m X h i hi).2 b hb').2.1
      have := hn.1
      omega)
  exact h x p' s' v _ w' hφ w2 (hv.fr fun b hb => ⟨.inr hb, by rw [hs.mem.base]; exact Nat.le_trans hs.mem.low hb.1⟩)
theorem ARun.cur {f id d p s n : Nat} {c : Value} {F : Nat → Nat} {xs : List Operand} {ts : Array TypeId} {args : List SV} {X : Type} {φ : X → Nat → Nat → Prop} {r : X → SV} (ho : o.op = .call { callee := .value (.func f), args := xs.toArray, argTypes := ts })
    (hF : FnC P f n F args p s φ r) (hB : callB P f = true) (hk : KnG σ (σ.heap.filter fun p => p.1 != id) (fun _ => id) xs (.one (.ptr 1000000 3 0 0) :: args))
    (hH : σ.heap.lookup id = some (curO c n F p s))
    (hg : o.guard = none) (hd : o.dst = some d) (hN : d < N) (h : ∀ x p' s', φ x p' s' → ARun P N w0 ops Q rest ⟨(d, (r x).fr) :: σ.env, (id, curO c n F p' s') :: σ.heap.filter fun p => p.1 != id⟩) : ARun P N w0 ops Q (o :: rest) σ := by
  intro ρ S a w Q' hQ hs
  refine wpList_plain hg fun K hK => ?_
  refine hs.curCall ho hF hB hk hH (fun _ _ h => lookup_drop h) fun x p' s' v S' w' hφ hst hv => ?_
  rw [hd]
  exact hK _ _ (h x p' s' hφ ρ S' _ w' Q' hQ (hst.put hN hv))
theorem ARun.gcur {f id d p s n g t : Nat} {want b : Bool} {c : Value} {F : Nat → Nat} {xs : List Operand} {ts : Array TypeId} {args : List SV} {X : Type} [Inhabited X] {φ : X → Nat → Nat → Prop} {r : X → SV} (hgate : Gate σ t want b) (ho : o.op = .call { callee := .value (.func f), args := xs.toArray, argTypes := ts })
    (hF : FnC P f n F args p s φ r) (hB : callB P f = true) (hk : b = true → KnG σ (σ.heap.filter fun p => p.1 != id) (fun _ => id) xs (.one (.ptr 1000000 3 0 0) :: args))
    (hH : σ.heap.lookup id = some (curO c n F p s))
    (hg : o.guard = some (g, want)) (hgd : (ops[g]?).bind (·.dst) = some t) (ht : t < N) (hd : o.dst = some d) (hN : d < N) (h : ∀ x p' s', (b = true → φ x p' s') → (b = false → p' = p ∧ s' = s) → ARun P N w0 ops Q rest ⟨(d, .gd b (r x).fr) :: σ.env, (id, curO c n F p' s') :: σ.heap.filter fun p => p.1 != id⟩) : ARun P N w0 ops Q (o :: rest) σ := by
  intro ρ S a w Q' hQ hs
  have hw := hgate.sound (ops := ops) hs ht hg hgd
  refine wpList_step fun K hK => ?_
  cases b with
  | true =>
    rw [if_pos hw]
    refine hs.curCall ho hF hB (hk rfl) hH (fun _ _ h => lookup_drop h) fun x p' s' v S' w' hφ hst hv => ?_
    rw [hd]
    exact hK _ _ (h x p' s' (fun _ => hφ) (fun e => by cases e) ρ S' _ w' Q' hQ (hst.put hN (s := .gd true _) ⟨fun _ => hv, (fun e => by cases e)⟩))
  | false =>
    rw [if_neg (by rw [hw]; simp), hd]
    have hst : St N w0 ρ S ⟨σ.env, (id, curO c n F p s) :: σ.heap.filter fun p => p.1 != id⟩ a w := ⟨hs.size, hs.defers, hs.below, hs.mem.le' (fun k q hq => HLe.refl (by
      rcases lookup_put hq with ⟨rfl, rfl⟩ | ⟨_, hq⟩
      · exact hH
      · exact (lookup_drop hq).1)), hs.env⟩
    exact hK _ _ (h default p s (fun e => by cases e) (fun _ => ⟨rfl, rfl⟩) ρ S _ w Q' hQ (hst.put hN (s := .gd false _) ⟨(fun e => by cases e), fun _ => rfl⟩))
/-- A call of a function that yields fresh data of which only bounds are told. -/
theorem ARun.draw {f d : Nat} {xs : List Operand} {ts : Array TypeId} {args : List SV} {X : Type} {φ : X → Prop} {r : X → SV} (ho : o.op = .call { callee := .value (.func f), args := xs.toArray, argTypes := ts })
    (hF : FnE P f args φ r) (hB : callB P f = true) (hk : KnA σ xs args)
    (hg : o.guard = none) (hd : o.dst = some d) (hN : d < N) (h : ∀ x, φ x → ARun P N w0 ops Q rest ⟨(d, (r x).fr) :: σ.env, σ.heap⟩) : ARun P N w0 ops Q (o :: rest) σ := by
  intro ρ S a w Q' hQ hs
  refine wpList_plain hg fun K hK => ?_
  have h2 := hF w _ _ ⟨withOwn_lt hs, hs.pre⟩ (KnA.sound hs hk)
  have e : (execOp a.eval o).run P w = .ok (.enter f (xs.map a.eval).toArray) w := by
    have := execCall (P := P) (ev := a.eval) (caps := #[]) ho rfl hB w
    simpa using this
  unfold Oper.wp
  rw [e]
  refine Calls.mono h2 fun e w' ⟨x, v, hφ, he, hv, hb⟩ => ?_
  subst he
  obtain ⟨g1, g2⟩ := hs.grow hb
  have hlow := hs.mem.low
  have hbase := hs.mem.base
  rw [hd]
  exact hK _ _ (h x hφ ρ _ _ w' Q' hQ (g2.put hN (hv.fr fun b hb' => ⟨.inr hb', by have := hb'.1; omega⟩)))
/-- The value in a slot, named. -/
theorem AW.cv {b : Code} {Q2 : Exit → Sig → Prop} {t sz n : Nat} {F : Nat → Nat → AV} (ht : σ.env.lookup t = some (.one (.lst sz n F))) (hk : ∀ c, AW P N w0 b Q2 ⟨(t, .one (.cv c (.lst sz n F))) :: σ.env, σ.heap⟩) : AW P N w0 b Q2 σ := by
  intro ρ S a w Q' hQ hs
  have h0 := hs.env _ _ ht
  refine hk (a.tmps.getD t undef) ρ S a w Q' hQ ⟨hs.size, hs.defers, hs.below, hs.mem, fun u s hu => ?_⟩
  rcases lookup_put hu with ⟨rfl, rfl⟩ | ⟨_, hu⟩
  · exact ⟨rfl, h0⟩
  · exact hs.env u s hu
end
theorem OpensC.byte {P : Program} {t : TypeId} (ht : P.underlying t = some (.int .u8)) : OpensC P t (fun x : UInt8 => [.int .u8 ((x.toNat : Nat) : Int)]) := fun _ _ _ _ _ _ h => by
  obtain ⟨n, rfl, _, hw⟩ := DataW.trod_int ht h
  have hw2 : 0 ≤ n ∧ n ≤ 255 := by simpa [Lit.wf, IntKind.min, IntKind.max, IntKind.bits, IntKind.signed] using hw
  refine ⟨UInt8.ofNat n.toNat, _, _, rfl, ?_, rfl⟩
  show Value.int .u8 n = Value.int .u8 _
  rw [UInt8.toNat_ofNat']
  congr 1
  omega
end Go.Proofs.Ytmkhahiefdcinaa

/-
  What the reference's cursor draws: numbers.
-/
namespace Go.Proofs.Ytmkhahiefdcinaa
open Go.ChangeShapes Go.WideShapes Go.ChangeAt Go.RowKit Go.BigFrame Go.Deep
set_option linter.unusedVariables false
set_option linter.unusedSimpArgs false
theorem vd1_ca_58 : callB Try.prog 58 = true := by kernel_rfl
theorem vd1_ca_69 : callB Try.prog 69 = true := by kernel_rfl
theorem vd1_cv_3_74_.u64 : convB Try.prog 3 74 .u64 = true := by kernel_rfl
theorem vd1_cv_5_3_.i64 : convB Try.prog 5 3 .i64 = true := by kernel_rfl
theorem vd1_cv_74_3_.i64 : convB Try.prog 74 3 .i64 = true := by kernel_rfl
theorem vd1_el_30_1 : elemB Try.prog 30 1 = true := by kernel_rfl
theorem vd1_el_47_1 : elemB Try.prog 47 1 = true := by kernel_rfl
theorem vd1_fi_76_0_0 : fieldB Try.prog 76 0 0 = true := by kernel_rfl
theorem vd1_fi_76_1_1 : fieldB Try.prog 76 1 1 = true := by kernel_rfl
theorem vd1_fi_76_2_2 : fieldB Try.prog 76 2 2 = true := by kernel_rfl
theorem vd1_pl_3 : plainB Try.prog 3 = true := by kernel_rfl
theorem vd1_pl_47 : plainB Try.prog 47 = true := by kernel_rfl
theorem vd1_pl_5 : plainB Try.prog 5 = true := by kernel_rfl
theorem vd1_pl_74 : plainB Try.prog 74 = true := by kernel_rfl
theorem vd1_sl_30 : sliceB Try.prog 30 = true := by kernel_rfl
theorem vd1_sl_47 : sliceB Try.prog 47 = true := by kernel_rfl
theorem vd1_sz_3_1 : sizeB Try.prog 3 1 = true := by kernel_rfl
theorem vd1_sz_74_1 : sizeB Try.prog 74 1 = true := by kernel_rfl
theorem v_Next (n : Nat) (F : Nat → Nat) (hF : ∀ i, F i < 256) (p s : Nat) (hp : p ≤ 2000000000) (hs : s < 18446744073709551616) : FnC Try.prog 69 n F [] p s (fun (x : Nat) p' s' => x < 256 ∧ CurOk p 1 p' s') (fun (x : Nat) => .one (.int .i64 (x : Int))) := by
  have hF' := hF p
  refine FnC.of_body (fn := Try.f69) Try.func69 rfl (Nat.le_of_ble_eq_true rfl) ?_
  intro w0 c
  show AW _ 62 _ _ _ _
  refine AW.seq ?_
  refine AW.region ?_
  refine ARun.pure (PureOp.assign rfl .int) rfl rfl (Nat.le_of_ble_eq_true rfl) ?_
  refine ARun.nil ?_
  refine AW.seq ?_
  refine AW.region ?_
  refine ARun.pure (PureOp.assign rfl .int) rfl rfl (Nat.le_of_ble_eq_true rfl) ?_
  refine ARun.nil ?_
  refine AW.seq ?_
  refine AW.seq ?_
  refine AW.any (by kernel_rfl) (by kernel_rfl) ?_
  refine AD.pure (PureOp.move rfl (.tmp rfl)) rfl rfl (Nat.le_of_ble_eq_true rfl) ?_
  refine AD.pure (PureOp.nilPtr rfl (.tmp rfl)) rfl rfl (Nat.le_of_ble_eq_true rfl) ?_
  refine AD.pure (PureOp.fieldPtr rfl (.tmp rfl) vd1_fi_76_1_1) rfl rfl (Nat.le_of_ble_eq_true rfl) ?_
  refine AD.pure (PureOp.loadPtr rfl (.tmp rfl) vd1_pl_3 rfl rfl (Nat.le_of_ble_eq_true rfl) (Nat.le_of_ble_eq_true rfl)) rfl rfl (Nat.le_of_ble_eq_true rfl) ?_
  refine AD.pure (PureOp.move rfl (.tmp rfl)) rfl rfl (Nat.le_of_ble_eq_true rfl) ?_
  refine AD.pure (PureOp.nilPtr rfl (.tmp rfl)) rfl rfl (Nat.le_of_ble_eq_true rfl) ?_
  refine AD.pure (PureOp.fieldPtr rfl (.tmp rfl) vd1_fi_76_0_0) rfl rfl (Nat.le_of_ble_eq_true rfl) ?_
  refine AD.pure (PureOp.loadPtr rfl (.tmp rfl) vd1_pl_47 rfl rfl (Nat.le_of_ble_eq_true rfl) (Nat.le_of_ble_eq_true rfl)) rfl rfl (Nat.le_of_ble_eq_true rfl) ?_
  refine AD.pure (PureOp.lenLst rfl (.cv (.tmp rfl)) vd1_sl_47) rfl rfl (Nat.le_of_ble_eq_true rfl) ?_
  refine AD.pure (PureOp.intOp rfl (.tmp rfl) (.tmp rfl) rfl) rfl rfl (Nat.le_of_ble_eq_true rfl) ?_
  refine AD.nil ?_
  refine AW.cond (.tmp rfl) (fun hb1 => ?_) (fun hb1 => ?_)
  · have _u := True.intro
    replace hb1 := of_decide_eq_true hb1
    refine AW.any (by kernel_rfl) (by kernel_rfl) ?_
    refine AD.pure (PureOp.move rfl (.tmp rfl)) rfl rfl (Nat.le_of_ble_eq_true rfl) ?_
    refine AD.pure (PureOp.nilPtr rfl (.tmp rfl)) rfl rfl (Nat.le_of_ble_eq_true rfl) ?_
    refine AD.pure (PureOp.fieldPtr rfl (.tmp rfl) vd1_fi_76_0_0) rfl rfl (Nat.le_of_ble_eq_true rfl) ?_
    refine AD.pure (PureOp.loadPtr rfl (.tmp rfl) vd1_pl_47 rfl rfl (Nat.le_of_ble_eq_true rfl) (Nat.le_of_ble_eq_true rfl)) rfl rfl (Nat.le_of_ble_eq_true rfl) ?_
    refine AD.pure (PureOp.move rfl (.tmp rfl)) rfl rfl (Nat.le_of_ble_eq_true rfl) ?_
    refine AD.pure (PureOp.nilPtr rfl (.tmp rfl)) rfl rfl (Nat.le_of_ble_eq_true rfl) ?_
    refine AD.pure (PureOp.fieldPtr rfl (.tmp rfl) vd1_fi_76_1_1) rfl rfl (Nat.le_of_ble_eq_true rfl) ?_
    refine AD.pure (PureOp.loadPtr rfl (.tmp rfl) vd1_pl_3 rfl rfl (Nat.le_of_ble_eq_true rfl) (Nat.le_of_ble_eq_true rfl)) rfl rfl (Nat.le_of_ble_eq_true rfl) ?_
    refine AD.pure (PureOp.indexLst (i := p) rfl (.cv (.tmp rfl)) vd1_el_47_1 (.tmp rfl) rfl (by omega)) rfl rfl (Nat.le_of_ble_eq_true rfl) ?_
    refine AD.pure (PureOp.loadRef rfl (.tmp rfl) vd1_pl_5 (Nat.le_of_ble_eq_true rfl)) rfl rfl (Nat.le_of_ble_eq_true rfl) ?_
    refine AD.pure (PureOp.conv (b := ((F p : Nat) : Int)) rfl (.tmp rfl) vd1_cv_5_3_.i64 (wrap_id (by omega) (by omega))) rfl rfl (Nat.le_of_ble_eq_true rfl) ?_
    refine AD.pure (PureOp.assign rfl (.tmp rfl)) rfl rfl (Nat.le_of_ble_eq_true rfl) ?_
    refine AD.nil ?_
    refine AW.seq ?_
    refine AW.region ?_
    refine ARun.pure (PureOp.move rfl (.tmp rfl)) rfl rfl (Nat.le_of_ble_eq_true rfl) ?_
    refine ARun.pure (PureOp.nilPtr rfl (.tmp rfl)) rfl rfl (Nat.le_of_ble_eq_true rfl) ?_
    refine ARun.pure (PureOp.fieldPtr rfl (.tmp rfl) vd1_fi_76_1_1) rfl rfl (Nat.le_of_ble_eq_true rfl) ?_
    refine ARun.pure (PureOp.loadPtr rfl (.tmp rfl) vd1_pl_3 rfl rfl (Nat.le_of_ble_eq_true rfl) (Nat.le_of_ble_eq_true rfl)) rfl rfl (Nat.le_of_ble_eq_true rfl) ?_
    refine ARun.pure (PureOp.add (c := ((p + 1 : Nat) : Int)) rfl (.tmp rfl) .int (by rw [wrap_id (by omega) (by omega)]; omega)) rfl rfl (Nat.le_of_ble_eq_true rfl) ?_
    refine ARun.pure (PureOp.nilPtr rfl (.tmp rfl)) rfl rfl (Nat.le_of_ble_eq_true rfl) ?_
    refine ARun.pure (PureOp.fieldPtr rfl (.tmp rfl) vd1_fi_76_1_1) rfl rfl (Nat.le_of_ble_eq_true rfl) ?_
    refine ARun.store rfl (.tmp rfl) (.tmp rfl) trivial rfl (Nat.le_of_ble_eq_true rfl) vd1_sz_3_1 rfl rfl ?_
    refine ARun.nil ?_
    refine AW.seq ?_
    refine AW.region ?_
    refine ARun.pure (PureOp.move rfl (.tmp rfl)) rfl rfl (Nat.le_of_ble_eq_true rfl) ?_
    refine ARun.pure (PureOp.move rfl (.tmp rfl)) rfl rfl (Nat.le_of_ble_eq_true rfl) ?_
    refine ARun.pure (PureOp.nilPtr rfl (.tmp rfl)) rfl rfl (Nat.le_of_ble_eq_true rfl) ?_
    refine ARun.pure (PureOp.fieldPtr rfl (.tmp rfl) vd1_fi_76_2_2) rfl rfl (Nat.le_of_ble_eq_true rfl) ?_
    refine ARun.pure (PureOp.loadPtr rfl (.tmp rfl) vd1_pl_74 rfl rfl (Nat.le_of_ble_eq_true rfl) (Nat.le_of_ble_eq_true rfl)) rfl rfl (Nat.le_of_ble_eq_true rfl) ?_
    refine ARun.pure (PureOp.mulU (c := (((s * 6364136223846793005) % 18446744073709551616 : Nat) : Int)) rfl (.tmp rfl) .int (by rw [IntKind.wrap_u64]; omega)) rfl rfl (Nat.le_of_ble_eq_true rfl) ?_
    refine ARun.pure (PureOp.move rfl (.tmp rfl)) rfl rfl (Nat.le_of_ble_eq_true rfl) ?_
    refine ARun.pure (PureOp.conv (b := ((F p : Nat) : Int)) rfl (.tmp rfl) vd1_cv_3_74_.u64 (by rw [IntKind.wrap_u64]; omega)) rfl rfl (Nat.le_of_ble_eq_true rfl) ?_
    refine ARun.pure (PureOp.addU (c := (((((s * 6364136223846793005) % 18446744073709551616) + (F p)) % 18446744073709551616 : Nat) : Int)) rfl (.tmp rfl) (.tmp rfl) (by rw [IntKind.wrap_u64]; omega)) rfl rfl (Nat.le_of_ble_eq_true rfl) ?_
    refine ARun.pure (PureOp.addU (c := (((((((s * 6364136223846793005) % 18446744073709551616) + (F p)) % 18446744073709551616) + 1442695040888963407) % 18446744073709551616 : Nat) : Int)) rfl (.tmp rfl) .int (by rw [IntKind.wrap_u64]; omega)) rfl rfl (Nat.le_of_ble_eq_true rfl) ?_
    refine ARun.pure (PureOp.nilPtr rfl (.tmp rfl)) rfl rfl (Nat.le_of_ble_eq_true rfl) ?_
    refine ARun.pure (PureOp.fieldPtr rfl (.tmp rfl) vd1_fi_76_2_2) rfl rfl (Nat.le_of_ble_eq_true rfl) ?_
    refine ARun.store rfl (.tmp rfl) (.tmp rfl) trivial rfl (Nat.le_of_ble_eq_true rfl) vd1_sz_74_1 rfl rfl ?_
    refine ARun.nil ?_
    refine AW.seq ?_
    refine AW.seq ?_
    refine AW.any (by kernel_rfl) (by kernel_rfl) ?_
    refine AD.pure (PureOp.move rfl (.tmp rfl)) rfl rfl (Nat.le_of_ble_eq_true rfl) ?_
    refine AD.pure (PureOp.nilPtr rfl (.tmp rfl)) rfl rfl (Nat.le_of_ble_eq_true rfl) ?_
    refine AD.pure (PureOp.fieldPtr rfl (.tmp rfl) vd1_fi_76_1_1) rfl rfl (Nat.le_of_ble_eq_true rfl) ?_
    refine AD.pure (PureOp.loadPtr rfl (.tmp rfl) vd1_pl_3 rfl rfl (Nat.le_of_ble_eq_true rfl) (Nat.le_of_ble_eq_true rfl)) rfl rfl (Nat.le_of_ble_eq_true rfl) ?_
    refine AD.pure (PureOp.move rfl (.tmp rfl)) rfl rfl (Nat.le_of_ble_eq_true rfl) ?_
    refine AD.pure (PureOp.nilPtr rfl (.tmp rfl)) rfl rfl (Nat.le_of_ble_eq_true rfl) ?_
    refine AD.pure (PureOp.fieldPtr rfl (.tmp rfl) vd1_fi_76_0_0) rfl rfl (Nat.le_of_ble_eq_true rfl) ?_
    refine AD.pure (PureOp.loadPtr rfl (.tmp rfl) vd1_pl_47 rfl rfl (Nat.le_of_ble_eq_true rfl) (Nat.le_of_ble_eq_true rfl)) rfl rfl (Nat.le_of_ble_eq_true rfl) ?_
    refine AD.pure (PureOp.lenLst rfl (.cv (.tmp rfl)) vd1_sl_47) rfl rfl (Nat.le_of_ble_eq_true rfl) ?_
    refine AD.pure (PureOp.intOp rfl (.tmp rfl) (.tmp rfl) rfl) rfl rfl (Nat.le_of_ble_eq_true rfl) ?_
    refine AD.nil ?_
    refine AW.cond (.tmp rfl) (fun hb2 => ?_) (fun hb2 => ?_)
    · have _u := True.intro
      replace hb2 := of_decide_eq_true hb2
      refine AW.seq ?_
      refine AW.region ?_
      refine ARun.pure (PureOp.move rfl (.tmp rfl)) rfl rfl (Nat.le_of_ble_eq_true rfl) ?_
      refine ARun.pure (PureOp.assign rfl (.tmp rfl)) rfl rfl (Nat.le_of_ble_eq_true rfl) ?_
      refine ARun.nil ?_
      exact AW.ret (show ∃ x p' s' t, _ ∧ ResL _ _ [.tmp 2] t ∧ _ ∧ _ from ⟨(F p), (p + 1), ((((((s * 6364136223846793005) % 18446744073709551616) + (F p)) % 18446744073709551616) + 1442695040888963407) % 18446744073709551616), _, ⟨by first | omega | exact Nat.mod_lt _ (by decide), ⟨by omega, by omega, Nat.mod_lt _ (by decide)⟩⟩, .inl ⟨_, rfl, .tmp rfl⟩, .int, rfl⟩)
    · have _u := True.intro
      replace hb2 := of_decide_eq_false hb2
      refine AW.skip ?_
      refine AW.seq ?_
      refine AW.region ?_
      refine ARun.pure (PureOp.move rfl (.tmp rfl)) rfl rfl (Nat.le_of_ble_eq_true rfl) ?_
      refine ARun.pure (PureOp.nilPtr rfl (.tmp rfl)) rfl rfl (Nat.le_of_ble_eq_true rfl) ?_
      refine ARun.pure (PureOp.fieldPtr rfl (.tmp rfl) vd1_fi_76_2_2) rfl rfl (Nat.le_of_ble_eq_true rfl) ?_
      refine ARun.pure (PureOp.loadPtr rfl (.tmp rfl) vd1_pl_74 rfl rfl (Nat.le_of_ble_eq_true rfl) (Nat.le_of_ble_eq_true rfl)) rfl rfl (Nat.le_of_ble_eq_true rfl) ?_
      refine ARun.pure (PureOp.shr40 (a := (((((s * 6364136223846793005) % 18446744073709551616) + (F p)) % 18446744073709551616) + 1442695040888963407) % 18446744073709551616) rfl (.tmp rfl) .int) rfl rfl (Nat.le_of_ble_eq_true rfl) ?_
      refine ARun.pure (PureOp.and255 (a := ((((((s * 6364136223846793005) % 18446744073709551616) + (F p)) % 18446744073709551616) + 1442695040888963407) % 18446744073709551616) / 1099511627776) rfl (.tmp rfl) .int (by omega)) rfl rfl (Nat.le_of_ble_eq_true rfl) ?_
      refine ARun.pure (PureOp.conv (b := (((((((((s * 6364136223846793005) % 18446744073709551616) + (F p)) % 18446744073709551616) + 1442695040888963407) % 18446744073709551616) / 1099511627776) % 256 : Nat) : Int)) rfl (.tmp rfl) vd1_cv_74_3_.i64 (wrap_id (by omega) (by omega))) rfl rfl (Nat.le_of_ble_eq_true rfl) ?_
      refine ARun.pure (PureOp.assign rfl (.tmp rfl)) rfl rfl (Nat.le_of_ble_eq_true rfl) ?_
      refine ARun.nil ?_
      exact AW.ret (show ∃ x p' s' t, _ ∧ ResL _ _ [.tmp 2] t ∧ _ ∧ _ from ⟨((((((((s * 6364136223846793005) % 18446744073709551616) + (F p)) % 18446744073709551616) + 1442695040888963407) % 18446744073709551616) / 1099511627776) % 256), (p + 1), ((((((s * 6364136223846793005) % 18446744073709551616) + (F p)) % 18446744073709551616) + 1442695040888963407) % 18446744073709551616), _, ⟨by first | omega | exact Nat.mod_lt _ (by decide), ⟨by omega, by omega, Nat.mod_lt _ (by decide)⟩⟩, .inl ⟨_, rfl, .tmp rfl⟩, .int, rfl⟩)
  · have _u := True.intro
    replace hb1 := of_decide_eq_false hb1
    refine AW.skip ?_
    refine AW.seq ?_
    refine AW.region ?_
    refine ARun.pure (PureOp.move rfl (.tmp rfl)) rfl rfl (Nat.le_of_ble_eq_true rfl) ?_
    refine ARun.pure (PureOp.nilPtr rfl (.tmp rfl)) rfl rfl (Nat.le_of_ble_eq_true rfl) ?_
    refine ARun.pure (PureOp.fieldPtr rfl (.tmp rfl) vd1_fi_76_1_1) rfl rfl (Nat.le_of_ble_eq_true rfl) ?_
    refine ARun.pure (PureOp.loadPtr rfl (.tmp rfl) vd1_pl_3 rfl rfl (Nat.le_of_ble_eq_true rfl) (Nat.le_of_ble_eq_true rfl)) rfl rfl (Nat.le_of_ble_eq_true rfl) ?_
    refine ARun.pure (PureOp.add (c := ((p + 1 : Nat) : Int)) rfl (.tmp rfl) .int (by rw [wrap_id (by omega) (by omega)]; omega)) rfl rfl (Nat.le_of_ble_eq_true rfl) ?_
    refine ARun.pure (PureOp.nilPtr rfl (.tmp rfl)) rfl rfl (Nat.le_of_ble_eq_true rfl) ?_
    refine ARun.pure (PureOp.fieldPtr rfl (.tmp rfl) vd1_fi_76_1_1) rfl rfl (Nat.le_of_ble_eq_true rfl) ?_
    refine ARun.store rfl (.tmp rfl) (.tmp rfl) trivial rfl (Nat.le_of_ble_eq_true rfl) vd1_sz_3_1 rfl rfl ?_
    refine ARun.nil ?_
    refine AW.seq ?_
    refine AW.region ?_
    refine ARun.pure (PureOp.move rfl (.tmp rfl)) rfl rfl (Nat.le_of_ble_eq_true rfl) ?_
    refine ARun.pure (PureOp.move rfl (.tmp rfl)) rfl rfl (Nat.le_of_ble_eq_true rfl) ?_
    refine ARun.pure (PureOp.nilPtr rfl (.tmp rfl)) rfl rfl (Nat.le_of_ble_eq_true rfl) ?_
    refine ARun.pure (PureOp.fieldPtr rfl (.tmp rfl) vd1_fi_76_2_2) rfl rfl (Nat.le_of_ble_eq_true rfl) ?_
    refine ARun.pure (PureOp.loadPtr rfl (.tmp rfl) vd1_pl_74 rfl rfl (Nat.le_of_ble_eq_true rfl) (Nat.le_of_ble_eq_true rfl)) rfl rfl (Nat.le_of_ble_eq_true rfl) ?_
    refine ARun.pure (PureOp.mulU (c := (((s * 6364136223846793005) % 18446744073709551616 : Nat) : Int)) rfl (.tmp rfl) .int (by rw [IntKind.wrap_u64]; omega)) rfl rfl (Nat.le_of_ble_eq_true rfl) ?_
    refine ARun.pure (PureOp.move rfl (.tmp rfl)) rfl rfl (Nat.le_of_ble_eq_true rfl) ?_
    refine ARun.pure (PureOp.conv (b := 0) rfl (.tmp rfl) vd1_cv_3_74_.u64 (by rw [IntKind.wrap_u64]; omega)) rfl rfl (Nat.le_of_ble_eq_true rfl) ?_
    refine ARun.pure (PureOp.addU (c := (((((s * 6364136223846793005) % 18446744073709551616) + 0) % 18446744073709551616 : Nat) : Int)) rfl (.tmp rfl) (.tmp rfl) (by rw [IntKind.wrap_u64]; omega)) rfl rfl (Nat.le_of_ble_eq_true rfl) ?_
    refine ARun.pure (PureOp.addU (c := (((((((s * 6364136223846793005) % 18446744073709551616) + 0) % 18446744073709551616) + 1442695040888963407) % 18446744073709551616 : Nat) : Int)) rfl (.tmp rfl) .int (by rw [IntKind.wrap_u64]; omega)) rfl rfl (Nat.le_of_ble_eq_true rfl) ?_
    refine ARun.pure (PureOp.nilPtr rfl (.tmp rfl)) rfl rfl (Nat.le_of_ble_eq_true rfl) ?_
    refine ARun.pure (PureOp.fieldPtr rfl (.tmp rfl) vd1_fi_76_2_2) rfl rfl (Nat.le_of_ble_eq_true rfl) ?_
    refine ARun.store rfl (.tmp rfl) (.tmp rfl) trivial rfl (Nat.le_of_ble_eq_true rfl) vd1_sz_74_1 rfl rfl ?_
    refine ARun.nil ?_
    refine AW.seq ?_
    refine AW.seq ?_
    refine AW.any (by kernel_rfl) (by kernel_rfl) ?_
    refine AD.pure (PureOp.move rfl (.tmp rfl)) rfl rfl (Nat.le_of_ble_eq_true rfl) ?_
    refine AD.pure (PureOp.nilPtr rfl (.tmp rfl)) rfl rfl (Nat.le_of_ble_eq_true rfl) ?_
    refine AD.pure (PureOp.fieldPtr rfl (.tmp rfl) vd1_fi_76_1_1) rfl rfl (Nat.le_of_ble_eq_true rfl) ?_
    refine AD.pure (PureOp.loadPtr rfl (.tmp rfl) vd1_pl_3 rfl rfl (Nat.le_of_ble_eq_true rfl) (Nat.le_of_ble_eq_true rfl)) rfl rfl (Nat.le_of_ble_eq_true rfl) ?_
    refine AD.pure (PureOp.move rfl (.tmp rfl)) rfl rfl (Nat.le_of_ble_eq_true rfl) ?_
    refine AD.pure (PureOp.nilPtr rfl (.tmp rfl)) rfl rfl (Nat.le_of_ble_eq_true rfl) ?_
    refine AD.pure (PureOp.fieldPtr rfl (.tmp rfl) vd1_fi_76_0_0) rfl rfl (Nat.le_of_ble_eq_true rfl) ?_
    refine AD.pure (PureOp.loadPtr rfl (.tmp rfl) vd1_pl_47 rfl rfl (Nat.le_of_ble_eq_true rfl) (Nat.le_of_ble_eq_true rfl)) rfl rfl (Nat.le_of_ble_eq_true rfl) ?_
    refine AD.pure (PureOp.lenLst rfl (.cv (.tmp rfl)) vd1_sl_47) rfl rfl (Nat.le_of_ble_eq_true rfl) ?_
    refine AD.pure (PureOp.intOp rfl (.tmp rfl) (.tmp rfl) rfl) rfl rfl (Nat.le_of_ble_eq_true rfl) ?_
    refine AD.nil ?_
    refine AW.cond (.tmp rfl) (fun hb3 => ?_) (fun hb3 => ?_)
    · have _u := True.intro
      replace hb3 := of_decide_eq_true hb3
      refine AW.seq ?_
      refine AW.region ?_
      refine ARun.pure (PureOp.move rfl (.tmp rfl)) rfl rfl (Nat.le_of_ble_eq_true rfl) ?_
      refine ARun.pure (PureOp.assign rfl (.tmp rfl)) rfl rfl (Nat.le_of_ble_eq_true rfl) ?_
      refine ARun.nil ?_
      exact AW.ret (show ∃ x p' s' t, _ ∧ ResL _ _ [.tmp 2] t ∧ _ ∧ _ from ⟨0, (p + 1), ((((((s * 6364136223846793005) % 18446744073709551616) + 0) % 18446744073709551616) + 1442695040888963407) % 18446744073709551616), _, ⟨by first | omega | exact Nat.mod_lt _ (by decide), ⟨by omega, by omega, Nat.mod_lt _ (by decide)⟩⟩, .inl ⟨_, rfl, .tmp rfl⟩, .int, rfl⟩)
    · have _u := True.intro
      replace hb3 := of_decide_eq_false hb3
      refine AW.skip ?_
      refine AW.seq ?_
      refine AW.region ?_
      refine ARun.pure (PureOp.move rfl (.tmp rfl)) rfl rfl (Nat.le_of_ble_eq_true rfl) ?_
      refine ARun.pure (PureOp.nilPtr rfl (.tmp rfl)) rfl rfl (Nat.le_of_ble_eq_true rfl) ?_
      refine ARun.pure (PureOp.fieldPtr rfl (.tmp rfl) vd1_fi_76_2_2) rfl rfl (Nat.le_of_ble_eq_true rfl) ?_
      refine ARun.pure (PureOp.loadPtr rfl (.tmp rfl) vd1_pl_74 rfl rfl (Nat.le_of_ble_eq_true rfl) (Nat.le_of_ble_eq_true rfl)) rfl rfl (Nat.le_of_ble_eq_true rfl) ?_
      refine ARun.pure (PureOp.shr40 (a := (((((s * 6364136223846793005) % 18446744073709551616) + 0) % 18446744073709551616) + 1442695040888963407) % 18446744073709551616) rfl (.tmp rfl) .int) rfl rfl (Nat.le_of_ble_eq_true rfl) ?_
      refine ARun.pure (PureOp.and255 (a := ((((((s * 6364136223846793005) % 18446744073709551616) + 0) % 18446744073709551616) + 1442695040888963407) % 18446744073709551616) / 1099511627776) rfl (.tmp rfl) .int (by omega)) rfl rfl (Nat.le_of_ble_eq_true rfl) ?_
      refine ARun.pure (PureOp.conv (b := (((((((((s * 6364136223846793005) % 18446744073709551616) + 0) % 18446744073709551616) + 1442695040888963407) % 18446744073709551616) / 1099511627776) % 256 : Nat) : Int)) rfl (.tmp rfl) vd1_cv_74_3_.i64 (wrap_id (by omega) (by omega))) rfl rfl (Nat.le_of_ble_eq_true rfl) ?_
      refine ARun.pure (PureOp.assign rfl (.tmp rfl)) rfl rfl (Nat.le_of_ble_eq_true rfl) ?_
      refine ARun.nil ?_
      exact AW.ret (show ∃ x p' s' t, _ ∧ ResL _ _ [.tmp 2] t ∧ _ ∧ _ from ⟨((((((((s * 6364136223846793005) % 18446744073709551616) + 0) % 18446744073709551616) + 1442695040888963407) % 18446744073709551616) / 1099511627776) % 256), (p + 1), ((((((s * 6364136223846793005) % 18446744073709551616) + 0) % 18446744073709551616) + 1442695040888963407) % 18446744073709551616), _, ⟨by first | omega | exact Nat.mod_lt _ (by decide), ⟨by omega, by omega, Nat.mod_lt _ (by decide)⟩⟩, .inl ⟨_, rfl, .tmp rfl⟩, .int, rfl⟩)

theorem v_Pick (n : Nat) (F : Nat → Nat) (hF : ∀ i, F i < 256) (p s : Nat) (hp : p ≤ 1900000000) (hs : s < 18446744073709551616) (m : Nat) (hm : m ≤ 1000000) : FnC Try.prog 58 n F [.one (.int .i64 (m : Int))] p s (fun (x : Nat) p' s' => (x < m ∨ x = 0) ∧ CurOk p 2 p' s') (fun (x : Nat) => .one (.int .i64 (x : Int))) := by
  refine FnC.of_body (fn := Try.f58) Try.func58 rfl (Nat.le_of_ble_eq_true rfl) ?_
  intro w0 c
  show AW _ 20 _ _ _ _
  refine AW.seq ?_
  refine AW.region ?_
  refine ARun.pure (PureOp.assign rfl .int) rfl rfl (Nat.le_of_ble_eq_true rfl) ?_
  refine ARun.nil ?_
  refine AW.seq ?_
  refine AW.seq ?_
  refine AW.region ?_
  refine ARun.pure (PureOp.move rfl (.tmp rfl)) rfl rfl (Nat.le_of_ble_eq_true rfl) ?_
  refine ARun.pure (PureOp.intOp rfl (.tmp rfl) .int rfl) rfl rfl (Nat.le_of_ble_eq_true rfl) ?_
  refine ARun.nil ?_
  refine AW.cond (.tmp rfl) (fun hb1 => ?_) (fun hb1 => ?_)
  · have _u := True.intro
    replace hb1 := of_decide_eq_true hb1
    refine AW.seq ?_
    refine AW.region ?_
    refine ARun.pure (PureOp.assign rfl .int) rfl rfl (Nat.le_of_ble_eq_true rfl) ?_
    refine ARun.nil ?_
    have _hm : 0 < m → ∀ y : Nat, y % m < m := fun h y => Nat.mod_lt _ h
    exact AW.ret (show ∃ x p' s' t, _ ∧ ResL _ _ [.tmp 4] t ∧ _ ∧ _ from ⟨0, p, s, _, ⟨by first | exact .inr rfl | exact .inl (Nat.mod_lt _ (by omega)), ⟨by omega, by omega, by omega⟩⟩, .inl ⟨_, rfl, .tmp rfl⟩, .int, rfl⟩)
  · have _u := True.intro
    replace hb1 := of_decide_eq_false hb1
    refine AW.skip ?_
    refine AW.seq ?_
    refine AW.region ?_
    refine ARun.pure (PureOp.move rfl (.tmp rfl)) rfl rfl (Nat.le_of_ble_eq_true rfl) ?_
    refine ARun.cur (id := 1000000) rfl (v_Next n F hF p s (by omega) (by omega)) vd1_ca_69 ⟨.inr (.tmp rfl), trivial⟩ rfl rfl rfl (Nat.le_of_ble_eq_true rfl) (fun x2 p3 sd4 hc5 => ?_)
    obtain ⟨hc5x, hc5c⟩ := hc5
    obtain ⟨hc51, hc52, hc53⟩ := hc5c
    refine ARun.pure (PureOp.assign rfl (.tmp rfl)) rfl rfl (Nat.le_of_ble_eq_true rfl) ?_
    refine ARun.nil ?_
    refine AW.seq ?_
    refine AW.seq ?_
    refine AW.region ?_
    refine ARun.pure (PureOp.move rfl (.tmp rfl)) rfl rfl (Nat.le_of_ble_eq_true rfl) ?_
    refine ARun.pure (PureOp.intOp rfl (.tmp rfl) .int rfl) rfl rfl (Nat.le_of_ble_eq_true rfl) ?_
    refine ARun.nil ?_
    refine AW.cond (.tmp rfl) (fun hb6 => ?_) (fun hb6 => ?_)
    · have _u := True.intro
      replace hb6 := of_decide_eq_true hb6
      refine AW.region ?_
      refine ARun.pure (PureOp.move rfl (.tmp rfl)) rfl rfl (Nat.le_of_ble_eq_true rfl) ?_
      refine ARun.pure (PureOp.mul (c := ((x2 * 256 : Nat) : Int)) rfl (.tmp rfl) .int (by rw [wrap_id (by omega) (by omega)]; omega)) rfl rfl (Nat.le_of_ble_eq_true rfl) ?_
      refine ARun.pure (PureOp.move rfl (.tmp rfl)) rfl rfl (Nat.le_of_ble_eq_true rfl) ?_
      refine ARun.cur (id := 1000000) rfl (v_Next n F hF p3 sd4 (by omega) (by omega)) vd1_ca_69 ⟨.inr (.tmp rfl), trivial⟩ rfl rfl rfl (Nat.le_of_ble_eq_true rfl) (fun x7 p8 sd9 hc10 => ?_)
      obtain ⟨hc10x, hc10c⟩ := hc10
      obtain ⟨hc101, hc102, hc103⟩ := hc10c
      refine ARun.pure (PureOp.add (c := ((x2 * 256 + x7 : Nat) : Int)) rfl (.tmp rfl) (.tmp rfl) (by rw [wrap_id (by omega) (by omega)]; omega)) rfl rfl (Nat.le_of_ble_eq_true rfl) ?_
      refine ARun.pure (PureOp.assign rfl (.tmp rfl)) rfl rfl (Nat.le_of_ble_eq_true rfl) ?_
      refine ARun.nil ?_
      refine AW.seq ?_
      refine AW.region ?_
      refine ARun.pure (PureOp.move rfl (.tmp rfl)) rfl rfl (Nat.le_of_ble_eq_true rfl) ?_
      refine ARun.pure (PureOp.move rfl (.tmp rfl)) rfl rfl (Nat.le_of_ble_eq_true rfl) ?_
      refine ARun.pure (PureOp.rem (a := x2 * 256 + x7) (b := m) rfl (.tmp rfl) (.tmp rfl) rfl (by omega) (by omega)) rfl rfl (Nat.le_of_ble_eq_true rfl) ?_
      refine ARun.pure (PureOp.assign rfl (.tmp rfl)) rfl rfl (Nat.le_of_ble_eq_true rfl) ?_
      refine ARun.nil ?_
      have _hm : 0 < m → ∀ y : Nat, y % m < m := fun h y => Nat.mod_lt _ h
      exact AW.ret (show ∃ x p' s' t, _ ∧ ResL _ _ [.tmp 4] t ∧ _ ∧ _ from ⟨((x2 * 256 + x7) % m), p8, sd9, _, ⟨by first | exact .inr rfl | exact .inl (Nat.mod_lt _ (by omega)), ⟨by omega, by omega, by omega⟩⟩, .inl ⟨_, rfl, .tmp rfl⟩, .int, rfl⟩)
    · have _u := True.intro
      replace hb6 := of_decide_eq_false hb6
      refine AW.skip ?_
      refine AW.seq ?_
      refine AW.region ?_
      refine ARun.pure (PureOp.move rfl (.tmp rfl)) rfl rfl (Nat.le_of_ble_eq_true rfl) ?_
      refine ARun.pure (PureOp.move rfl (.tmp rfl)) rfl rfl (Nat.le_of_ble_eq_true rfl) ?_
      refine ARun.pure (PureOp.rem (a := x2) (b := m) rfl (.tmp rfl) (.tmp rfl) rfl (by omega) (by omega)) rfl rfl (Nat.le_of_ble_eq_true rfl) ?_
      refine ARun.pure (PureOp.assign rfl (.tmp rfl)) rfl rfl (Nat.le_of_ble_eq_true rfl) ?_
      refine ARun.nil ?_
      have _hm : 0 < m → ∀ y : Nat, y % m < m := fun h y => Nat.mod_lt _ h
      exact AW.ret (show ∃ x p' s' t, _ ∧ ResL _ _ [.tmp 4] t ∧ _ ∧ _ from ⟨(x2 % m), p3, sd4, _, ⟨by first | exact .inr rfl | exact .inl (Nat.mod_lt _ (by omega)), ⟨by omega, by omega, by omega⟩⟩, .inl ⟨_, rfl, .tmp rfl⟩, .int, rfl⟩)

theorem v_One (n : Nat) (F : Nat → Nat) (hF : ∀ i, F i < 256) (p s : Nat) (hp : p ≤ 1800000000) (hs : s < 18446744073709551616) (m : Nat) (hm : m ≤ 1000000) : FnC Try.prog 62 n F [.one (.int .i64 (m : Int))] p s (fun (x : Bool) p' s' => CurOk p 2 p' s') (fun (x : Bool) => .one (.bool x)) := by
  refine FnC.of_body (fn := Try.f62) Try.func62 rfl (Nat.le_of_ble_eq_true rfl) ?_
  intro w0 c
  show AW _ 9 _ _ _ _
  refine AW.seq ?_
  refine AW.region ?_
  refine ARun.pure (PureOp.assign rfl .bool) rfl rfl (Nat.le_of_ble_eq_true rfl) ?_
  refine ARun.nil ?_
  refine AW.seq ?_
  refine AW.region ?_
  refine ARun.pure (PureOp.move rfl (.tmp rfl)) rfl rfl (Nat.le_of_ble_eq_true rfl) ?_
  refine ARun.pure (PureOp.move rfl (.tmp rfl)) rfl rfl (Nat.le_of_ble_eq_true rfl) ?_
  refine ARun.cur (id := 1000000) rfl (v_Pick n F hF p s (by omega) (by omega) m (by omega)) vd1_ca_58 ⟨.inr (.tmp rfl), .inl ⟨_, (.tmp rfl), .int⟩, trivial⟩ rfl rfl rfl (Nat.le_of_ble_eq_true rfl) (fun x1 p2 sd3 hc4 => ?_)
  obtain ⟨hc4x, hc4c⟩ := hc4
  obtain ⟨hc41, hc42, hc43⟩ := hc4c
  refine ARun.pure (PureOp.intOp rfl (.tmp rfl) .int rfl) rfl rfl (Nat.le_of_ble_eq_true rfl) ?_
  refine ARun.pure (PureOp.assign rfl (.tmp rfl)) rfl rfl (Nat.le_of_ble_eq_true rfl) ?_
  refine ARun.nil ?_
  exact AW.ret (show ∃ x p' s' t, _ ∧ ResL _ _ [.tmp 4] t ∧ _ ∧ _ from ⟨(decide ((x1 : Int) = 0)), p2, sd3, _, ⟨by omega, by omega, by omega⟩, .inl ⟨_, rfl, .tmp rfl⟩, .bool, rfl⟩)

theorem v_Among (n : Nat) (F : Nat → Nat) (hF : ∀ i, F i < 256) (p s : Nat) (hp : p ≤ 1800000000) (hs : s < 18446744073709551616) (l : List Int) (hl : 1 ≤ l.length ∧ l.length ≤ 1000) : FnC Try.prog 73 n F [.one (.lst 1 l.length (fun i0 _ => .int .i64 (l.getD i0 0)))] p s (fun (x : Int) p' s' => x ∈ l ∧ CurOk p 2 p' s') (fun (x : Int) => .one (.int .i64 x)) := by
  refine FnC.of_body (fn := Try.f73) Try.func73 rfl (Nat.le_of_ble_eq_true rfl) ?_
  intro w0 c
  show AW _ 12 _ _ _ _
  refine AW.seq ?_
  refine AW.region ?_
  refine ARun.pure (PureOp.assign rfl .int) rfl rfl (Nat.le_of_ble_eq_true rfl) ?_
  refine ARun.nil ?_
  refine AW.seq ?_
  refine AW.region ?_
  refine ARun.pure (PureOp.move rfl (.tmp rfl)) rfl rfl (Nat.le_of_ble_eq_true rfl) ?_
  refine ARun.pure (PureOp.move rfl (.tmp rfl)) rfl rfl (Nat.le_of_ble_eq_true rfl) ?_
  refine ARun.pure (PureOp.move rfl (.tmp rfl)) rfl rfl (Nat.le_of_ble_eq_true rfl) ?_
  refine ARun.pure (PureOp.lenLst rfl (.tmp rfl) vd1_sl_30) rfl rfl (Nat.le_of_ble_eq_true rfl) ?_
  refine ARun.cur (id := 1000000) rfl (v_Pick n F hF p s (by omega) (by omega) l.length (by omega)) vd1_ca_58 ⟨.inr (.tmp rfl), .inl ⟨_, (.tmp rfl), .int⟩, trivial⟩ rfl rfl rfl (Nat.le_of_ble_eq_true rfl) (fun x1 p2 sd3 hc4 => ?_)
  obtain ⟨hc4x, hc4c⟩ := hc4
  obtain ⟨hc41, hc42, hc43⟩ := hc4c
  refine ARun.pure (PureOp.indexLst (i := x1) rfl (.tmp rfl) vd1_el_30_1 (.tmp rfl) rfl (by rcases hc4x with hx | hx <;> omega)) rfl rfl (Nat.le_of_ble_eq_true rfl) ?_
  refine ARun.pure (PureOp.loadRef rfl (.tmp rfl) vd1_pl_3 (Nat.le_of_ble_eq_true rfl)) rfl rfl (Nat.le_of_ble_eq_true rfl) ?_
  refine ARun.pure (PureOp.assign rfl (.tmp rfl)) rfl rfl (Nat.le_of_ble_eq_true rfl) ?_
  refine ARun.nil ?_
  have hlt : x1 < l.length := by rcases hc4x with hx | hx <;> omega
  exact AW.ret (show ∃ x p' s' t, _ ∧ ResL _ _ [.tmp 4] t ∧ _ ∧ _ from ⟨(l.getD x1 0), p2, sd3, _, ⟨by rw [List.getD_eq_getElem?_getD, List.getElem?_eq_getElem hlt]; exact List.getElem_mem _, ⟨by omega, by omega, by omega⟩⟩, .inl ⟨_, rfl, .tmp rfl⟩, .int, rfl⟩)
end Go.Proofs.Ytmkhahiefdcinaa

/-
  What the reference's cursor draws: events.
-/
namespace Go.Proofs.Ytmkhahiefdcinaa
open Go.ChangeShapes Go.WideShapes Go.ChangeAt Go.RowKit Go.BigFrame Go.Deep
set_option linter.unusedVariables false
set_option linter.unusedSimpArgs false
theorem vd2_ag_64_2 : aggB Try.prog 64 2 = true := by kernel_rfl
theorem vd2_ca_58 : callB Try.prog 58 = true := by kernel_rfl
theorem vd2_ca_62 : callB Try.prog 62 = true := by kernel_rfl
theorem vd2_el_26_2 : elemB Try.prog 26 2 = true := by kernel_rfl
theorem vd2_fi_64_0_0 : fieldB Try.prog 64 0 0 = true := by kernel_rfl
theorem vd2_fi_64_1_1 : fieldB Try.prog 64 1 1 = true := by kernel_rfl
theorem vd2_pl_3 : plainB Try.prog 3 = true := by kernel_rfl
theorem vd2_sl_26 : sliceB Try.prog 26 = true := by kernel_rfl
theorem vd2_sz_3_1 : sizeB Try.prog 3 1 = true := by kernel_rfl
theorem vd2_sz_64_2 : sizeB Try.prog 64 2 = true := by kernel_rfl
theorem and_condE {a b : Bool} (h : cond a b false = true) : a = true ∧ b = true := by revert h; revert a b; decide
/-- Rows of events: their cells. -/
abbrev evC (L : List GEvent) : Nat → Nat → AV := fun i j => ([.int .i64 (L.getD i (default : GEvent)).a, .int .i64 (L.getD i (default : GEvent)).b] : List AV).getD j (.con undef)
abbrev evsD (l : List GEvent) : AV := .lst 2 l.length (evC l)
theorem ev_ren {g : Nat → Nat} {L : List GEvent} {i j : Nat} (hj : j < 2) : AV.ren g (evC L i j) = evC L i j := by
  match j, hj with
  | 0, _ => rfl
  | 1, _ => rfl
  | _ + 2, h => exact absurd h (by omega)
theorem ev_app {L : List GEvent} {a b : Int} {i j : Nat} (hi : i < L.length + 1) : (if i < L.length then evC L i j else (fun _ jc => ([.int .i64 a, .int .i64 b] : List AV).getD jc (.con undef)) (i - L.length) j) = evC (L ++ [⟨a, b⟩]) i j := by
  let e : GEvent := ⟨a, b⟩
  show _ = evC (L ++ [e]) i j
  by_cases h : i < L.length
  · rw [if_pos h]; unfold evC; rw [List.getD_eq_getElem?_getD (l := L ++ [e]), List.getElem?_append_left h, ← List.getD_eq_getElem?_getD]
  · obtain rfl : i = L.length := by omega
    rw [if_neg h]; unfold evC; rw [List.getD_eq_getElem?_getD (l := L ++ [e]), List.getElem?_append_right (Nat.le_refl _), Nat.sub_self]; rfl
theorem ev_set {L : List GEvent} {a b : Int} (h0 : 0 < L.length) {i j : Nat} : (if i = 0 then ([.int .i64 a, .int .i64 b] : List AV).getD j (.con undef) else evC L i j) = evC (L.set 0 ⟨a, b⟩) i j := by
  let e : GEvent := ⟨a, b⟩
  show _ = evC (L.set 0 e) i j
  unfold evC
  by_cases h : i = 0
  · subst h
    rw [if_pos rfl, List.getD_eq_getElem?_getD (l := L.set 0 e), List.getElem?_set_self h0]; rfl
  · rw [if_neg h, List.getD_eq_getElem?_getD (l := L.set 0 e), List.getElem?_set_ne (by omega), ← List.getD_eq_getElem?_getD]
theorem fw_ev {H : Heap} {id m : Nat} {o : AObj} {L : List GEvent} (hid : (id == 1000000) = false) (ho : H.lookup id = some o) (hsz : o.sz = 2) (hn : L.length ≤ o.n) (hm : m = L.length) (hf : ∀ i j, i < L.length → j < 2 → o.f i j = evC L i j) : Fw H (.own id 2 m) (evsD L) := by
  subst hm
  refine .own hid ho hsz hn fun i j hi hj => ?_
  rw [hf i j hi hj]
  match j, hj with
  | 0, _ => exact .int
  | 1, _ => exact .int
  | _ + 2, h => exact absurd h (by omega)
abbrev inC (L : List Int) : Nat → Nat → AV := fun i _ => .int .i64 (L.getD i 0)
abbrev intsD (l : List Int) : AV := .lst 1 l.length (inC l)
theorem in_app {L : List Int} {e : Int} {i j : Nat} (hi : i < L.length + 1) (hj : j < 1) : (if i < L.length then inC L i j else (fun _ jc => ([.int .i64 e] : List AV).getD jc (.con undef)) (i - L.length) j) = inC (L ++ [e]) i j := by
  obtain rfl : j = 0 := by omega
  by_cases h : i < L.length
  · rw [if_pos h]; unfold inC; rw [List.getD_eq_getElem?_getD (l := L ++ [e]), List.getElem?_append_left h, ← List.getD_eq_getElem?_getD]
  · obtain rfl : i = L.length := by omega
    rw [if_neg h]; unfold inC; rw [List.getD_eq_getElem?_getD (l := L ++ [e]), List.getElem?_append_right (Nat.le_refl _), Nat.sub_self]; rfl
theorem in_set {L : List Int} {e : Int} (h0 : 0 < L.length) {i j : Nat} (hj : j < 1) : (if i = 0 then ([.int .i64 e] : List AV).getD j (.con undef) else inC L i j) = inC (L.set 0 e) i j := by
  obtain rfl : j = 0 := by omega
  unfold inC
  by_cases h : i = 0
  · subst h
    rw [if_pos rfl, List.getD_eq_getElem?_getD (l := L.set 0 e), List.getElem?_set_self h0]; rfl
  · rw [if_neg h, List.getD_eq_getElem?_getD (l := L.set 0 e), List.getElem?_set_ne (by omega), ← List.getD_eq_getElem?_getD]
theorem fw_in {H : Heap} {id m : Nat} {o : AObj} {L : List Int} (hid : (id == 1000000) = false) (ho : H.lookup id = some o) (hsz : o.sz = 1) (hn : L.length ≤ o.n) (hm : m = L.length) (hf : ∀ i j, i < L.length → j < 1 → o.f i j = inC L i j) : Fw H (.own id 1 m) (intsD L) := by
  subst hm
  refine .own hid ho hsz hn fun i j hi hj => ?_
  rw [hf i j hi hj]
  exact .int
def allEv (L : List GEvent) : Prop := ∀ e ∈ L, I64 e.a ∧ I64 e.b
def allRi (L : List Int) : Prop := ∀ e ∈ L, I64 e
theorem allEv_app {L : List GEvent} {a b : Int} (h : allEv L) (ha : I64 a) (hb : I64 b) : allEv (L ++ [⟨a, b⟩]) := by
  intro e he
  rcases List.mem_append.1 he with h1 | h1
  · exact h e h1
  · rw [List.mem_singleton.1 h1]; exact ⟨ha, hb⟩
theorem allEv_set {L : List GEvent} {a b : Int} (h : allEv L) (ha : I64 a) (hb : I64 b) : allEv (L.set 0 ⟨a, b⟩) := by
  intro e he
  rcases List.mem_or_eq_of_mem_set he with h1 | rfl
  · exact h e h1
  · exact ⟨ha, hb⟩
theorem allRi_app {L : List Int} {a : Int} (h : allRi L) (ha : I64 a) : allRi (L ++ [a]) := by
  intro e he
  rcases List.mem_append.1 he with h1 | h1
  · exact h e h1
  · rw [List.mem_singleton.1 h1]; exact ha
theorem allRi_set {L : List Int} {a : Int} (h : allRi L) (ha : I64 a) : allRi (L.set 0 a) := by
  intro e he
  rcases List.mem_or_eq_of_mem_set he with h1 | rfl
  · exact h e h1
  · exact ha
structure EvS where
  l : List GEvent
  p : Nat
  s : Nat
structure InS where
  l : List Int
  p : Nat
  s : Nat
theorem v_Events (n : Nat) (F : Nat → Nat) (hF : ∀ i, F i < 256) (p s : Nat) (hp : p ≤ 1700000000) (hs : s < 18446744073709551616) : FnC Try.prog 57 n F [] p s (fun (x : Nat × List GEvent) p' s' => ((1 ≤ x.1 ∧ x.1 ≤ 4) ∧ x.2.length ≤ 41 ∧ allEv x.2) ∧ CurOk p 1000 p' s') (fun (x : Nat × List GEvent) => .tup2 (.one (.int .i64 (x.1 : Int))) (.one (evsD x.2))) := by
  refine FnC.of_body (fn := Try.f57) Try.func57 rfl (Nat.le_of_ble_eq_true rfl) ?_
  intro w0 c
  show AW _ 69 _ _ _ _
  refine AW.seq ?_
  refine AW.region ?_
  refine ARun.pure (PureOp.assign rfl .int) rfl rfl (Nat.le_of_ble_eq_true rfl) ?_
  refine ARun.pure (PureOp.assign rfl .con) rfl rfl (Nat.le_of_ble_eq_true rfl) ?_
  refine ARun.nil ?_
  refine AW.seq ?_
  refine AW.region ?_
  refine ARun.pure (PureOp.move rfl (.tmp rfl)) rfl rfl (Nat.le_of_ble_eq_true rfl) ?_
  refine ARun.cur (id := 1000000) rfl (v_Pick n F hF p s (by omega) (by omega) 4 (by omega)) vd2_ca_58 ⟨.inr (.tmp rfl), .inl ⟨_, .int, .int⟩, trivial⟩ rfl rfl rfl (Nat.le_of_ble_eq_true rfl) (fun x1 p2 sd3 hc4 => ?_)
  obtain ⟨hc4x, hc4c⟩ := hc4
  obtain ⟨hc41, hc42, hc43⟩ := hc4c
  refine ARun.pure (PureOp.add (c := ((1 + x1 : Nat) : Int)) rfl .int (.tmp rfl) (by rw [wrap_id (by omega) (by omega)]; omega)) rfl rfl (Nat.le_of_ble_eq_true rfl) ?_
  refine ARun.pure (PureOp.assign rfl (.tmp rfl)) rfl rfl (Nat.le_of_ble_eq_true rfl) ?_
  refine ARun.nil ?_
  refine AW.seq ?_
  refine AW.region ?_
  refine ARun.pure (PureOp.assign rfl .con) rfl rfl (Nat.le_of_ble_eq_true rfl) ?_
  refine ARun.nil ?_
  refine AW.seq ?_
  refine AW.region ?_
  refine ARun.pure (PureOp.move rfl (.tmp rfl)) rfl rfl (Nat.le_of_ble_eq_true rfl) ?_
  refine ARun.cur (id := 1000000) rfl (v_Pick n F hF p2 sd3 (by omega) (by omega) 12 (by omega)) vd2_ca_58 ⟨.inr (.tmp rfl), .inl ⟨_, .int, .int⟩, trivial⟩ rfl rfl rfl (Nat.le_of_ble_eq_true rfl) (fun x5 p6 sd7 hc8 => ?_)
  obtain ⟨hc8x, hc8c⟩ := hc8
  obtain ⟨hc81, hc82, hc83⟩ := hc8c
  refine ARun.pure (PureOp.assign rfl (.tmp rfl)) rfl rfl (Nat.le_of_ble_eq_true rfl) ?_
  refine ARun.nil ?_
  refine AW.seq ?_
  refine AW.seq ?_
  refine AW.region ?_
  refine ARun.pure (PureOp.move rfl (.tmp rfl)) rfl rfl (Nat.le_of_ble_eq_true rfl) ?_
  refine ARun.cur (id := 1000000) rfl (v_One n F hF p6 sd7 (by omega) (by omega) 20 (by omega)) vd2_ca_62 ⟨.inr (.tmp rfl), .inl ⟨_, .int, .int⟩, trivial⟩ rfl rfl rfl (Nat.le_of_ble_eq_true rfl) (fun x9 p10 sd11 hc12 => ?_)
  have hc12c := hc12
  obtain ⟨hc121, hc122, hc123⟩ := hc12c
  refine ARun.nil ?_
  refine AW.cond (.tmp rfl) (fun hb13 => ?_) (fun hb13 => ?_)
  · have _u := True.intro
    refine AW.region ?_
    refine ARun.pure (PureOp.move rfl (.tmp rfl)) rfl rfl (Nat.le_of_ble_eq_true rfl) ?_
    refine ARun.cur (id := 1000000) rfl (v_Pick n F hF p10 sd11 (by omega) (by omega) 3 (by omega)) vd2_ca_58 ⟨.inr (.tmp rfl), .inl ⟨_, .int, .int⟩, trivial⟩ rfl rfl rfl (Nat.le_of_ble_eq_true rfl) (fun x14 p15 sd16 hc17 => ?_)
    obtain ⟨hc17x, hc17c⟩ := hc17
    obtain ⟨hc171, hc172, hc173⟩ := hc17c
    refine ARun.pure (PureOp.add (c := ((39 + x14 : Nat) : Int)) rfl .int (.tmp rfl) (by rw [wrap_id (by omega) (by omega)]; omega)) rfl rfl (Nat.le_of_ble_eq_true rfl) ?_
    refine ARun.pure (PureOp.assign rfl (.tmp rfl)) rfl rfl (Nat.le_of_ble_eq_true rfl) ?_
    refine ARun.nil ?_
    refine AW.seq ?_
    refine AW.seq ?_
    refine AW.region ?_
    refine ARun.pure (PureOp.assign rfl .int) rfl rfl (Nat.le_of_ble_eq_true rfl) ?_
    refine ARun.nil ?_
    refine AW.block ?_
    refine AW.nilSlot 5 900 2 (evC []) rfl ⟨rfl, (by repeat first | exact trivial | refine ⟨by decide, by first | rfl | exact trivial | (intro i j; first | rfl | exact getD_no rfl | (dsimp only; split <;> first | rfl | exact getD_no rfl) | exact scl_no (by apply_assumption) _), ?_⟩)⟩ ?_
    -- objects are renamed
    refine AW.loopR (ι := EvS) (fun v => ⟨[(0, .one (.ptr 1000000 3 0 0)), (4, .one (.int .i64 ((1 + x1 : Nat) : Int))), (5, .one (.own 900 2 v.l.length)), (6, .one (.int .i64 ((39 + x14 : Nat) : Int))), (7, .one (.int .i64 (v.l.length : Int)))], [(900, .arr 2 v.l.length (evC v.l)), (1000000, .cells [.cv c (.lst 1 n (fun i _ => .int .u8 ((F i : Nat) : Int))), .int .i64 (v.p : Int), .int .u64 ((v.s : Nat) : Int)])]⟩) (fun v => v.l.length ≤ 39 + x14 ∧ v.p ≤ p15 + 6 * v.l.length ∧ v.s < 18446744073709551616 ∧ p15 ≤ v.p ∧ allEv v.l) (fun v => 39 + x14 - v.l.length) ⟨[], p15, sd16⟩ ⟨Nat.zero_le _, by show p15 ≤ p15 + 6 * 0; omega, by show sd16 < 18446744073709551616; omega, Nat.le_refl _, fun _ he => (nomatch he)⟩ ⟨⟨⟨_, rfl, rfl⟩, ⟨_, rfl, rfl⟩, ⟨_, rfl, rfl⟩, ⟨_, rfl, rfl⟩, ⟨_, rfl, rfl⟩, trivial⟩, ⟨⟨_, rfl, rfl, Nat.le_refl _, fun _ _ _ _ => rfl⟩, ⟨_, rfl, rfl, Nat.le_refl _, fun _ _ _ _ => rfl⟩, trivial⟩⟩ ?_
    intro v hv
    obtain ⟨hv1, hv2, hv3, hv4, hv5⟩ := hv
    refine AW.seq ?_
    refine AW.seq ?_
    refine AW.region ?_
    refine ARun.pure (PureOp.move rfl (.tmp rfl)) rfl rfl (Nat.le_of_ble_eq_true rfl) ?_
    refine ARun.pure (PureOp.move rfl (.tmp rfl)) rfl rfl (Nat.le_of_ble_eq_true rfl) ?_
    refine ARun.pure (PureOp.intOp rfl (.tmp rfl) (.tmp rfl) rfl) rfl rfl (Nat.le_of_ble_eq_true rfl) ?_
    refine ARun.nil ?_
    refine AW.cond (.tmp rfl) (fun hb18 => ?_) (fun hb18 => ?_)
    · have _u := True.intro
      replace hb18 := of_decide_eq_true hb18
      have hkl : v.l.length < 39 + x14 := by omega
      refine AW.skip ?_
      refine AW.seq ?_
      refine AW.block ?_
      refine AW.seq ?_
      refine AW.region ?_
      refine ARun.pure (PureOp.move rfl (.tmp rfl)) rfl rfl (Nat.le_of_ble_eq_true rfl) ?_
      refine ARun.pure (PureOp.move rfl (.tmp rfl)) rfl rfl (Nat.le_of_ble_eq_true rfl) ?_
      refine ARun.cur (id := 1000000) rfl (v_Pick n F hF v.p v.s (by omega) (by omega) (1 + x1) (by omega)) vd2_ca_58 ⟨.inr (.tmp rfl), .inl ⟨_, (.tmp rfl), .int⟩, trivial⟩ rfl rfl rfl (Nat.le_of_ble_eq_true rfl) (fun x19 p20 sd21 hc22 => ?_)
      obtain ⟨hc22x, hc22c⟩ := hc22
      obtain ⟨hc221, hc222, hc223⟩ := hc22c
      refine ARun.pure (PureOp.build (ys := [.int .i64 (x19 : Int), .int .i64 (-1)]) (l := [.int .i64 0, .int .i64 0]) (pl := [(0, 1), (1, 1)]) (z := (.agg #[.int .i64 0, .int .i64 0])) rfl (by kernel_rfl) (by kernel_rfl) (fun _ _ _ => ⟨_, _, rfl, rfl, ⟨_, _, rfl, rfl, rfl⟩⟩) ⟨(.tmp rfl), trivial, rfl, ⟨.int, trivial, rfl, trivial⟩⟩ rfl) rfl rfl (Nat.le_of_ble_eq_true rfl) ?_
      refine ARun.alloc (id := 0) (l := [.int .i64 0, .int .i64 0]) (z := (.agg #[.int .i64 0, .int .i64 0])) rfl (by kernel_rfl) (fun _ _ _ => ⟨_, _, rfl, rfl, ⟨_, _, rfl, rfl, rfl⟩⟩) ⟨rfl, (by repeat first | exact trivial | refine ⟨by decide, by first | rfl | exact trivial | (intro i j; first | rfl | exact getD_no rfl | (dsimp only; split <;> first | rfl | exact getD_no rfl) | exact scl_no (by apply_assumption) _), ?_⟩)⟩ rfl rfl rfl (Nat.le_of_ble_eq_true rfl) ?_
      refine ARun.store rfl (.tmp rfl) (.tmp rfl) (SV.cells_of (by exact ⟨trivial, trivial, trivial⟩)) rfl (Nat.le_of_ble_eq_true rfl) vd2_sz_64_2 rfl rfl ?_
      refine ARun.nil ?_
      refine AW.seq ?_
      refine AW.seq ?_
      refine AW.region ?_
      refine ARun.pure (PureOp.move rfl (.tmp rfl)) rfl rfl (Nat.le_of_ble_eq_true rfl) ?_
      refine ARun.pure (PureOp.intOp rfl (.tmp rfl) .int rfl) rfl rfl (Nat.le_of_ble_eq_true rfl) ?_
      refine ARun.pure (PureOp.move rfl (.tmp rfl)) rfl rfl (Nat.le_of_ble_eq_true rfl) ?_
      refine ARun.gpure (want := true) (.tt rfl) (fun hg23 => PureOp.move rfl (.tmp rfl)) rfl rfl (Nat.le_of_ble_eq_true rfl) rfl (Nat.le_of_ble_eq_true rfl) ?_
      refine ARun.gcur (id := 1000000) (want := true) (.tt rfl) rfl (v_One n F hF p20 sd21 (by omega) (by omega) 2 (by omega)) vd2_ca_62 (fun hg24 => ⟨.inr (.gtmp rfl hg24), .inl ⟨_, .int, .int⟩, trivial⟩) rfl rfl rfl (Nat.le_of_ble_eq_true rfl) rfl (Nat.le_of_ble_eq_true rfl) (fun x25 p26 sd27 hc28 hn29 => ?_)
      obtain ⟨hc281, hc282, hc283⟩ : CurOk p20 2 p26 sd27 := CurOk.gd (by omega) (hc28) hn29
      refine ARun.pure (PureOp.pick rfl (.tmp rfl) (fun hp30 => .gtmp rfl hp30) (fun _ => .bool)) rfl rfl (Nat.le_of_ble_eq_true rfl) ?_
      refine ARun.nil ?_
      refine AW.cond (.tmp rfl) (fun hb32 => ?_) (fun hb32 => ?_)
      · have _u := True.intro
        have h0 := of_decide_eq_true (and_condE hb32).1
        have h00 : 0 < v.l.length := by omega
        refine AW.seq ?_
        refine AW.region ?_
        refine ARun.pure (PureOp.move rfl (.tmp rfl)) rfl rfl (Nat.le_of_ble_eq_true rfl) ?_
        refine ARun.pure (PureOp.move rfl (.tmp rfl)) rfl rfl (Nat.le_of_ble_eq_true rfl) ?_
        refine ARun.cur (id := 1000000) rfl (v_Pick n F hF p26 sd27 (by omega) (by omega) v.l.length (by omega)) vd2_ca_58 ⟨.inr (.tmp rfl), .inl ⟨_, (.tmp rfl), .int⟩, trivial⟩ rfl rfl rfl (Nat.le_of_ble_eq_true rfl) (fun x33 p34 sd35 hc36 => ?_)
        obtain ⟨hc36x, hc36c⟩ := hc36
        obtain ⟨hc361, hc362, hc363⟩ := hc36c
        refine ARun.pure (PureOp.assign rfl (.tmp rfl)) rfl rfl (Nat.le_of_ble_eq_true rfl) ?_
        refine ARun.nil ?_
        refine AW.seq ?_
        refine AW.any (by kernel_rfl) (by kernel_rfl) ?_
        refine AD.pure (PureOp.move rfl (.tmp rfl)) rfl rfl (Nat.le_of_ble_eq_true rfl) ?_
        refine AD.pure (PureOp.move rfl (.tmp rfl)) rfl rfl (Nat.le_of_ble_eq_true rfl) ?_
        refine AD.pure (PureOp.indexOwn (i := x33) rfl (.tmp rfl) vd2_el_26_2 (.tmp rfl) rfl (by rcases hc36x with hx | hx <;> omega)) rfl rfl (Nat.le_of_ble_eq_true rfl) ?_
        refine AD.pure (PureOp.fieldPtr rfl (.tmp rfl) vd2_fi_64_0_0) rfl rfl (Nat.le_of_ble_eq_true rfl) ?_
        refine AD.pure (PureOp.loadPtr rfl (.tmp rfl) vd2_pl_3 rfl rfl (show _ < v.l.length from (by rcases hc36x with hx | hx <;> omega)) (Nat.le_of_ble_eq_true rfl)) rfl rfl (Nat.le_of_ble_eq_true rfl) ?_
        refine AD.pure (PureOp.fieldPtr rfl (.tmp rfl) vd2_fi_64_0_0) rfl rfl (Nat.le_of_ble_eq_true rfl) ?_
        refine AD.pure (PureOp.loadPtr rfl (.tmp rfl) vd2_pl_3 rfl rfl (Nat.le_of_ble_eq_true rfl) (Nat.le_of_ble_eq_true rfl)) rfl rfl (Nat.le_of_ble_eq_true rfl) ?_
        refine AD.pure (PureOp.intOp rfl (.tmp rfl) (.tmp rfl) rfl) rfl rfl (Nat.le_of_ble_eq_true rfl) ?_
        refine AD.nil ?_
        refine AW.cond (.tmp rfl) (fun hb37 => ?_) (fun hb37 => ?_)
        · have _u := True.intro
          replace hb37 := of_decide_eq_false (of_not hb37)
          refine AW.region ?_
          refine ARun.pure (PureOp.move rfl (.tmp rfl)) rfl rfl (Nat.le_of_ble_eq_true rfl) ?_
          refine ARun.pure (PureOp.fieldPtr rfl (.tmp rfl) vd2_fi_64_1_1) rfl rfl (Nat.le_of_ble_eq_true rfl) ?_
          refine ARun.store rfl (.tmp rfl) (.tmp rfl) trivial rfl (Nat.le_of_ble_eq_true rfl) vd2_sz_3_1 rfl rfl ?_
          refine ARun.nil ?_
          refine AW.region ?_
          refine ARun.pure (PureOp.move rfl (.tmp rfl)) rfl rfl (Nat.le_of_ble_eq_true rfl) ?_
          refine ARun.pure (PureOp.loadPtrAgg rfl (.tmp rfl) vd2_ag_64_2 rfl rfl (Nat.le_of_ble_eq_true rfl) (Nat.le_of_ble_eq_true rfl)) rfl rfl (Nat.le_of_ble_eq_true rfl) ?_
          refine ARun.slice1 (id := 1) (z := (.agg #[.int .i64 0, .int .i64 0])) (by_ := 16) rfl (.tmp rfl) (SV.cells_of (by exact ⟨trivial, trivial, trivial⟩)) (by kernel_rfl) rfl rfl (by decide) (by decide) ⟨rfl, (by repeat first | exact trivial | refine ⟨by decide, by first | rfl | exact trivial | (intro i j; first | rfl | exact getD_no rfl | (dsimp only; split <;> first | rfl | exact getD_no rfl) | exact scl_no (by apply_assumption) _), ?_⟩)⟩ rfl rfl rfl (Nat.le_of_ble_eq_true rfl) ?_
          refine ARun.append (id := 2) (sz := 2) (n := v.l.length) (m := 1) (by_ := 16) (z := (.agg #[.int .i64 0, .int .i64 0])) (f := evC v.l) (g := fun _ jc => ([.int .i64 (x19 : Int), .int .i64 (x33 : Int)] : List AV).getD jc (.con undef)) (h := fun ia ja => if ia < v.l.length then (evC v.l) ia ja else (fun _ jc => ([.int .i64 (x19 : Int), .int .i64 (x33 : Int)] : List AV).getD jc (.con undef)) (ia - v.l.length) ja) rfl (by kernel_rfl) rfl vd2_sl_26 (.own (.tmp rfl) rfl rfl rfl (Nat.le_refl _) (fun _ _ _ _ => rfl)) (.own (.tmp rfl) rfl rfl (Nat.le_refl _) (fun _ _ _ _ => rfl)) (by decide) (fun i j hi hj => match j, hj with | 0, _ => rfl | 1, _ => rfl | _ + 2, h => absurd h (by omega)) (fun _ _ _ _ => rfl) (by omega) (by omega) ⟨rfl, (by repeat first | exact trivial | refine ⟨by decide, by first | rfl | exact trivial | (intro i j; first | rfl | exact getD_no rfl | (dsimp only; split <;> first | rfl | exact getD_no rfl) | exact scl_no (by apply_assumption) _), ?_⟩)⟩ (fun i j => by dsimp only; (repeat' split) <;> first | rfl | exact getD_no rfl) rfl rfl (Nat.le_of_ble_eq_true rfl) ?_
          refine ARun.pure (PureOp.assign rfl (.tmp rfl)) rfl rfl (Nat.le_of_ble_eq_true rfl) ?_
          refine ARun.nil ?_
          refine AW.region ?_
          refine ARun.pure (PureOp.move rfl (.tmp rfl)) rfl rfl (Nat.le_of_ble_eq_true rfl) ?_
          refine ARun.pure (PureOp.add (c := ((v.l.length + 1 : Nat) : Int)) rfl (.tmp rfl) .int (by rw [wrap_id (by omega) (by omega)]; omega)) rfl rfl (Nat.le_of_ble_eq_true rfl) ?_
          refine ARun.pure (PureOp.assign rfl (.tmp rfl)) rfl rfl (Nat.le_of_ble_eq_true rfl) ?_
          refine ARun.nil ?_
          have hln : (v.l ++ [(⟨(x19 : Int), (x33 : Int)⟩ : GEvent)]).length = v.l.length + 1 := by rw [List.length_append]; rfl
          exact ⟨⟨(v.l ++ [(⟨(x19 : Int), (x33 : Int)⟩ : GEvent)]), p34, sd35⟩, (swp 900 2), ⟨by show (v.l ++ [(⟨(x19 : Int), (x33 : Int)⟩ : GEvent)]).length ≤ _; omega, by show p34 ≤ _ + 6 * (v.l ++ [(⟨(x19 : Int), (x33 : Int)⟩ : GEvent)]).length; omega, by show sd35 < _; omega, by show _ ≤ p34; omega, allEv_app hv5 ⟨by omega, by omega⟩ ⟨by omega, by omega⟩⟩, by show 39 + x14 - (v.l ++ [(⟨(x19 : Int), (x33 : Int)⟩ : GEvent)]).length < 39 + x14 - v.l.length; omega, swp_inj, (swp_fix rfl rfl), ⟨⟨⟨_, rfl, rfl⟩, ⟨_, rfl, rfl⟩, ⟨_, rfl, congrArg (fun z : Nat => SV.one (.own 2 2 z)) hln.symm⟩, ⟨_, rfl, rfl⟩, ⟨_, rfl, congrArg (fun z : Nat => SV.one (.int .i64 (z : Int))) hln.symm⟩, trivial⟩, ⟨⟨_, rfl, rfl, Nat.le_of_eq hln, fun ia ja hi hj => (ev_app (hln ▸ hi)).trans (ev_ren hj).symm⟩, ⟨_, rfl, rfl, Nat.le_refl _, fun _ _ _ _ => rfl⟩, trivial⟩⟩⟩
        · have _u := True.intro
          replace hb37 := of_decide_eq_true (not_f hb37)
          refine AW.skip ?_
          refine AW.region ?_
          refine ARun.pure (PureOp.move rfl (.tmp rfl)) rfl rfl (Nat.le_of_ble_eq_true rfl) ?_
          refine ARun.pure (PureOp.loadPtrAgg rfl (.tmp rfl) vd2_ag_64_2 rfl rfl (Nat.le_of_ble_eq_true rfl) (Nat.le_of_ble_eq_true rfl)) rfl rfl (Nat.le_of_ble_eq_true rfl) ?_
          refine ARun.slice1 (id := 3) (z := (.agg #[.int .i64 0, .int .i64 0])) (by_ := 16) rfl (.tmp rfl) (SV.cells_of (by exact ⟨trivial, trivial, trivial⟩)) (by kernel_rfl) rfl rfl (by decide) (by decide) ⟨rfl, (by repeat first | exact trivial | refine ⟨by decide, by first | rfl | exact trivial | (intro i j; first | rfl | exact getD_no rfl | (dsimp only; split <;> first | rfl | exact getD_no rfl) | exact scl_no (by apply_assumption) _), ?_⟩)⟩ rfl rfl rfl (Nat.le_of_ble_eq_true rfl) ?_
          refine ARun.append (id := 4) (sz := 2) (n := v.l.length) (m := 1) (by_ := 16) (z := (.agg #[.int .i64 0, .int .i64 0])) (f := evC v.l) (g := fun _ jc => ([.int .i64 (x19 : Int), .int .i64 (-1)] : List AV).getD jc (.con undef)) (h := fun ia ja => if ia < v.l.length then (evC v.l) ia ja else (fun _ jc => ([.int .i64 (x19 : Int), .int .i64 (-1)] : List AV).getD jc (.con undef)) (ia - v.l.length) ja) rfl (by kernel_rfl) rfl vd2_sl_26 (.own (.tmp rfl) rfl rfl rfl (Nat.le_refl _) (fun _ _ _ _ => rfl)) (.own (.tmp rfl) rfl rfl (Nat.le_refl _) (fun _ _ _ _ => rfl)) (by decide) (fun i j hi hj => match j, hj with | 0, _ => rfl | 1, _ => rfl | _ + 2, h => absurd h (by omega)) (fun _ _ _ _ => rfl) (by omega) (by omega) ⟨rfl, (by repeat first | exact trivial | refine ⟨by decide, by first | rfl | exact trivial | (intro i j; first | rfl | exact getD_no rfl | (dsimp only; split <;> first | rfl | exact getD_no rfl) | exact scl_no (by apply_assumption) _), ?_⟩)⟩ (fun i j => by dsimp only; (repeat' split) <;> first | rfl | exact getD_no rfl) rfl rfl (Nat.le_of_ble_eq_true rfl) ?_
          refine ARun.pure (PureOp.assign rfl (.tmp rfl)) rfl rfl (Nat.le_of_ble_eq_true rfl) ?_
          refine ARun.nil ?_
          refine AW.region ?_
          refine ARun.pure (PureOp.move rfl (.tmp rfl)) rfl rfl (Nat.le_of_ble_eq_true rfl) ?_
          refine ARun.pure (PureOp.add (c := ((v.l.length + 1 : Nat) : Int)) rfl (.tmp rfl) .int (by rw [wrap_id (by omega) (by omega)]; omega)) rfl rfl (Nat.le_of_ble_eq_true rfl) ?_
          refine ARun.pure (PureOp.assign rfl (.tmp rfl)) rfl rfl (Nat.le_of_ble_eq_true rfl) ?_
          refine ARun.nil ?_
          have hln : (v.l ++ [(⟨(x19 : Int), (-1)⟩ : GEvent)]).length = v.l.length + 1 := by rw [List.length_append]; rfl
          exact ⟨⟨(v.l ++ [(⟨(x19 : Int), (-1)⟩ : GEvent)]), p34, sd35⟩, (swp 900 4), ⟨by show (v.l ++ [(⟨(x19 : Int), (-1)⟩ : GEvent)]).length ≤ _; omega, by show p34 ≤ _ + 6 * (v.l ++ [(⟨(x19 : Int), (-1)⟩ : GEvent)]).length; omega, by show sd35 < _; omega, by show _ ≤ p34; omega, allEv_app hv5 ⟨by omega, by omega⟩ ⟨by omega, by omega⟩⟩, by show 39 + x14 - (v.l ++ [(⟨(x19 : Int), (-1)⟩ : GEvent)]).length < 39 + x14 - v.l.length; omega, swp_inj, (swp_fix rfl rfl), ⟨⟨⟨_, rfl, rfl⟩, ⟨_, rfl, rfl⟩, ⟨_, rfl, congrArg (fun z : Nat => SV.one (.own 4 2 z)) hln.symm⟩, ⟨_, rfl, rfl⟩, ⟨_, rfl, congrArg (fun z : Nat => SV.one (.int .i64 (z : Int))) hln.symm⟩, trivial⟩, ⟨⟨_, rfl, rfl, Nat.le_of_eq hln, fun ia ja hi hj => (ev_app (hln ▸ hi)).trans (ev_ren hj).symm⟩, ⟨_, rfl, rfl, Nat.le_refl _, fun _ _ _ _ => rfl⟩, trivial⟩⟩⟩
      · have _u := True.intro
        refine AW.skip ?_
        refine AW.region ?_
        refine ARun.pure (PureOp.move rfl (.tmp rfl)) rfl rfl (Nat.le_of_ble_eq_true rfl) ?_
        refine ARun.pure (PureOp.loadPtrAgg rfl (.tmp rfl) vd2_ag_64_2 rfl rfl (Nat.le_of_ble_eq_true rfl) (Nat.le_of_ble_eq_true rfl)) rfl rfl (Nat.le_of_ble_eq_true rfl) ?_
        refine ARun.slice1 (id := 5) (z := (.agg #[.int .i64 0, .int .i64 0])) (by_ := 16) rfl (.tmp rfl) (SV.cells_of (by exact ⟨trivial, trivial, trivial⟩)) (by kernel_rfl) rfl rfl (by decide) (by decide) ⟨rfl, (by repeat first | exact trivial | refine ⟨by decide, by first | rfl | exact trivial | (intro i j; first | rfl | exact getD_no rfl | (dsimp only; split <;> first | rfl | exact getD_no rfl) | exact scl_no (by apply_assumption) _), ?_⟩)⟩ rfl rfl rfl (Nat.le_of_ble_eq_true rfl) ?_
        refine ARun.append (id := 6) (sz := 2) (n := v.l.length) (m := 1) (by_ := 16) (z := (.agg #[.int .i64 0, .int .i64 0])) (f := evC v.l) (g := fun _ jc => ([.int .i64 (x19 : Int), .int .i64 (-1)] : List AV).getD jc (.con undef)) (h := fun ia ja => if ia < v.l.length then (evC v.l) ia ja else (fun _ jc => ([.int .i64 (x19 : Int), .int .i64 (-1)] : List AV).getD jc (.con undef)) (ia - v.l.length) ja) rfl (by kernel_rfl) rfl vd2_sl_26 (.own (.tmp rfl) rfl rfl rfl (Nat.le_refl _) (fun _ _ _ _ => rfl)) (.own (.tmp rfl) rfl rfl (Nat.le_refl _) (fun _ _ _ _ => rfl)) (by decide) (fun i j hi hj => match j, hj with | 0, _ => rfl | 1, _ => rfl | _ + 2, h => absurd h (by omega)) (fun _ _ _ _ => rfl) (by omega) (by omega) ⟨rfl, (by repeat first | exact trivial | refine ⟨by decide, by first | rfl | exact trivial | (intro i j; first | rfl | exact getD_no rfl | (dsimp only; split <;> first | rfl | exact getD_no rfl) | exact scl_no (by apply_assumption) _), ?_⟩)⟩ (fun i j => by dsimp only; (repeat' split) <;> first | rfl | exact getD_no rfl) rfl rfl (Nat.le_of_ble_eq_true rfl) ?_
        refine ARun.pure (PureOp.assign rfl (.tmp rfl)) rfl rfl (Nat.le_of_ble_eq_true rfl) ?_
        refine ARun.nil ?_
        refine AW.region ?_
        refine ARun.pure (PureOp.move rfl (.tmp rfl)) rfl rfl (Nat.le_of_ble_eq_true rfl) ?_
        refine ARun.pure (PureOp.add (c := ((v.l.length + 1 : Nat) : Int)) rfl (.tmp rfl) .int (by rw [wrap_id (by omega) (by omega)]; omega)) rfl rfl (Nat.le_of_ble_eq_true rfl) ?_
        refine ARun.pure (PureOp.assign rfl (.tmp rfl)) rfl rfl (Nat.le_of_ble_eq_true rfl) ?_
        refine ARun.nil ?_
        have hln : (v.l ++ [(⟨(x19 : Int), (-1)⟩ : GEvent)]).length = v.l.length + 1 := by rw [List.length_append]; rfl
        exact ⟨⟨(v.l ++ [(⟨(x19 : Int), (-1)⟩ : GEvent)]), p26, sd27⟩, (swp 900 6), ⟨by show (v.l ++ [(⟨(x19 : Int), (-1)⟩ : GEvent)]).length ≤ _; omega, by show p26 ≤ _ + 6 * (v.l ++ [(⟨(x19 : Int), (-1)⟩ : GEvent)]).length; omega, by show sd27 < _; omega, by show _ ≤ p26; omega, allEv_app hv5 ⟨by omega, by omega⟩ ⟨by omega, by omega⟩⟩, by show 39 + x14 - (v.l ++ [(⟨(x19 : Int), (-1)⟩ : GEvent)]).length < 39 + x14 - v.l.length; omega, swp_inj, (swp_fix rfl rfl), ⟨⟨⟨_, rfl, rfl⟩, ⟨_, rfl, rfl⟩, ⟨_, rfl, congrArg (fun z : Nat => SV.one (.own 6 2 z)) hln.symm⟩, ⟨_, rfl, rfl⟩, ⟨_, rfl, congrArg (fun z : Nat => SV.one (.int .i64 (z : Int))) hln.symm⟩, trivial⟩, ⟨⟨_, rfl, rfl, Nat.le_of_eq hln, fun ia ja hi hj => (ev_app (hln ▸ hi)).trans (ev_ren hj).symm⟩, ⟨_, rfl, rfl, Nat.le_refl _, fun _ _ _ _ => rfl⟩, trivial⟩⟩⟩
    · have _u := True.intro
      replace hb18 := of_decide_eq_false hb18
      have hkl : ¬ v.l.length < 39 + x14 := by omega
      refine AW.exit ?_
      refine AW.seq ?_
      refine AW.seq ?_
      refine AW.region ?_
      refine ARun.pure (PureOp.move rfl (.tmp rfl)) rfl rfl (Nat.le_of_ble_eq_true rfl) ?_
      refine ARun.pure (PureOp.lenOwn rfl (.tmp rfl) vd2_sl_26) rfl rfl (Nat.le_of_ble_eq_true rfl) ?_
      refine ARun.pure (PureOp.intOp rfl (.tmp rfl) .int rfl) rfl rfl (Nat.le_of_ble_eq_true rfl) ?_
      refine ARun.pure (PureOp.move rfl (.tmp rfl)) rfl rfl (Nat.le_of_ble_eq_true rfl) ?_
      refine ARun.gpure (want := true) (.tt rfl) (fun hg38 => PureOp.move rfl (.tmp rfl)) rfl rfl (Nat.le_of_ble_eq_true rfl) rfl (Nat.le_of_ble_eq_true rfl) ?_
      refine ARun.gcur (id := 1000000) (want := true) (.tt rfl) rfl (v_One n F hF v.p v.s (by omega) (by omega) 30 (by omega)) vd2_ca_62 (fun hg39 => ⟨.inr (.gtmp rfl hg39), .inl ⟨_, .int, .int⟩, trivial⟩) rfl rfl rfl (Nat.le_of_ble_eq_true rfl) rfl (Nat.le_of_ble_eq_true rfl) (fun x40 p41 sd42 hc43 hn44 => ?_)
      obtain ⟨hc431, hc432, hc433⟩ : CurOk v.p 2 p41 sd42 := CurOk.gd (by omega) (hc43) hn44
      refine ARun.pure (PureOp.pick rfl (.tmp rfl) (fun hp45 => .gtmp rfl hp45) (fun _ => .bool)) rfl rfl (Nat.le_of_ble_eq_true rfl) ?_
      refine ARun.nil ?_
      refine AW.cond (.tmp rfl) (fun hb47 => ?_) (fun hb47 => ?_)
      · have _u := True.intro
        have h0 := of_decide_eq_true (and_condE hb47).1
        have h00 : 0 < v.l.length := by omega
        refine AW.region ?_
        refine ARun.pure (PureOp.move rfl (.tmp rfl)) rfl rfl (Nat.le_of_ble_eq_true rfl) ?_
        refine ARun.pure (PureOp.move rfl (.tmp rfl)) rfl rfl (Nat.le_of_ble_eq_true rfl) ?_
        refine ARun.cur (id := 1000000) rfl (v_Pick n F hF p41 sd42 (by omega) (by omega) 6 (by omega)) vd2_ca_58 ⟨.inr (.tmp rfl), .inl ⟨_, .int, .int⟩, trivial⟩ rfl rfl rfl (Nat.le_of_ble_eq_true rfl) (fun x48 p49 sd50 hc51 => ?_)
        obtain ⟨hc51x, hc51c⟩ := hc51
        obtain ⟨hc511, hc512, hc513⟩ := hc51c
        refine ARun.pure (PureOp.move rfl (.tmp rfl)) rfl rfl (Nat.le_of_ble_eq_true rfl) ?_
        refine ARun.cur (id := 1000000) rfl (v_Pick n F hF p49 sd50 (by omega) (by omega) 3 (by omega)) vd2_ca_58 ⟨.inr (.tmp rfl), .inl ⟨_, .int, .int⟩, trivial⟩ rfl rfl rfl (Nat.le_of_ble_eq_true rfl) (fun x52 p53 sd54 hc55 => ?_)
        obtain ⟨hc55x, hc55c⟩ := hc55
        obtain ⟨hc551, hc552, hc553⟩ := hc55c
        refine ARun.pure (PureOp.sub (c := (x52 : Int) - 1) rfl (.tmp rfl) .int (wrap_id (by omega) (by omega))) rfl rfl (Nat.le_of_ble_eq_true rfl) ?_
        refine ARun.pure (PureOp.build (ys := [.int .i64 (x48 : Int), .int .i64 ((x52 : Int) - 1)]) (l := [.int .i64 0, .int .i64 0]) (pl := [(0, 1), (1, 1)]) (z := (.agg #[.int .i64 0, .int .i64 0])) rfl (by kernel_rfl) (by kernel_rfl) (fun _ _ _ => ⟨_, _, rfl, rfl, ⟨_, _, rfl, rfl, rfl⟩⟩) ⟨(.tmp rfl), trivial, rfl, ⟨(.tmp rfl), trivial, rfl, trivial⟩⟩ rfl) rfl rfl (Nat.le_of_ble_eq_true rfl) ?_
        refine ARun.pure (PureOp.indexOwn (i := 0) rfl (.tmp rfl) vd2_el_26_2 .int rfl (by omega)) rfl rfl (Nat.le_of_ble_eq_true rfl) ?_
        refine ARun.storeElem rfl (.tmp rfl) (.tmp rfl) (SV.cells_of (by exact ⟨trivial, trivial, trivial⟩)) rfl (show _ < v.l.length from h00) rfl vd2_sz_64_2 rfl rfl ?_
        refine ARun.nil ?_
        refine AW.seq ?_
        refine AW.region ?_
        refine ARun.pure (PureOp.move rfl (.tmp rfl)) rfl rfl (Nat.le_of_ble_eq_true rfl) ?_
        refine ARun.pure (PureOp.move rfl (.tmp rfl)) rfl rfl (Nat.le_of_ble_eq_true rfl) ?_
        refine ARun.pure (PureOp.assign rfl (.tmp rfl)) rfl rfl (Nat.le_of_ble_eq_true rfl) ?_
        refine ARun.pure (PureOp.assign rfl (.tmp rfl)) rfl rfl (Nat.le_of_ble_eq_true rfl) ?_
        refine ARun.nil ?_
        exact AW.ret (show ∃ x p' s' t, _ ∧ ResL _ _ [.tmp 2, .tmp 3] t ∧ _ ∧ _ from ⟨⟨1 + x1, (v.l.set 0 (⟨(x48 : Int), ((x52 : Int) - 1)⟩ : GEvent))⟩, p53, sd54, _, ⟨⟨⟨by show 1 ≤ _; omega, by show _ ≤ 4; omega⟩, by rw [show (⟨1 + x1, (v.l.set 0 (⟨(x48 : Int), ((x52 : Int) - 1)⟩ : GEvent))⟩ : Nat × List GEvent).2.length = v.l.length from List.length_set ..]; show v.l.length ≤ 41; omega, allEv_set hv5 ⟨by omega, by omega⟩ ⟨by omega, by omega⟩⟩, ⟨by omega, by omega, by omega⟩⟩, .inr (.inl ⟨_, _, _, _, rfl, .tmp rfl, .tmp rfl, rfl⟩), ⟨.int, fw_ev rfl rfl rfl (Nat.le_of_eq (List.length_set ..)) (List.length_set ..).symm (fun _ _ _ _ => ev_set h00)⟩, rfl⟩)
      · have _u := True.intro
        refine AW.skip ?_
        refine AW.seq ?_
        refine AW.region ?_
        refine ARun.pure (PureOp.move rfl (.tmp rfl)) rfl rfl (Nat.le_of_ble_eq_true rfl) ?_
        refine ARun.pure (PureOp.move rfl (.tmp rfl)) rfl rfl (Nat.le_of_ble_eq_true rfl) ?_
        refine ARun.pure (PureOp.assign rfl (.tmp rfl)) rfl rfl (Nat.le_of_ble_eq_true rfl) ?_
        refine ARun.pure (PureOp.assign rfl (.tmp rfl)) rfl rfl (Nat.le_of_ble_eq_true rfl) ?_
        refine ARun.nil ?_
        exact AW.ret (show ∃ x p' s' t, _ ∧ ResL _ _ [.tmp 2, .tmp 3] t ∧ _ ∧ _ from ⟨⟨1 + x1, v.l⟩, p41, sd42, _, ⟨⟨⟨by show 1 ≤ _; omega, by show _ ≤ 4; omega⟩, by show v.l.length ≤ 41; omega, hv5⟩, ⟨by omega, by omega, by omega⟩⟩, .inr (.inl ⟨_, _, _, _, rfl, .tmp rfl, .tmp rfl, rfl⟩), ⟨.int, fw_ev rfl rfl rfl (Nat.le_refl _) rfl (fun _ _ _ _ => rfl)⟩, rfl⟩)
  · have _u := True.intro
    refine AW.skip ?_
    refine AW.seq ?_
    refine AW.seq ?_
    refine AW.region ?_
    refine ARun.pure (PureOp.assign rfl .int) rfl rfl (Nat.le_of_ble_eq_true rfl) ?_
    refine ARun.nil ?_
    refine AW.block ?_
    refine AW.nilSlot 5 900 2 (evC []) rfl ⟨rfl, (by repeat first | exact trivial | refine ⟨by decide, by first | rfl | exact trivial | (intro i j; first | rfl | exact getD_no rfl | (dsimp only; split <;> first | rfl | exact getD_no rfl) | exact scl_no (by apply_assumption) _), ?_⟩)⟩ ?_
    -- objects are renamed
    refine AW.loopR (ι := EvS) (fun v => ⟨[(0, .one (.ptr 1000000 3 0 0)), (4, .one (.int .i64 ((1 + x1 : Nat) : Int))), (5, .one (.own 900 2 v.l.length)), (6, .one (.int .i64 (x5 : Int))), (7, .one (.int .i64 (v.l.length : Int)))], [(900, .arr 2 v.l.length (evC v.l)), (1000000, .cells [.cv c (.lst 1 n (fun i _ => .int .u8 ((F i : Nat) : Int))), .int .i64 (v.p : Int), .int .u64 ((v.s : Nat) : Int)])]⟩) (fun v => v.l.length ≤ x5 ∧ v.p ≤ p10 + 6 * v.l.length ∧ v.s < 18446744073709551616 ∧ p10 ≤ v.p ∧ allEv v.l) (fun v => x5 - v.l.length) ⟨[], p10, sd11⟩ ⟨Nat.zero_le _, by show p10 ≤ p10 + 6 * 0; omega, by show sd11 < 18446744073709551616; omega, Nat.le_refl _, fun _ he => (nomatch he)⟩ ⟨⟨⟨_, rfl, rfl⟩, ⟨_, rfl, rfl⟩, ⟨_, rfl, rfl⟩, ⟨_, rfl, rfl⟩, ⟨_, rfl, rfl⟩, trivial⟩, ⟨⟨_, rfl, rfl, Nat.le_refl _, fun _ _ _ _ => rfl⟩, ⟨_, rfl, rfl, Nat.le_refl _, fun _ _ _ _ => rfl⟩, trivial⟩⟩ ?_
    intro v hv
    obtain ⟨hv1, hv2, hv3, hv4, hv5⟩ := hv
    refine AW.seq ?_
    refine AW.seq ?_
    refine AW.region ?_
    refine ARun.pure (PureOp.move rfl (.tmp rfl)) rfl rfl (Nat.le_of_ble_eq_true rfl) ?_
    refine ARun.pure (PureOp.move rfl (.tmp rfl)) rfl rfl (Nat.le_of_ble_eq_true rfl) ?_
    refine ARun.pure (PureOp.intOp rfl (.tmp rfl) (.tmp rfl) rfl) rfl rfl (Nat.le_of_ble_eq_true rfl) ?_
    refine ARun.nil ?_
    refine AW.cond (.tmp rfl) (fun hb56 => ?_) (fun hb56 => ?_)
    · have _u := True.intro
      replace hb56 := of_decide_eq_true hb56
      have hkl : v.l.length < x5 := by omega
      refine AW.skip ?_
      refine AW.seq ?_
      refine AW.block ?_
      refine AW.seq ?_
      refine AW.region ?_
      refine ARun.pure (PureOp.move rfl (.tmp rfl)) rfl rfl (Nat.le_of_ble_eq_true rfl) ?_
      refine ARun.pure (PureOp.move rfl (.tmp rfl)) rfl rfl (Nat.le_of_ble_eq_true rfl) ?_
      refine ARun.cur (id := 1000000) rfl (v_Pick n F hF v.p v.s (by omega) (by omega) (1 + x1) (by omega)) vd2_ca_58 ⟨.inr (.tmp rfl), .inl ⟨_, (.tmp rfl), .int⟩, trivial⟩ rfl rfl rfl (Nat.le_of_ble_eq_true rfl) (fun x57 p58 sd59 hc60 => ?_)
      obtain ⟨hc60x, hc60c⟩ := hc60
      obtain ⟨hc601, hc602, hc603⟩ := hc60c
      refine ARun.pure (PureOp.build (ys := [.int .i64 (x57 : Int), .int .i64 (-1)]) (l := [.int .i64 0, .int .i64 0]) (pl := [(0, 1), (1, 1)]) (z := (.agg #[.int .i64 0, .int .i64 0])) rfl (by kernel_rfl) (by kernel_rfl) (fun _ _ _ => ⟨_, _, rfl, rfl, ⟨_, _, rfl, rfl, rfl⟩⟩) ⟨(.tmp rfl), trivial, rfl, ⟨.int, trivial, rfl, trivial⟩⟩ rfl) rfl rfl (Nat.le_of_ble_eq_true rfl) ?_
      refine ARun.alloc (id := 7) (l := [.int .i64 0, .int .i64 0]) (z := (.agg #[.int .i64 0, .int .i64 0])) rfl (by kernel_rfl) (fun _ _ _ => ⟨_, _, rfl, rfl, ⟨_, _, rfl, rfl, rfl⟩⟩) ⟨rfl, (by repeat first | exact trivial | refine ⟨by decide, by first | rfl | exact trivial | (intro i j; first | rfl | exact getD_no rfl | (dsimp only; split <;> first | rfl | exact getD_no rfl) | exact scl_no (by apply_assumption) _), ?_⟩)⟩ rfl rfl rfl (Nat.le_of_ble_eq_true rfl) ?_
      refine ARun.store rfl (.tmp rfl) (.tmp rfl) (SV.cells_of (by exact ⟨trivial, trivial, trivial⟩)) rfl (Nat.le_of_ble_eq_true rfl) vd2_sz_64_2 rfl rfl ?_
      refine ARun.nil ?_
      refine AW.seq ?_
      refine AW.seq ?_
      refine AW.region ?_
      refine ARun.pure (PureOp.move rfl (.tmp rfl)) rfl rfl (Nat.le_of_ble_eq_true rfl) ?_
      refine ARun.pure (PureOp.intOp rfl (.tmp rfl) .int rfl) rfl rfl (Nat.le_of_ble_eq_true rfl) ?_
      refine ARun.pure (PureOp.move rfl (.tmp rfl)) rfl rfl (Nat.le_of_ble_eq_true rfl) ?_
      refine ARun.gpure (want := true) (.tt rfl) (fun hg61 => PureOp.move rfl (.tmp rfl)) rfl rfl (Nat.le_of_ble_eq_true rfl) rfl (Nat.le_of_ble_eq_true rfl) ?_
      refine ARun.gcur (id := 1000000) (want := true) (.tt rfl) rfl (v_One n F hF p58 sd59 (by omega) (by omega) 2 (by omega)) vd2_ca_62 (fun hg62 => ⟨.inr (.gtmp rfl hg62), .inl ⟨_, .int, .int⟩, trivial⟩) rfl rfl rfl (Nat.le_of_ble_eq_true rfl) rfl (Nat.le_of_ble_eq_true rfl) (fun x63 p64 sd65 hc66 hn67 => ?_)
      obtain ⟨hc661, hc662, hc663⟩ : CurOk p58 2 p64 sd65 := CurOk.gd (by omega) (hc66) hn67
      refine ARun.pure (PureOp.pick rfl (.tmp rfl) (fun hp68 => .gtmp rfl hp68) (fun _ => .bool)) rfl rfl (Nat.le_of_ble_eq_true rfl) ?_
      refine ARun.nil ?_
      refine AW.cond (.tmp rfl) (fun hb70 => ?_) (fun hb70 => ?_)
      · have _u := True.intro
        have h0 := of_decide_eq_true (and_condE hb70).1
        have h00 : 0 < v.l.length := by omega
        refine AW.seq ?_
        refine AW.region ?_
        refine ARun.pure (PureOp.move rfl (.tmp rfl)) rfl rfl (Nat.le_of_ble_eq_true rfl) ?_
        refine ARun.pure (PureOp.move rfl (.tmp rfl)) rfl rfl (Nat.le_of_ble_eq_true rfl) ?_
        refine ARun.cur (id := 1000000) rfl (v_Pick n F hF p64 sd65 (by omega) (by omega) v.l.length (by omega)) vd2_ca_58 ⟨.inr (.tmp rfl), .inl ⟨_, (.tmp rfl), .int⟩, trivial⟩ rfl rfl rfl (Nat.le_of_ble_eq_true rfl) (fun x71 p72 sd73 hc74 => ?_)
        obtain ⟨hc74x, hc74c⟩ := hc74
        obtain ⟨hc741, hc742, hc743⟩ := hc74c
        refine ARun.pure (PureOp.assign rfl (.tmp rfl)) rfl rfl (Nat.le_of_ble_eq_true rfl) ?_
        refine ARun.nil ?_
        refine AW.seq ?_
        refine AW.any (by kernel_rfl) (by kernel_rfl) ?_
        refine AD.pure (PureOp.move rfl (.tmp rfl)) rfl rfl (Nat.le_of_ble_eq_true rfl) ?_
        refine AD.pure (PureOp.move rfl (.tmp rfl)) rfl rfl (Nat.le_of_ble_eq_true rfl) ?_
        refine AD.pure (PureOp.indexOwn (i := x71) rfl (.tmp rfl) vd2_el_26_2 (.tmp rfl) rfl (by rcases hc74x with hx | hx <;> omega)) rfl rfl (Nat.le_of_ble_eq_true rfl) ?_
        refine AD.pure (PureOp.fieldPtr rfl (.tmp rfl) vd2_fi_64_0_0) rfl rfl (Nat.le_of_ble_eq_true rfl) ?_
        refine AD.pure (PureOp.loadPtr rfl (.tmp rfl) vd2_pl_3 rfl rfl (show _ < v.l.length from (by rcases hc74x with hx | hx <;> omega)) (Nat.le_of_ble_eq_true rfl)) rfl rfl (Nat.le_of_ble_eq_true rfl) ?_
        refine AD.pure (PureOp.fieldPtr rfl (.tmp rfl) vd2_fi_64_0_0) rfl rfl (Nat.le_of_ble_eq_true rfl) ?_
        refine AD.pure (PureOp.loadPtr rfl (.tmp rfl) vd2_pl_3 rfl rfl (Nat.le_of_ble_eq_true rfl) (Nat.le_of_ble_eq_true rfl)) rfl rfl (Nat.le_of_ble_eq_true rfl) ?_
        refine AD.pure (PureOp.intOp rfl (.tmp rfl) (.tmp rfl) rfl) rfl rfl (Nat.le_of_ble_eq_true rfl) ?_
        refine AD.nil ?_
        refine AW.cond (.tmp rfl) (fun hb75 => ?_) (fun hb75 => ?_)
        · have _u := True.intro
          replace hb75 := of_decide_eq_false (of_not hb75)
          refine AW.region ?_
          refine ARun.pure (PureOp.move rfl (.tmp rfl)) rfl rfl (Nat.le_of_ble_eq_true rfl) ?_
          refine ARun.pure (PureOp.fieldPtr rfl (.tmp rfl) vd2_fi_64_1_1) rfl rfl (Nat.le_of_ble_eq_true rfl) ?_
          refine ARun.store rfl (.tmp rfl) (.tmp rfl) trivial rfl (Nat.le_of_ble_eq_true rfl) vd2_sz_3_1 rfl rfl ?_
          refine ARun.nil ?_
          refine AW.region ?_
          refine ARun.pure (PureOp.move rfl (.tmp rfl)) rfl rfl (Nat.le_of_ble_eq_true rfl) ?_
          refine ARun.pure (PureOp.loadPtrAgg rfl (.tmp rfl) vd2_ag_64_2 rfl rfl (Nat.le_of_ble_eq_true rfl) (Nat.le_of_ble_eq_true rfl)) rfl rfl (Nat.le_of_ble_eq_true rfl) ?_
          refine ARun.slice1 (id := 8) (z := (.agg #[.int .i64 0, .int .i64 0])) (by_ := 16) rfl (.tmp rfl) (SV.cells_of (by exact ⟨trivial, trivial, trivial⟩)) (by kernel_rfl) rfl rfl (by decide) (by decide) ⟨rfl, (by repeat first | exact trivial | refine ⟨by decide, by first | rfl | exact trivial | (intro i j; first | rfl | exact getD_no rfl | (dsimp only; split <;> first | rfl | exact getD_no rfl) | exact scl_no (by apply_assumption) _), ?_⟩)⟩ rfl rfl rfl (Nat.le_of_ble_eq_true rfl) ?_
          refine ARun.append (id := 9) (sz := 2) (n := v.l.length) (m := 1) (by_ := 16) (z := (.agg #[.int .i64 0, .int .i64 0])) (f := evC v.l) (g := fun _ jc => ([.int .i64 (x57 : Int), .int .i64 (x71 : Int)] : List AV).getD jc (.con undef)) (h := fun ia ja => if ia < v.l.length then (evC v.l) ia ja else (fun _ jc => ([.int .i64 (x57 : Int), .int .i64 (x71 : Int)] : List AV).getD jc (.con undef)) (ia - v.l.length) ja) rfl (by kernel_rfl) rfl vd2_sl_26 (.own (.tmp rfl) rfl rfl rfl (Nat.le_refl _) (fun _ _ _ _ => rfl)) (.own (.tmp rfl) rfl rfl (Nat.le_refl _) (fun _ _ _ _ => rfl)) (by decide) (fun i j hi hj => match j, hj with | 0, _ => rfl | 1, _ => rfl | _ + 2, h => absurd h (by omega)) (fun _ _ _ _ => rfl) (by omega) (by omega) ⟨rfl, (by repeat first | exact trivial | refine ⟨by decide, by first | rfl | exact trivial | (intro i j; first | rfl | exact getD_no rfl | (dsimp only; split <;> first | rfl | exact getD_no rfl) | exact scl_no (by apply_assumption) _), ?_⟩)⟩ (fun i j => by dsimp only; (repeat' split) <;> first | rfl | exact getD_no rfl) rfl rfl (Nat.le_of_ble_eq_true rfl) ?_
          refine ARun.pure (PureOp.assign rfl (.tmp rfl)) rfl rfl (Nat.le_of_ble_eq_true rfl) ?_
          refine ARun.nil ?_
          refine AW.region ?_
          refine ARun.pure (PureOp.move rfl (.tmp rfl)) rfl rfl (Nat.le_of_ble_eq_true rfl) ?_
          refine ARun.pure (PureOp.add (c := ((v.l.length + 1 : Nat) : Int)) rfl (.tmp rfl) .int (by rw [wrap_id (by omega) (by omega)]; omega)) rfl rfl (Nat.le_of_ble_eq_true rfl) ?_
          refine ARun.pure (PureOp.assign rfl (.tmp rfl)) rfl rfl (Nat.le_of_ble_eq_true rfl) ?_
          refine ARun.nil ?_
          have hln : (v.l ++ [(⟨(x57 : Int), (x71 : Int)⟩ : GEvent)]).length = v.l.length + 1 := by rw [List.length_append]; rfl
          exact ⟨⟨(v.l ++ [(⟨(x57 : Int), (x71 : Int)⟩ : GEvent)]), p72, sd73⟩, (swp 900 9), ⟨by show (v.l ++ [(⟨(x57 : Int), (x71 : Int)⟩ : GEvent)]).length ≤ _; omega, by show p72 ≤ _ + 6 * (v.l ++ [(⟨(x57 : Int), (x71 : Int)⟩ : GEvent)]).length; omega, by show sd73 < _; omega, by show _ ≤ p72; omega, allEv_app hv5 ⟨by omega, by omega⟩ ⟨by omega, by omega⟩⟩, by show x5 - (v.l ++ [(⟨(x57 : Int), (x71 : Int)⟩ : GEvent)]).length < x5 - v.l.length; omega, swp_inj, (swp_fix rfl rfl), ⟨⟨⟨_, rfl, rfl⟩, ⟨_, rfl, rfl⟩, ⟨_, rfl, congrArg (fun z : Nat => SV.one (.own 9 2 z)) hln.symm⟩, ⟨_, rfl, rfl⟩, ⟨_, rfl, congrArg (fun z : Nat => SV.one (.int .i64 (z : Int))) hln.symm⟩, trivial⟩, ⟨⟨_, rfl, rfl, Nat.le_of_eq hln, fun ia ja hi hj => (ev_app (hln ▸ hi)).trans (ev_ren hj).symm⟩, ⟨_, rfl, rfl, Nat.le_refl _, fun _ _ _ _ => rfl⟩, trivial⟩⟩⟩
        · have _u := True.intro
          replace hb75 := of_decide_eq_true (not_f hb75)
          refine AW.skip ?_
          refine AW.region ?_
          refine ARun.pure (PureOp.move rfl (.tmp rfl)) rfl rfl (Nat.le_of_ble_eq_true rfl) ?_
          refine ARun.pure (PureOp.loadPtrAgg rfl (.tmp rfl) vd2_ag_64_2 rfl rfl (Nat.le_of_ble_eq_true rfl) (Nat.le_of_ble_eq_true rfl)) rfl rfl (Nat.le_of_ble_eq_true rfl) ?_
          refine ARun.slice1 (id := 10) (z := (.agg #[.int .i64 0, .int .i64 0])) (by_ := 16) rfl (.tmp rfl) (SV.cells_of (by exact ⟨trivial, trivial, trivial⟩)) (by kernel_rfl) rfl rfl (by decide) (by decide) ⟨rfl, (by repeat first | exact trivial | refine ⟨by decide, by first | rfl | exact trivial | (intro i j; first | rfl | exact getD_no rfl | (dsimp only; split <;> first | rfl | exact getD_no rfl) | exact scl_no (by apply_assumption) _), ?_⟩)⟩ rfl rfl rfl (Nat.le_of_ble_eq_true rfl) ?_
          refine ARun.append (id := 11) (sz := 2) (n := v.l.length) (m := 1) (by_ := 16) (z := (.agg #[.int .i64 0, .int .i64 0])) (f := evC v.l) (g := fun _ jc => ([.int .i64 (x57 : Int), .int .i64 (-1)] : List AV).getD jc (.con undef)) (h := fun ia ja => if ia < v.l.length then (evC v.l) ia ja else (fun _ jc => ([.int .i64 (x57 : Int), .int .i64 (-1)] : List AV).getD jc (.con undef)) (ia - v.l.length) ja) rfl (by kernel_rfl) rfl vd2_sl_26 (.own (.tmp rfl) rfl rfl rfl (Nat.le_refl _) (fun _ _ _ _ => rfl)) (.own (.tmp rfl) rfl rfl (Nat.le_refl _) (fun _ _ _ _ => rfl)) (by decide) (fun i j hi hj => match j, hj with | 0, _ => rfl | 1, _ => rfl | _ + 2, h => absurd h (by omega)) (fun _ _ _ _ => rfl) (by omega) (by omega) ⟨rfl, (by repeat first | exact trivial | refine ⟨by decide, by first | rfl | exact trivial | (intro i j; first | rfl | exact getD_no rfl | (dsimp only; split <;> first | rfl | exact getD_no rfl) | exact scl_no (by apply_assumption) _), ?_⟩)⟩ (fun i j => by dsimp only; (repeat' split) <;> first | rfl | exact getD_no rfl) rfl rfl (Nat.le_of_ble_eq_true rfl) ?_
          refine ARun.pure (PureOp.assign rfl (.tmp rfl)) rfl rfl (Nat.le_of_ble_eq_true rfl) ?_
          refine ARun.nil ?_
          refine AW.region ?_
          refine ARun.pure (PureOp.move rfl (.tmp rfl)) rfl rfl (Nat.le_of_ble_eq_true rfl) ?_
          refine ARun.pure (PureOp.add (c := ((v.l.length + 1 : Nat) : Int)) rfl (.tmp rfl) .int (by rw [wrap_id (by omega) (by omega)]; omega)) rfl rfl (Nat.le_of_ble_eq_true rfl) ?_
          refine ARun.pure (PureOp.assign rfl (.tmp rfl)) rfl rfl (Nat.le_of_ble_eq_true rfl) ?_
          refine ARun.nil ?_
          have hln : (v.l ++ [(⟨(x57 : Int), (-1)⟩ : GEvent)]).length = v.l.length + 1 := by rw [List.length_append]; rfl
          exact ⟨⟨(v.l ++ [(⟨(x57 : Int), (-1)⟩ : GEvent)]), p72, sd73⟩, (swp 900 11), ⟨by show (v.l ++ [(⟨(x57 : Int), (-1)⟩ : GEvent)]).length ≤ _; omega, by show p72 ≤ _ + 6 * (v.l ++ [(⟨(x57 : Int), (-1)⟩ : GEvent)]).length; omega, by show sd73 < _; omega, by show _ ≤ p72; omega, allEv_app hv5 ⟨by omega, by omega⟩ ⟨by omega, by omega⟩⟩, by show x5 - (v.l ++ [(⟨(x57 : Int), (-1)⟩ : GEvent)]).length < x5 - v.l.length; omega, swp_inj, (swp_fix rfl rfl), ⟨⟨⟨_, rfl, rfl⟩, ⟨_, rfl, rfl⟩, ⟨_, rfl, congrArg (fun z : Nat => SV.one (.own 11 2 z)) hln.symm⟩, ⟨_, rfl, rfl⟩, ⟨_, rfl, congrArg (fun z : Nat => SV.one (.int .i64 (z : Int))) hln.symm⟩, trivial⟩, ⟨⟨_, rfl, rfl, Nat.le_of_eq hln, fun ia ja hi hj => (ev_app (hln ▸ hi)).trans (ev_ren hj).symm⟩, ⟨_, rfl, rfl, Nat.le_refl _, fun _ _ _ _ => rfl⟩, trivial⟩⟩⟩
      · have _u := True.intro
        refine AW.skip ?_
        refine AW.region ?_
        refine ARun.pure (PureOp.move rfl (.tmp rfl)) rfl rfl (Nat.le_of_ble_eq_true rfl) ?_
        refine ARun.pure (PureOp.loadPtrAgg rfl (.tmp rfl) vd2_ag_64_2 rfl rfl (Nat.le_of_ble_eq_true rfl) (Nat.le_of_ble_eq_true rfl)) rfl rfl (Nat.le_of_ble_eq_true rfl) ?_
        refine ARun.slice1 (id := 12) (z := (.agg #[.int .i64 0, .int .i64 0])) (by_ := 16) rfl (.tmp rfl) (SV.cells_of (by exact ⟨trivial, trivial, trivial⟩)) (by kernel_rfl) rfl rfl (by decide) (by decide) ⟨rfl, (by repeat first | exact trivial | refine ⟨by decide, by first | rfl | exact trivial | (intro i j; first | rfl | exact getD_no rfl | (dsimp only; split <;> first | rfl | exact getD_no rfl) | exact scl_no (by apply_assumption) _), ?_⟩)⟩ rfl rfl rfl (Nat.le_of_ble_eq_true rfl) ?_
        refine ARun.append (id := 13) (sz := 2) (n := v.l.length) (m := 1) (by_ := 16) (z := (.agg #[.int .i64 0, .int .i64 0])) (f := evC v.l) (g := fun _ jc => ([.int .i64 (x57 : Int), .int .i64 (-1)] : List AV).getD jc (.con undef)) (h := fun ia ja => if ia < v.l.length then (evC v.l) ia ja else (fun _ jc => ([.int .i64 (x57 : Int), .int .i64 (-1)] : List AV).getD jc (.con undef)) (ia - v.l.length) ja) rfl (by kernel_rfl) rfl vd2_sl_26 (.own (.tmp rfl) rfl rfl rfl (Nat.le_refl _) (fun _ _ _ _ => rfl)) (.own (.tmp rfl) rfl rfl (Nat.le_refl _) (fun _ _ _ _ => rfl)) (by decide) (fun i j hi hj => match j, hj with | 0, _ => rfl | 1, _ => rfl | _ + 2, h => absurd h (by omega)) (fun _ _ _ _ => rfl) (by omega) (by omega) ⟨rfl, (by repeat first | exact trivial | refine ⟨by decide, by first | rfl | exact trivial | (intro i j; first | rfl | exact getD_no rfl | (dsimp only; split <;> first | rfl | exact getD_no rfl) | exact scl_no (by apply_assumption) _), ?_⟩)⟩ (fun i j => by dsimp only; (repeat' split) <;> first | rfl | exact getD_no rfl) rfl rfl (Nat.le_of_ble_eq_true rfl) ?_
        refine ARun.pure (PureOp.assign rfl (.tmp rfl)) rfl rfl (Nat.le_of_ble_eq_true rfl) ?_
        refine ARun.nil ?_
        refine AW.region ?_
        refine ARun.pure (PureOp.move rfl (.tmp rfl)) rfl rfl (Nat.le_of_ble_eq_true rfl) ?_
        refine ARun.pure (PureOp.add (c := ((v.l.length + 1 : Nat) : Int)) rfl (.tmp rfl) .int (by rw [wrap_id (by omega) (by omega)]; omega)) rfl rfl (Nat.le_of_ble_eq_true rfl) ?_
        refine ARun.pure (PureOp.assign rfl (.tmp rfl)) rfl rfl (Nat.le_of_ble_eq_true rfl) ?_
        refine ARun.nil ?_
        have hln : (v.l ++ [(⟨(x57 : Int), (-1)⟩ : GEvent)]).length = v.l.length + 1 := by rw [List.length_append]; rfl
        exact ⟨⟨(v.l ++ [(⟨(x57 : Int), (-1)⟩ : GEvent)]), p64, sd65⟩, (swp 900 13), ⟨by show (v.l ++ [(⟨(x57 : Int), (-1)⟩ : GEvent)]).length ≤ _; omega, by show p64 ≤ _ + 6 * (v.l ++ [(⟨(x57 : Int), (-1)⟩ : GEvent)]).length; omega, by show sd65 < _; omega, by show _ ≤ p64; omega, allEv_app hv5 ⟨by omega, by omega⟩ ⟨by omega, by omega⟩⟩, by show x5 - (v.l ++ [(⟨(x57 : Int), (-1)⟩ : GEvent)]).length < x5 - v.l.length; omega, swp_inj, (swp_fix rfl rfl), ⟨⟨⟨_, rfl, rfl⟩, ⟨_, rfl, rfl⟩, ⟨_, rfl, congrArg (fun z : Nat => SV.one (.own 13 2 z)) hln.symm⟩, ⟨_, rfl, rfl⟩, ⟨_, rfl, congrArg (fun z : Nat => SV.one (.int .i64 (z : Int))) hln.symm⟩, trivial⟩, ⟨⟨_, rfl, rfl, Nat.le_of_eq hln, fun ia ja hi hj => (ev_app (hln ▸ hi)).trans (ev_ren hj).symm⟩, ⟨_, rfl, rfl, Nat.le_refl _, fun _ _ _ _ => rfl⟩, trivial⟩⟩⟩
    · have _u := True.intro
      replace hb56 := of_decide_eq_false hb56
      have hkl : ¬ v.l.length < x5 := by omega
      refine AW.exit ?_
      refine AW.seq ?_
      refine AW.seq ?_
      refine AW.region ?_
      refine ARun.pure (PureOp.move rfl (.tmp rfl)) rfl rfl (Nat.le_of_ble_eq_true rfl) ?_
      refine ARun.pure (PureOp.lenOwn rfl (.tmp rfl) vd2_sl_26) rfl rfl (Nat.le_of_ble_eq_true rfl) ?_
      refine ARun.pure (PureOp.intOp rfl (.tmp rfl) .int rfl) rfl rfl (Nat.le_of_ble_eq_true rfl) ?_
      refine ARun.pure (PureOp.move rfl (.tmp rfl)) rfl rfl (Nat.le_of_ble_eq_true rfl) ?_
      refine ARun.gpure (want := true) (.tt rfl) (fun hg76 => PureOp.move rfl (.tmp rfl)) rfl rfl (Nat.le_of_ble_eq_true rfl) rfl (Nat.le_of_ble_eq_true rfl) ?_
      refine ARun.gcur (id := 1000000) (want := true) (.tt rfl) rfl (v_One n F hF v.p v.s (by omega) (by omega) 30 (by omega)) vd2_ca_62 (fun hg77 => ⟨.inr (.gtmp rfl hg77), .inl ⟨_, .int, .int⟩, trivial⟩) rfl rfl rfl (Nat.le_of_ble_eq_true rfl) rfl (Nat.le_of_ble_eq_true rfl) (fun x78 p79 sd80 hc81 hn82 => ?_)
      obtain ⟨hc811, hc812, hc813⟩ : CurOk v.p 2 p79 sd80 := CurOk.gd (by omega) (hc81) hn82
      refine ARun.pure (PureOp.pick rfl (.tmp rfl) (fun hp83 => .gtmp rfl hp83) (fun _ => .bool)) rfl rfl (Nat.le_of_ble_eq_true rfl) ?_
      refine ARun.nil ?_
      refine AW.cond (.tmp rfl) (fun hb85 => ?_) (fun hb85 => ?_)
      · have _u := True.intro
        have h0 := of_decide_eq_true (and_condE hb85).1
        have h00 : 0 < v.l.length := by omega
        refine AW.region ?_
        refine ARun.pure (PureOp.move rfl (.tmp rfl)) rfl rfl (Nat.le_of_ble_eq_true rfl) ?_
        refine ARun.pure (PureOp.move rfl (.tmp rfl)) rfl rfl (Nat.le_of_ble_eq_true rfl) ?_
        refine ARun.cur (id := 1000000) rfl (v_Pick n F hF p79 sd80 (by omega) (by omega) 6 (by omega)) vd2_ca_58 ⟨.inr (.tmp rfl), .inl ⟨_, .int, .int⟩, trivial⟩ rfl rfl rfl (Nat.le_of_ble_eq_true rfl) (fun x86 p87 sd88 hc89 => ?_)
        obtain ⟨hc89x, hc89c⟩ := hc89
        obtain ⟨hc891, hc892, hc893⟩ := hc89c
        refine ARun.pure (PureOp.move rfl (.tmp rfl)) rfl rfl (Nat.le_of_ble_eq_true rfl) ?_
        refine ARun.cur (id := 1000000) rfl (v_Pick n F hF p87 sd88 (by omega) (by omega) 3 (by omega)) vd2_ca_58 ⟨.inr (.tmp rfl), .inl ⟨_, .int, .int⟩, trivial⟩ rfl rfl rfl (Nat.le_of_ble_eq_true rfl) (fun x90 p91 sd92 hc93 => ?_)
        obtain ⟨hc93x, hc93c⟩ := hc93
        obtain ⟨hc931, hc932, hc933⟩ := hc93c
        refine ARun.pure (PureOp.sub (c := (x90 : Int) - 1) rfl (.tmp rfl) .int (wrap_id (by omega) (by omega))) rfl rfl (Nat.le_of_ble_eq_true rfl) ?_
        refine ARun.pure (PureOp.build (ys := [.int .i64 (x86 : Int), .int .i64 ((x90 : Int) - 1)]) (l := [.int .i64 0, .int .i64 0]) (pl := [(0, 1), (1, 1)]) (z := (.agg #[.int .i64 0, .int .i64 0])) rfl (by kernel_rfl) (by kernel_rfl) (fun _ _ _ => ⟨_, _, rfl, rfl, ⟨_, _, rfl, rfl, rfl⟩⟩) ⟨(.tmp rfl), trivial, rfl, ⟨(.tmp rfl), trivial, rfl, trivial⟩⟩ rfl) rfl rfl (Nat.le_of_ble_eq_true rfl) ?_
        refine ARun.pure (PureOp.indexOwn (i := 0) rfl (.tmp rfl) vd2_el_26_2 .int rfl (by omega)) rfl rfl (Nat.le_of_ble_eq_true rfl) ?_
        refine ARun.storeElem rfl (.tmp rfl) (.tmp rfl) (SV.cells_of (by exact ⟨trivial, trivial, trivial⟩)) rfl (show _ < v.l.length from h00) rfl vd2_sz_64_2 rfl rfl ?_
        refine ARun.nil ?_
        refine AW.seq ?_
        refine AW.region ?_
        refine ARun.pure (PureOp.move rfl (.tmp rfl)) rfl rfl (Nat.le_of_ble_eq_true rfl) ?_
        refine ARun.pure (PureOp.move rfl (.tmp rfl)) rfl rfl (Nat.le_of_ble_eq_true rfl) ?_
        refine ARun.pure (PureOp.assign rfl (.tmp rfl)) rfl rfl (Nat.le_of_ble_eq_true rfl) ?_
        refine ARun.pure (PureOp.assign rfl (.tmp rfl)) rfl rfl (Nat.le_of_ble_eq_true rfl) ?_
        refine ARun.nil ?_
        exact AW.ret (show ∃ x p' s' t, _ ∧ ResL _ _ [.tmp 2, .tmp 3] t ∧ _ ∧ _ from ⟨⟨1 + x1, (v.l.set 0 (⟨(x86 : Int), ((x90 : Int) - 1)⟩ : GEvent))⟩, p91, sd92, _, ⟨⟨⟨by show 1 ≤ _; omega, by show _ ≤ 4; omega⟩, by rw [show (⟨1 + x1, (v.l.set 0 (⟨(x86 : Int), ((x90 : Int) - 1)⟩ : GEvent))⟩ : Nat × List GEvent).2.length = v.l.length from List.length_set ..]; show v.l.length ≤ 41; omega, allEv_set hv5 ⟨by omega, by omega⟩ ⟨by omega, by omega⟩⟩, ⟨by omega, by omega, by omega⟩⟩, .inr (.inl ⟨_, _, _, _, rfl, .tmp rfl, .tmp rfl, rfl⟩), ⟨.int, fw_ev rfl rfl rfl (Nat.le_of_eq (List.length_set ..)) (List.length_set ..).symm (fun _ _ _ _ => ev_set h00)⟩, rfl⟩)
      · have _u := True.intro
        refine AW.skip ?_
        refine AW.seq ?_
        refine AW.region ?_
        refine ARun.pure (PureOp.move rfl (.tmp rfl)) rfl rfl (Nat.le_of_ble_eq_true rfl) ?_
        refine ARun.pure (PureOp.move rfl (.tmp rfl)) rfl rfl (Nat.le_of_ble_eq_true rfl) ?_
        refine ARun.pure (PureOp.assign rfl (.tmp rfl)) rfl rfl (Nat.le_of_ble_eq_true rfl) ?_
        refine ARun.pure (PureOp.assign rfl (.tmp rfl)) rfl rfl (Nat.le_of_ble_eq_true rfl) ?_
        refine ARun.nil ?_
        exact AW.ret (show ∃ x p' s' t, _ ∧ ResL _ _ [.tmp 2, .tmp 3] t ∧ _ ∧ _ from ⟨⟨1 + x1, v.l⟩, p79, sd80, _, ⟨⟨⟨by show 1 ≤ _; omega, by show _ ≤ 4; omega⟩, by show v.l.length ≤ 41; omega, hv5⟩, ⟨by omega, by omega, by omega⟩⟩, .inr (.inl ⟨_, _, _, _, rfl, .tmp rfl, .tmp rfl, rfl⟩), ⟨.int, fw_ev rfl rfl rfl (Nat.le_refl _) rfl (fun _ _ _ _ => rfl)⟩, rfl⟩)
end Go.Proofs.Ytmkhahiefdcinaa
