/-
  Contract: l7Begin of the reference.
-/
import Derived.Test.YtgcliipdkoefaaaSsA
namespace Go.Proofs.Ytgcliipdkoefaaa
open Go.ChangeShapes Go.WideShapes Go.ChangeAt Go.RowKit Go.BigFrame
set_option linter.unusedVariables false

set_option maxHeartbeats 4000000
/-- Two starts of one epoch at two places. -/
def clash (s t : P2) : Bool := s.a == t.a && s.b != t.b
/-- No start of the one log clashes with one of the other. -/
def begB (l l' : List IS) : Bool := (startsTo l l.length).all fun s => (startsTo l' l'.length).all fun t => !clash s t
theorem begB_no {l l' : List IS} {s t : P2} {i j : Nat} (hi : (startsTo l l.length)[i]? = some s) (hj : (startsTo l' l'.length)[j]? = some t) (h : clash s t = true) : begB l l' = false := by
  rw [← Bool.not_eq_true]
  intro h'
  unfold begB at h'
  rw [List.all_eq_true] at h'
  have h1 := h' s (List.mem_of_getElem? hi)
  rw [List.all_eq_true] at h1
  have h2 := h1 t (List.mem_of_getElem? hj)
  rw [h] at h2
  cases h2
theorem begB_yes {l l' : List IS} (h : ∀ i, i < (startsTo l l.length).length → ∀ s, (startsTo l l.length)[i]? = some s → ∀ (j : Nat) t, (startsTo l' l'.length)[j]? = some t → clash s t = false) : begB l l' = true := by
  unfold begB
  rw [List.all_eq_true]
  intro s hs
  rw [List.all_eq_true]
  intro t ht
  obtain ⟨i, hi⟩ := List.mem_iff_getElem?.1 hs
  obtain ⟨j, hj⟩ := List.mem_iff_getElem?.1 ht
  rw [h i (List.getElem?_eq_some_iff.1 hi).1 s hi j t hj]
  rfl
theorem l7Begin_any (l l' : List IS) (hlen : l.length ≤ 40) (hlen' : l'.length ≤ 40) (w : World) (S : Nat → Prop) (hS : ∀ b, S b → b < w.heap.size) (A A' : Option Addr) (n c n' c' : Nat) (hl0 : RepL w S l A n c) (hl1 : RepL w S l' A' n' c') :
    Calls Try.prog 44 #[.slice A n c, .slice A' n' c'] w fun x w' => x = .returned (.bool (begB l l')) ∧ Below w.heap.size w w' := by
  have hbd' := hl1.bd
  go_enter Try.func44, Try.ntmps44
  go_wp2_with fail
  refine (l7Starts_any l hlen w S hS A n c hl0).mono ?_
  rintro e w1 ⟨A2, m, c2, rfl, hm40, ⟨-, hr⟩, b1⟩
  have hrb := hr.bd
  have Hr := Lib.hid hr
  have Hmm := Lib.hid (show m = (startsTo l l.length).length from hr.1)
  clear hr
  go_wp2_with fail
  go_loopw [12] (fun i wr => ∃ k : Nat, k ≤ m ∧ i = .int .i64 k ∧ (∀ i, i < k → ∀ s, (startsTo l l.length)[i]? = some s → ∀ (j : Nat) t, (startsTo l' l'.length)[j]? = some t → clash s t = false) ∧ Below w1.heap.size w1 wr) (fun i _ => m - (intOf i).toNat)
  case atStart => exact ⟨0, Nat.zero_le _, rfl, fun i hi => absurd hi (by omega), Below.refl _ _⟩
  case round =>
    obtain ⟨k, hk, rfl, hpre, hbel⟩ := hrel
    have Hpre := Lib.hid hpre
    clear hpre
    by_cases hlt : k < m
    · have hk1 : k < (startsTo l l.length).length := by have := Hmm.out; omega
      obtain ⟨b, off, xs, rfl, hSb, hc, rfl, -⟩ := Hr.out.at_ hk1
      have hc0 := hc 0 _ rfl
      have hc1 := hc 1 _ rfl
      clear hc
      generalize hes : (startsTo l l.length)[k] = es at hc0 hc1
      obtain ⟨se, sa⟩ := es
      have Hs := Lib.hid (show (startsTo l l.length)[k]? = some ⟨se, sa⟩ by rw [List.getElem?_eq_getElem hk1, hes])
      have d0 : wr.cell? ⟨b, off + k * 2, none⟩ = some (.int .i64 se) := (hbel.cell hSb.2).trans hc0
      have d1 : wr.cell? ⟨b, off + k * 2 + 1, none⟩ = some (.int .i64 sa) := (hbel.cell hSb.2).trans hc1
      obtain ⟨gs, hgs⟩ : ∃ g, wr.heap.size = g := ⟨_, rfl⟩
      have hbx := hbel.alloc hbel.size (.cells #[.int .i64 se, .int .i64 sa] 55)
      have hb0 := bnext b1 hbx
      have Hbx := Lib.hid hbx
      clear hc0 hc1 hes
      go_wp2_with fail
      refine (l7Starts_any l' hlen' _ S (fun x hx => Nat.lt_of_lt_of_le (hS x hx) hb0.size) A' n' c' (hl1.keep (fun p hp => hb0.cell (hS _ hp)))).mono ?_
      rintro e w2 ⟨A3, m', c3, rfl, hm40', ⟨-, hr'⟩, b2⟩
      have hrb' := hr'.bd
      have x0 : w2.cell? ⟨gs, 0, none⟩ = some (.int .i64 se) := by
        have := b2.cell (p := ⟨gs, 0, none⟩) (by simp [hgs])
        rw [this, ← hgs]
        exact World.cell?_alloc_new _ _ _ 0
      have x1 : w2.cell? ⟨gs, 1, none⟩ = some (.int .i64 sa) := by
        have := b2.cell (p := ⟨gs, 1, none⟩) (by simp [hgs])
        rw [this, ← hgs]
        exact World.cell?_alloc_new _ _ _ 1
      have hgs2 : gs < w2.heap.size := by have := b2.size; simp at this; omega
      have B2 := bnext Hbx.out b2
      have HB2 := Lib.hid B2
      have Hr' := Lib.hid hr'
      have Hmm' := Lib.hid (show m' = (startsTo l' l'.length).length from hr'.1)
      clear hr' b2 hgs
      go_wp2_with fail
      go_loopw [19] (fun i wr => ∃ q : Nat, q ≤ m' ∧ i = .int .i64 q ∧ (∀ j, j < q → ∀ t, (startsTo l' l'.length)[j]? = some t → clash ⟨se, sa⟩ t = false) ∧ Below w2.heap.size w2 wr) (fun i _ => m' - (intOf i).toNat)
      case atStart => exact ⟨0, Nat.zero_le _, rfl, fun i hi => absurd hi (by omega), Below.refl _ _⟩
      case round =>
        obtain ⟨q, hq, rfl, hpre2, hbel2⟩ := hrel
        have Hpre2 := Lib.hid hpre2
        clear hpre2
        have y0 : wr.cell? ⟨gs, 0, none⟩ = some (.int .i64 se) := (hbel2.cell (show gs < _ from hgs2)).trans x0
        have y1 : wr.cell? ⟨gs, 1, none⟩ = some (.int .i64 sa) := (hbel2.cell (show gs < _ from hgs2)).trans x1
        have hbelT := bnext HB2.out hbel2
        by_cases hlt2 : q < m'
        · have hq1 : q < (startsTo l' l'.length).length := by have := Hmm'.out; omega
          obtain ⟨b', off', xs', rfl, hSb', hc, rfl, -⟩ := Hr'.out.at_ hq1
          have hc0 := hc 0 _ rfl
          have hc1 := hc 1 _ rfl
          clear hc
          generalize het : (startsTo l' l'.length)[q] = et at hc0 hc1
          obtain ⟨te, ta⟩ := et
          have Ht := Lib.hid (show (startsTo l' l'.length)[q]? = some ⟨te, ta⟩ by rw [List.getElem?_eq_getElem hq1, het])
          have z0 : wr.cell? ⟨b', off' + q * 2, none⟩ = some (.int .i64 te) := (hbel2.cell hSb'.2).trans hc0
          have z1 : wr.cell? ⟨b', off' + q * 2 + 1, none⟩ = some (.int .i64 ta) := (hbel2.cell hSb'.2).trans hc1
          have p0 : (wr.alloc (.cells #[.int .i64 te, .int .i64 ta] 55)).cell? ⟨gs, 0, none⟩ = some (.int .i64 se) := (World.cell?_alloc_lt _ _ _ (World.block_lt_of_cell? _ _ y0)).trans y0
          have p1 : (wr.alloc (.cells #[.int .i64 te, .int .i64 ta] 55)).cell? ⟨gs, 1, none⟩ = some (.int .i64 sa) := (World.cell?_alloc_lt _ _ _ (World.block_lt_of_cell? _ _ y1)).trans y1
          have HB := Lib.hid (hbel2.alloc hbel2.size (.cells #[.int .i64 te, .int .i64 ta] 55))
          have HBT := Lib.hid (hbelT.alloc hbelT.size (.cells #[.int .i64 te, .int .i64 ta] 55))
          clear hc0 hc1 het
          obtain ⟨r1, hr1⟩ : ∃ r, ((se : Int) == te) = r := ⟨_, rfl⟩
          obtain ⟨r2, hr2⟩ : ∃ r, ((sa : Int) != ta) = r := ⟨_, rfl⟩
          have Hcl := Lib.hid (show clash ⟨se, sa⟩ ⟨te, ta⟩ = (r1 && r2) by unfold clash; rw [hr1, hr2])
          cases r1 <;> cases r2
          case true.true =>
            go_wp2_with fail
            go_ret
            exact ⟨by rw [begB_no Hs.out Ht.out Hcl.out]; rfl, bnext b1 HBT.out⟩
          all_goals
            go_wp2_with fail
            go_roundw
            case rel =>
              refine ⟨q + 1, by omega, by go_num, fun j hj t ht => ?_, HB.out⟩
              by_cases e : j = q
              · subst e
                rw [Ht.out] at ht
                obtain rfl := Option.some.inj ht
                exact Hcl.out
              · exact Hpre2.out j (by omega) t ht
            case measure => simp [intOf]; omega
        · have HT := Lib.hid hbelT
          go_wp2_with fail
          go_roundw
          case rel =>
            refine ⟨k + 1, by omega, by go_num, fun i hi s hs j t ht => ?_, HT.out⟩
            by_cases e : i = k
            · subst e
              rw [Hs.out] at hs
              obtain rfl := Option.some.inj hs
              exact Hpre2.out j (by have := (List.getElem?_eq_some_iff.1 ht).1; have := Hmm'.out; omega) t ht
            · exact Hpre.out i (by omega) s hs j t ht
          case measure => simp [intOf]; omega
    · have e : k = m := by omega
      have Hok := Lib.hid (show begB l l' = true from begB_yes fun i hi => Hpre.out i (by have := Hmm.out; omega))
      go_wp2_with fail
      go_ret
      exact ⟨by rw [Hok.out]; rfl, bnext b1 hbel⟩

end Go.Proofs.Ytgcliipdkoefaaa
