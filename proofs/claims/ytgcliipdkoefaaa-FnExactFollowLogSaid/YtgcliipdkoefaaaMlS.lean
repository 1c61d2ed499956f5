/-
  Contract: MatchLogs of the reference.
-/
import Derived.Test.YtgcliipdkoefaaaMlB
import Derived.Test.YtgcliipdkoefaaaEnP
namespace Go.Proofs.Ytgcliipdkoefaaa
open Go.ChangeShapes Go.WideShapes Go.ChangeAt Go.RowKit Go.BigFrame
set_option linter.unusedVariables false

set_option maxHeartbeats 4000000
/-- Entry i of both logs has one epoch, behind their common part. -/
def mlBad (l l' : List IS) (p i : Nat) : Bool := match l[i]?, l'[i]? with | some e, some f => decide (p ≤ i) && e.n == f.n | _, _ => false
def mlAns (l l' : List IS) : Bool := ((List.range l.length).all fun i => !mlBad l l' (pre l l') i) && begB l l'
theorem mlPre_succ {l l' : List IS} {p k : Nat} (h : ∀ i, i < k → mlBad l l' p i = false) (hk : mlBad l l' p k = false) : ∀ i, i < k + 1 → mlBad l l' p i = false := by
  intro i hi
  by_cases e : i = k
  · rw [e]; exact hk
  · exact h i (by omega)
theorem mlAns_no {l l' : List IS} {k : Nat} (hk : k < l.length) (h : mlBad l l' (pre l l') k = true) : mlAns l l' = false := by
  unfold mlAns
  have : ((List.range l.length).all fun i => !mlBad l l' (pre l l') i) = false := by
    rw [← Bool.not_eq_true, List.all_eq_true]
    intro h'
    have := h' k (List.mem_range.2 hk)
    rw [h] at this
    cases this
  rw [this]; rfl
theorem mlAns_end {l l' : List IS} {n : Nat} (hn : n = l.length) (h : ∀ i, i < n → mlBad l l' (pre l l') i = false) : mlAns l l' = begB l l' := by
  subst hn
  unfold mlAns
  have : ((List.range l.length).all fun i => !mlBad l l' (pre l l') i) = true := by
    rw [List.all_eq_true]
    intro i hi
    rw [h i (List.mem_range.1 hi)]
    rfl
  rw [this]; rfl
theorem mlBad_short {l l' : List IS} {p k : Nat} (h : l'.length ≤ k) : mlBad l l' p k = false := by
  unfold mlBad
  rw [List.getElem?_eq_none h]
  cases l[k]? <;> rfl
theorem mlBad_eq {l l' : List IS} {p k : Nat} {e f : IS} {r1 r2 : Bool} (he : l[k]? = some e) (hf : l'[k]? = some f) (h1 : decide (p ≤ k) = r1) (h2 : (e.n == f.n) = r2) : mlBad l l' p k = (r1 && r2) := by
  unfold mlBad
  rw [he, hf]
  show (decide (p ≤ k) && e.n == f.n) = _
  rw [h1, h2]
theorem goodEn_len {l : List IS} (h : goodEn l = true) : l.length ≤ 40 := by
  rcases Nat.lt_or_ge 40 l.length with h' | h'
  · rw [goodEn_long (by omega)] at h; cases h
  · exact h'
theorem spec_MatchLogs_any (l l' : List IS) (w : World) (S : Nat → Prop) (hS : ∀ b, S b → b < w.heap.size) (A A' : Option Addr) (n c n' c' : Nat) (hl0 : RepL w S l A n c) (hl1 : RepL w S l' A' n' c') :
    Calls Try.prog 10 #[.slice A n c, .slice A' n' c'] w fun x w' => x = .returned (.tuple #[.bool ((goodEn l && goodEn l') && mlAns l l'), .bool (goodEn l && goodEn l')]) ∧ Below w.heap.size w w' := by
  have hbd := hl0.bd
  have hbd' := hl1.bd
  obtain ⟨hn, -⟩ := id hl0
  obtain ⟨hn', -⟩ := id hl1
  have Hn := Lib.hid hn
  have Hn' := Lib.hid hn'
  clear hn hn'
  have C1 := Lib.hid (l7Both_any l l' w S hS A A' n c n' c' hl0 hl1)
  obtain ⟨r, hr⟩ : ∃ r, (goodEn l && goodEn l') = r := ⟨_, rfl⟩
  rw [hr] at C1 ⊢
  have Hr := Lib.hid hr
  clear hr
  cases r with
  | false =>
    go_enter Try.func10, Try.ntmps10
    go_wp2_with fail
    refine C1.out.mono ?_
    rintro e w1 ⟨rfl, b1⟩
    go_wp2_with fail
    go_ret2
    exact ⟨rfl, b1⟩
  | true =>
    have hg := Hr.out
    rw [Bool.and_eq_true] at hg
    have hlen := goodEn_len hg.1
    have hlen' := goodEn_len hg.2
    have hpl := (pre_le l l').1
    obtain ⟨pp, hpp⟩ : ∃ v, pre l l' = v := ⟨_, rfl⟩
    rw [hpp] at hpl
    have Hpp := Lib.hid hpp
    have CP := Lib.hid (fun W S hS A A' n c n' c' h1 h2 => l7Part_any l l' W S hS A A' n c n' c' h1 h2)
    rw [hpp] at CP
    clear hg hpp
    go_enter Try.func10, Try.ntmps10
    go_wp2_with fail
    refine C1.out.mono ?_
    rintro e w1 ⟨rfl, b1⟩
    go_wp2_with fail
    refine (CP.out w1 S (fun b hb => Nat.lt_of_lt_of_le (hS b hb) b1.size) A A' n c n' c' (hl0.keep (fun p hp => b1.cell (hS _ hp))) (hl1.keep (fun p hp => b1.cell (hS _ hp)))).mono ?_
    rintro e w2 ⟨rfl, b2⟩
    have B2 := bnext b1 b2
    go_wp2_with fail
    go_loopw [17] (fun i wr => ∃ k : Nat, k ≤ n ∧ i = .int .i64 k ∧ (∀ i, i < k → mlBad l l' pp i = false) ∧ Below w.heap.size w wr) (fun i _ => n - (intOf i).toNat)
    case atStart => exact ⟨0, Nat.zero_le _, rfl, fun i hi => absurd hi (by omega), B2⟩
    case round =>
      obtain ⟨k, hk, rfl, hpre, hbel⟩ := hrel
      have Hpre := Lib.hid hpre
      clear hpre
      by_cases hlt : k < n
      · have hl1' : k < l.length := by have := Hn.out; omega
        obtain ⟨b, off, xs, rfl, hSb, hc, rfl, -⟩ := hl0.at_ hl1'
        have f0 : ∀ p : Aft wr, p.world.cell? ⟨b, off + k * 2, none⟩ = some (.int .i64 l[k].n) := Aft.cell ((hbel.cell (hS _ hSb)).trans (hc 0 _ rfl))
        have He := Lib.hid (show l[k]? = some l[k] from List.getElem?_eq_getElem hl1')
        have hkI : (k : Int) < (n : Int) := by omega
        have hk0 : (0 : Int) ≤ (k : Int) := by omega
        clear hc
        by_cases hA : k < n'
        · have dA : decide (k < n') = true := decide_eq_true hA
          have hkI' : (k : Int) < (n' : Int) := by omega
          have hl2' : k < l'.length := by have := Hn'.out; omega
          obtain ⟨b', off', xs', rfl, hSb', hc, rfl, -⟩ := hl1.at_ hl2'
          have f1 : ∀ p : Aft wr, p.world.cell? ⟨b', off' + k * 2, none⟩ = some (.int .i64 l'[k].n) := Aft.cell ((hbel.cell (hS _ hSb')).trans (hc 0 _ rfl))
          have Hf := Lib.hid (show l'[k]? = some l'[k] from List.getElem?_eq_getElem hl2')
          clear hc
          by_cases hP : pp ≤ k
          · have dP : decide (pp ≤ k) = true := decide_eq_true hP
            obtain ⟨r2, hr2⟩ : ∃ r, ((l[k].n : Int) == l'[k].n) = r := ⟨_, rfl⟩
            have Hbad := Lib.hid (mlBad_eq He.out Hf.out dP hr2)
            cases r2 with
            | true =>
              go_wp2_with fail
              refine wp_region_aft (by kernel_rfl) (by kernel_rfl) ?_
              repeat (go_big_quiet_step (fail))
              refine wpQuiet_nil ?_
              rintro _ ⟨p, rfl⟩
              have hb2 : Below w.heap.size w p.world := hbel.trans (p.below.mono hbel.size)
              go_wp2
              go_ret2
              exact ⟨by rw [mlAns_no hl1' (by rw [Hpp.out]; exact Hbad.out)]; rfl, hb2⟩
            | false =>
              go_wp2_with fail
              refine wp_region_aft (by kernel_rfl) (by kernel_rfl) ?_
              repeat (go_big_quiet_step (fail))
              refine wpQuiet_nil ?_
              rintro _ ⟨p, rfl⟩
              have hb2 : Below w.heap.size w p.world := hbel.trans (p.below.mono hbel.size)
              go_wp2
              go_roundw
              case rel => exact ⟨k + 1, by omega, by go_num, mlPre_succ Hpre.out Hbad.out, hb2⟩
              case measure => simp [intOf]; omega
          · have dP : decide (pp ≤ k) = false := decide_eq_false hP
            have Hbad := Lib.hid (mlBad_eq He.out Hf.out dP (rfl : (l[k].n == l'[k].n) = _))
            go_wp2_with fail
            refine wp_region_aft (by kernel_rfl) (by kernel_rfl) ?_
            repeat (go_big_quiet_step (fail))
            refine wpQuiet_nil ?_
            rintro _ ⟨p, rfl⟩
            have hb2 : Below w.heap.size w p.world := hbel.trans (p.below.mono hbel.size)
            go_wp2
            go_roundw
            case rel => exact ⟨k + 1, by omega, by go_num, mlPre_succ Hpre.out Hbad.out, hb2⟩
            case measure => simp [intOf]; omega
        · have dA : decide (k < n') = false := decide_eq_false hA
          have Hbad := Lib.hid (mlBad_short (l := l) (p := pp) (show l'.length ≤ k by have := Hn'.out; omega))
          go_wp2_with fail
          refine wp_region_aft (by kernel_rfl) (by kernel_rfl) ?_
          repeat (go_big_quiet_step (fail))
          refine wpQuiet_nil ?_
          rintro _ ⟨p, rfl⟩
          have hb2 : Below w.heap.size w p.world := hbel.trans (p.below.mono hbel.size)
          go_wp2
          go_roundw
          case rel => exact ⟨k + 1, by omega, by go_num, mlPre_succ Hpre.out Hbad.out, hb2⟩
          case measure => simp [intOf]; omega
      · have e : k = n := by omega
        have Hend := Lib.hid (mlAns_end (l' := l') Hn.out (fun i hi => by rw [Hpp.out]; exact Hpre.out i (by omega)))
        clear e
        go_wp2_with fail
        refine (l7Begin_any l l' hlen hlen' wr S (fun b hb => Nat.lt_of_lt_of_le (hS b hb) hbel.size) A A' n c n' c' (hl0.keep (fun p hp => hbel.cell (hS _ hp))) (hl1.keep (fun p hp => hbel.cell (hS _ hp)))).mono ?_
        rintro e w3 ⟨rfl, b3⟩
        go_wp2_with fail
        go_ret2
        exact ⟨by rw [Hend.out]; rfl, bnext hbel b3⟩

end Go.Proofs.Ytgcliipdkoefaaa
