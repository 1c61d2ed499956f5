/-
  Contract: l11Prior of the reference.
-/
import Derived.Test.YtmkhahiefdcinaaEvC
namespace Go.Proofs.Ytmkhahiefdcinaa
open Go.ChangeShapes Go.WideShapes Go.ChangeAt Go.RowKit Go.BigFrame
set_option linter.unusedVariables false

/-- The number of the last of the first k events at node x, -1 for none. -/
def lastAt (l : List P2) : Nat → Int → Int
  | 0, _ => -1
  | k + 1, x => if (l[k]?.map P2.a) = some x then (k : Int) else lastAt l k x
theorem lastAt_hit {l : List P2} {k : Nat} {e : P2} {x : Int} (h : l[k]? = some e) (he : e.a = x) : lastAt l (k + 1) x = k := by
  unfold lastAt
  rw [h]
  simp [he]
theorem lastAt_miss {l : List P2} {k : Nat} {e : P2} {x : Int} (h : l[k]? = some e) (he : ¬ e.a = x) : lastAt l (k + 1) x = lastAt l k x := by
  show (if (l[k]?.map P2.a) = some x then (k : Int) else lastAt l k x) = _
  rw [h]
  simp [he]
theorem lastAt_bd (l : List P2) (k : Nat) (x : Int) : -1 ≤ lastAt l k x ∧ lastAt l k x < k := by
  induction k with
  | zero => exact ⟨Int.le_refl _, by show (-1 : Int) < 0; decide⟩
  | succ k ih =>
    unfold lastAt
    split <;> omega

theorem l11Prior_any (l : List P2) (k : Nat) (x y : Int) (hk : l[k]? = some ⟨x, y⟩) (w : World) (S : Nat → Prop) (hS : ∀ b, S b → b < w.heap.size) (A : Option Addr) (n c : Nat) (hl0 : RepL w S l A n c) :
    Calls Try.prog 52 #[.slice A n c, .int .i64 k] w fun e w' => e = .returned (.int .i64 (lastAt l k x)) ∧ Below w.heap.size w w' := by
  have hbd := hl0.bd
  obtain ⟨hn, -⟩ := id hl0
  have Hn := Lib.hid hn
  clear hn
  have hkl : k < l.length := (List.getElem?_eq_some_iff.1 hk).1
  obtain ⟨b, off, xs, rfl, hSb, hc, rfl, -⟩ := hl0.at_ hkl
  have hck := hc 0 _ rfl
  have hka : l[k].a = x := by have := (List.getElem?_eq_some_iff.1 hk).2; rw [this]
  rw [hka] at hck
  have hkI : (k : Int) < (n : Int) := by have := Hn.out; omega
  have hk0 : (0 : Int) ≤ (k : Int) := by omega
  have hw : IntKind.i64.wrap ((k : Int) - 1) = (k : Int) - 1 := by rw [IntKind.wrap_i64]; omega
  clear hc hka
  go_enter Try.func52, Try.ntmps52
  go_wp2_with fail
  go_loopw [5] (fun i wr => ∃ (m : Nat) (z : Int), i = .int .i64 z ∧ z + 1 = (m : Int) ∧ m ≤ k ∧ lastAt l k x = lastAt l m x ∧ Below w.heap.size w wr) (fun i _ => (intOf i + 1).toNat)
  case atStart => exact ⟨k, (k : Int) - 1, rfl, by omega, Nat.le_refl _, rfl, Below.refl _ _⟩
  case round =>
    obtain ⟨m, z, rfl, hz, hm, hla, hbel⟩ := hrel
    have Hla := Lib.hid hla
    clear hla
    cases m with
    | zero =>
      have hz1 : z = -1 := by omega
      have d0 : decide ((0 : Int) ≤ z) = false := decide_eq_false (by omega)
      go_wp2_with fail
      go_ret
      exact ⟨by rw [Hla.out]; rfl, hbel⟩
    | succ m =>
      obtain rfl : z = (m : Int) := by omega
      have hml : m < l.length := by omega
      have d0 : decide ((0 : Int) ≤ (m : Int)) = true := decide_eq_true (by omega)
      obtain ⟨b', off', xs', e, hSb', hc, rfl, -⟩ := hl0.at_ hml
      obtain ⟨rfl, rfl⟩ : b = b' ∧ off = off' := by simpa using e
      have hcm := hc 0 _ rfl
      have f0 : ∀ p : Aft wr, p.world.cell? ⟨b, off + k * 2, none⟩ = some (.int .i64 x) := Aft.cell ((hbel.cell (hS _ hSb)).trans hck)
      have f1 : ∀ p : Aft wr, p.world.cell? ⟨b, off + m * 2, none⟩ = some (.int .i64 l[m].a) := Aft.cell ((hbel.cell (hS _ hSb)).trans hcm)
      have hmI : (m : Int) < (n : Int) := by omega
      have hm0 : (0 : Int) ≤ (m : Int) := by omega
      have Hml := Lib.hid (show l[m]? = some l[m] from List.getElem?_eq_getElem hml)
      clear hc e hcm hz
      by_cases hA : l[m].a = x
      · have dA : ((l[m].a : Int) == x) = true := by simpa using hA
        have HA := Lib.hid hA
        clear hA
        go_wp2_with fail
        refine wp_region_aft (by kernel_rfl) (by kernel_rfl) ?_
        repeat (go_big_quiet_step (fail))
        refine wpQuiet_nil ?_
        rintro _ ⟨p, rfl⟩
        have hb2 : Below w.heap.size w p.world := hbel.trans (p.below.mono hbel.size)
        go_wp2
        go_ret
        exact ⟨by rw [Hla.out, lastAt_hit Hml.out HA.out]; rfl, hb2⟩
      · have dA : ((l[m].a : Int) == x) = false := by simpa using hA
        have HA := Lib.hid hA
        clear hA
        have hwm : IntKind.i64.wrap ((m : Int) - 1) = (m : Int) - 1 := by rw [IntKind.wrap_i64]; omega
        go_wp2_with fail
        refine wp_region_aft (by kernel_rfl) (by kernel_rfl) ?_
        repeat (go_big_quiet_step (fail))
        refine wpQuiet_nil ?_
        rintro _ ⟨p, rfl⟩
        have hb2 : Below w.heap.size w p.world := hbel.trans (p.below.mono hbel.size)
        go_wp2
        go_roundw
        case rel => exact ⟨m, (m : Int) - 1, rfl, by omega, by omega, by rw [Hla.out, lastAt_miss Hml.out HA.out], hb2⟩
        case measure => simp [intOf] <;> omega

end Go.Proofs.Ytmkhahiefdcinaa
