/-
  The plain law of stamps; a list that the call has made.
-/
import Derived.Test.YtmkhahiefdcinaaIcM
import Derived.Test.YtmkhahiefdcinaaPri
namespace Go.Proofs.Ytmkhahiefdcinaa
open Go.ChangeShapes Go.WideShapes Go.ChangeAt Go.RowKit Go.BigFrame
set_option linter.unusedVariables false

/-- A list of integers that the call has made. -/
def Made (w w' : World) (T : TypeId) (l : List Int) (A : Option Addr) (n c : Nat) : Prop :=
  w'.ownsRow w.heap.size T 1 (.slice A n c) n (encs l) ∧ RepL w' (fun b => w.heap.size ≤ b ∧ b < w'.heap.size) l A n c
theorem Made.from_ {w w0 w' : World} {T : TypeId} {l : List Int} {A : Option Addr} {n c : Nat} (h : Made w w' T l A n c) (hs : w0.heap.size ≤ w.heap.size) : Made w0 w' T l A n c :=
  ⟨⟨h.1.1, h.1.2.imp id fun ⟨g, cap, cur, e1, e2, e3⟩ => ⟨g, cap, cur, e1, Nat.le_trans hs e2, e3⟩⟩, h.2.more fun b hb => ⟨Nat.le_trans hs hb.1, hb.2⟩⟩
theorem Made.nil_ (w w' : World) (T : TypeId) : Made w w' T [] none 0 0 :=
  ⟨World.ownsRow_nil _ _ _ _, RepL.of_own' (e := T) (base := w.heap.size) (s := 1) rfl rfl (World.ownsRow_nil _ _ _ _) (fun a ha => by cases ha)⟩

/-- The number at a place, 0 where there is none. -/
def pick (out : List Int) (p : Int) : Int := if 0 ≤ p then out.getD p.toNat 0 else 0
/-- The stamp of event k, given those ahead. -/
def stV (l : List P2) (k : Nat) (out : List Int) (e : P2) : Int := (if 0 ≤ e.b then max (pick out (lastAt l k e.a)) (pick out e.b) else pick out (lastAt l k e.a)) + 1
def stTo (l : List P2) : Nat → List Int
  | 0 => []
  | k + 1 => stTo l k ++ [match l[k]? with | some e => stV l k (stTo l k) e | none => 0]
theorem stTo_len (l : List P2) (k : Nat) : (stTo l k).length = k := by
  induction k with
  | zero => rfl
  | succ k ih => simp [stTo, ih]
theorem stTo_succ {l : List P2} {k : Nat} {e : P2} (h : l[k]? = some e) : stTo l (k + 1) = stTo l k ++ [stV l k (stTo l k) e] := by
  show stTo l k ++ [match l[k]? with | some e => stV l k (stTo l k) e | none => 0] = _
  rw [h]
theorem pick_nat (out : List Int) (j : Nat) (h : j < out.length) : pick out (j : Int) = out[j] := by
  unfold pick
  rw [if_pos (by omega), Int.toNat_natCast, List.getD_eq_getElem?_getD, List.getElem?_eq_getElem h]
  rfl
theorem pick_neg (out : List Int) {p : Int} (h : ¬ 0 ≤ p) : pick out p = 0 := by unfold pick; rw [if_neg h]
theorem pick_bd {out : List Int} {B : Int} (hB : 0 ≤ B) (h : ∀ x ∈ out, 0 ≤ x ∧ x ≤ B) (p : Int) : 0 ≤ pick out p ∧ pick out p ≤ B := by
  unfold pick
  split
  · rw [List.getD_eq_getElem?_getD]
    cases hx : out[p.toNat]? with
    | none => exact ⟨Int.le_refl _, hB⟩
    | some x => exact h x (List.mem_of_getElem? hx)
  · exact ⟨Int.le_refl _, hB⟩
theorem stV_bd {l : List P2} {k : Nat} {out : List Int} {e : P2} {B : Int} (hB : 0 ≤ B) (h : ∀ x ∈ out, 0 ≤ x ∧ x ≤ B) : 0 ≤ stV l k out e ∧ stV l k out e ≤ B + 1 := by
  have h1 := pick_bd hB h (lastAt l k e.a)
  have h2 := pick_bd hB h e.b
  unfold stV
  generalize pick out (lastAt l k e.a) = u at *
  generalize pick out e.b = v at *
  have hm : 0 ≤ max u v ∧ max u v ≤ B := by omega
  generalize max u v = m at *
  split <;> constructor <;> omega
theorem stTo_bd (l : List P2) (k : Nat) : ∀ x ∈ stTo l k, 0 ≤ x ∧ x ≤ (k : Int) := by
  induction k with
  | zero => intro x hx; cases hx
  | succ k ih =>
    intro x hx
    simp only [stTo, List.mem_append, List.mem_singleton] at hx
    rcases hx with hx | rfl
    · have := ih x hx; omega
    · split
      · rename_i e _
        have := stV_bd (l := l) (k := k) (e := e) (B := (k : Int)) (by omega) ih
        constructor <;> omega
      · constructor <;> omega
theorem stTo_ok {l : List P2} {k : Nat} (hk : k ≤ 1000000) : ∀ x ∈ stTo l k, (Flat.ok x : Prop) := by
  intro x hx
  have := stTo_bd l k x hx
  exact ⟨by omega, by omega⟩
/-- What StampsOf answers. -/
noncomputable def stOf (nodes : Int) (l : List P2) : List Int := if goodEv nodes l then stTo l l.length else []
theorem news_one {w : World} {x : Value} {e : TypeId} {g : Nat} (hg : g = w.heap.size) : ∀ j u, [x][j]? = some u → (w.alloc (.cells #[x] e)).cell? ((⟨g, 0, none⟩ : Addr).add j) = some u := by
  subst hg
  intro j u hj
  match j, hj with
  | 0, hj => simp at hj; subst hj; simp [Addr.add]

end Go.Proofs.Ytmkhahiefdcinaa
