/-
  The plain law of starts; starts that a call has made.
-/
import Derived.Test.YtgcliipdkoefaaaEnC
namespace Go.Proofs.Ytgcliipdkoefaaa
open Go.ChangeShapes Go.WideShapes Go.ChangeAt Go.RowKit Go.BigFrame
set_option linter.unusedVariables false

theorem infoStart : (Try.prog.info? 55).map (fun i => (i.zero, i.size, i.bytes)) = some (some (.agg #[.int .i64 0, .int .i64 0]), 2, 16) := by kernel_rfl
/-- Entry k begins an epoch. -/
def isStart (l : List IS) (k : Nat) : Bool := match l[k]? with | some e => k == 0 || (l[k - 1]?.map IS.n) != some e.n | none => false
/-- The starts among the first k entries. -/
def startsTo (l : List IS) : Nat → List P2
  | 0 => []
  | k + 1 => if isStart l k then startsTo l k ++ [⟨(l[k]?.map IS.n).getD 0, k⟩] else startsTo l k
theorem startsTo_len (l : List IS) (k : Nat) : (startsTo l k).length ≤ k := by
  induction k with
  | zero => exact Nat.le_refl _
  | succ k ih =>
    show (if isStart l k then _ else _ : List P2).length ≤ _
    split
    · rw [List.length_append]; show _ + 1 ≤ _; omega
    · omega
theorem startsTo_no {l : List IS} {k : Nat} (h : isStart l k = false) : startsTo l (k + 1) = startsTo l k := by
  show (if isStart l k then _ else _) = _
  rw [h]; rfl
theorem startsTo_yes {l : List IS} {k : Nat} {x : Int} {s : ByteArray} (he : l[k]? = some ⟨x, s⟩) (h : isStart l k = true) : startsTo l (k + 1) = startsTo l k ++ [⟨x, k⟩] := by
  show (if isStart l k then _ else _) = _
  rw [h, he]; rfl
theorem isStart_0 {l : List IS} {k : Nat} {e : IS} (he : l[k]? = some e) (h : k = 0) : isStart l k = true := by
  unfold isStart; rw [he]; simp [h]
theorem isStart_eq {l : List IS} {k : Nat} {x y : Int} {s t : ByteArray} {r : Bool} (he : l[k]? = some ⟨x, s⟩) (h : k ≠ 0) (hp : l[k - 1]? = some ⟨y, t⟩) (hr : (y != x) = r) : isStart l k = r := by
  unfold isStart
  rw [he, hp]
  have h0 : (k == 0) = false := by simpa using h
  show (k == 0 || (some y != some x)) = r
  rw [h0, ← hr]
  by_cases e : y = x
  · rw [e]; simp
  · have h1 : (y != x) = true := by simpa using e
    have h2 : (some y != some x) = true := by simpa using e
    rw [h1, h2]; rfl
theorem startsTo_ok {l : List IS} (hl : ∀ e ∈ l, (Flat.ok e : Prop)) (k : Nat) (hk : k ≤ 1000000) : ∀ x ∈ startsTo l k, (Flat.ok x : Prop) := by
  induction k with
  | zero => intro x hx; cases hx
  | succ k ih =>
    intro x hx
    unfold startsTo at hx
    split at hx
    · simp only [List.mem_append, List.mem_singleton] at hx
      rcases hx with hx | rfl
      · exact ih (by omega) x hx
      · cases he : l[k]? with
        | none => exact ⟨⟨by show (-9223372036854775808 : Int) ≤ 0; decide, by show (0 : Int) ≤ 9223372036854775807; decide⟩, ⟨by show _ ≤ ((k : Nat) : Int); omega, by show ((k : Nat) : Int) ≤ _; omega⟩⟩
        | some e => exact ⟨(hl e (List.mem_of_getElem? he)).1, ⟨by show _ ≤ ((k : Nat) : Int); omega, by show ((k : Nat) : Int) ≤ _; omega⟩⟩
    · exact ih (by omega) x hx
theorem news_two {w : World} {x y : Value} {e : TypeId} {g : Nat} (hg : g = w.heap.size) : ∀ j u, [x, y][j]? = some u → (w.alloc (.cells #[x, y] e)).cell? ((⟨g, 0, none⟩ : Addr).add j) = some u := by
  subst hg
  intro j u hj
  match j, hj with
  | 0, hj => simp at hj; subst hj; simp [Addr.add]
  | 1, hj => simp at hj; subst hj; simp [Addr.add]
/-- Starts that the call has made. -/
def MadeS (w w' : World) (T : TypeId) (l : List P2) (A : Option Addr) (n c : Nat) : Prop :=
  w'.ownsRow w.heap.size T 2 (.slice A n c) n (encs l) ∧ RepL w' (fun b => w.heap.size ≤ b ∧ b < w'.heap.size) l A n c
theorem MadeS.from_ {w w0 w' : World} {T : TypeId} {l : List P2} {A : Option Addr} {n c : Nat} (h : MadeS w w' T l A n c) (hs : w0.heap.size ≤ w.heap.size) : MadeS w0 w' T l A n c :=
  ⟨⟨h.1.1, h.1.2.imp id fun ⟨g, cap, cur, e1, e2, e3⟩ => ⟨g, cap, cur, e1, Nat.le_trans hs e2, e3⟩⟩, h.2.more fun b hb => ⟨Nat.le_trans hs hb.1, hb.2⟩⟩
theorem MadeS.nil_ (w w' : World) (T : TypeId) : MadeS w w' T [] none 0 0 :=
  ⟨World.ownsRow_nil _ _ _ _, RepL.of_own' (e := T) (base := w.heap.size) (s := 2) rfl rfl (World.ownsRow_nil _ _ _ _) (fun a ha => by cases ha)⟩

end Go.Proofs.Ytgcliipdkoefaaa
