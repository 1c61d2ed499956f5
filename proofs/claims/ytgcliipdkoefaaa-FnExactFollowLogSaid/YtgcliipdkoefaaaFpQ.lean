/-
  The plain law of findPart: up to where a follower keeps its entries; its closure's test.
-/
import Derived.Test.YtgcliipdkoefaaaEpE
import Derived.Test.YtgcliipdkoefaaaSlS
import Derived.Test.YtgcliipdkoefaaaRev
import Derived.Test.YtgcliipdkoefaaaSsA
namespace Go.Proofs.Ytgcliipdkoefaaa
open Go.ChangeShapes Go.WideShapes Go.ChangeAt Go.RowKit Go.BigFrame Go.Deep
set_option linter.unusedVariables false

set_option maxHeartbeats 4000000
def hitP (x : Int) (y : P2) : Bool := y.a == x
/-- The place that follows from the start k that was hit. -/
def nextAt (st : List P2) (e : Int) (k : Nat) : Int := match st[k + 1]? with | some t => t.b | none => e
def fpAt (l : List IS) (st : List P2) (e : Int) (x : Int) (k : Nat) : Int := min (cntLe x l : Int) (nextAt st e k)
/-- The own starts are tried one by one. -/
def findR (l : List IS) (st : List P2) (e : Int) : List P2 → Int → Int × Int
  | [], n => (0, n)
  | s :: R, n => if 0 ≤ idxP (hitP s.a) st then (fpAt l st e s.a (idxP (hitP s.a) st).toNat, n + 1) else findR l st e R (n + 1)
def findL (l : List IS) (st : List P2) (e : Int) : Int × Int := findR l st e (startsTo l l.length).reverse 0
theorem findR_hit {l : List IS} {st : List P2} {e n : Int} {R : List P2} {j k : Nat} {s : P2} (hs : R[j]? = some s) (hk : idxP (hitP s.a) st = (k : Int)) : findR l st e (R.drop j) n = (fpAt l st e s.a k, n + 1) := by
  obtain ⟨hj, e1⟩ := List.getElem?_eq_some_iff.1 hs
  rw [List.drop_eq_getElem_cons hj, e1]
  unfold findR
  rw [hk, if_pos (by omega), Int.toNat_natCast]
theorem findR_miss {l : List IS} {st : List P2} {e n : Int} {R : List P2} {j : Nat} {s : P2} (hs : R[j]? = some s) (hk : idxP (hitP s.a) st = -1) : findR l st e (R.drop j) n = findR l st e (R.drop (j + 1)) (n + 1) := by
  obtain ⟨hj, e1⟩ := List.getElem?_eq_some_iff.1 hs
  rw [List.drop_eq_getElem_cons hj, e1]
  conv => lhs; unfold findR
  rw [hk, if_neg (by omega)]
theorem findR_end {l : List IS} {st : List P2} {e n : Int} {R : List P2} {j : Nat} (hj : R.length ≤ j) : findR l st e (R.drop j) n = (0, n) := by
  rw [List.drop_of_length_le hj]
  rfl
theorem nextAt_some {st : List P2} {e : Int} {k : Nat} {t : P2} (h : st[k + 1]? = some t) : nextAt st e k = t.b := by unfold nextAt; rw [h]
theorem nextAt_none {st : List P2} {e : Int} {k : Nat} (h : st.length ≤ k + 1) : nextAt st e k = e := by unfold nextAt; rw [List.getElem?_eq_none h]
theorem startsTo_epoch {l : List IS} (hl : ∀ e ∈ l, (Flat.ok e : Prop)) (hlen : l.length ≤ 40) : ∀ x ∈ startsTo l l.length, I64 x.a ∧ I64 x.b := startsTo_ok hl l.length (by omega)

theorem findPart1_pred (s : P2) (g : Nat) (w : World) (h0 : w.cell? ⟨g, 0, none⟩ = some (.int .i64 s.a)) :
    Pred Try.prog 76 #[.pointer (some ⟨g, 0, none⟩)] (fun x : P2 => .agg #[.int .i64 x.a, .int .i64 x.b]) Flat.ok (hitP s.a) w := by
  intro W x _ hW
  have hg := World.block_lt_of_cell? w _ h0
  have k0 : W.cell? ⟨g, 0, none⟩ = some (.int .i64 s.a) := (hW.cell (p := ⟨g, 0, none⟩) hg).trans h0
  have key : ∀ r1, (x.a == s.a) = r1 → Calls Try.prog 76 #[.agg #[.int .i64 x.a, .int .i64 x.b], .pointer (some ⟨g, 0, none⟩)] W fun e w' => e = .returned (.bool r1) ∧ Below W.heap.size W w' := by
    intro r1 hr1
    have k0' : (W.alloc (.cells #[.int .i64 x.a, .int .i64 x.b] 55)).cell? ⟨g, 0, none⟩ = some (.int .i64 s.a) := (World.cell?_alloc_lt _ _ _ (World.block_lt_of_cell? _ _ k0)).trans k0
    have HB := Lib.hid ((Below.refl W.heap.size W).alloc (Nat.le_refl _) (.cells #[.int .i64 x.a, .int .i64 x.b] 55))
    go_enter Try.func76, Try.ntmps76
    go_wp2_with fail
    go_ret
    exact ⟨rfl, HB.out⟩
  have h := key _ rfl
  have e : (#[Value.agg #[.int .i64 x.a, .int .i64 x.b]] ++ #[.pointer (some ⟨g, 0, none⟩)] : Array Value) = #[.agg #[.int .i64 x.a, .int .i64 x.b], .pointer (some ⟨g, 0, none⟩)] := rfl
  rw [← e] at h
  exact h
end Go.Proofs.Ytgcliipdkoefaaa
