/-
  How the arguments of a law are opened to data of the calculus.
-/
import Derived.Test.YtmfkmifkkplidaaVk
import Derived.Test.YtmfkmifkkplidaaLaw
namespace Go.Proofs.Ytmfkmifkkplidaa
open Go.ChangeShapes Go.WideShapes Go.ChangeAt Go.RowKit Go.BigFrame Go.Deep
set_option linter.unusedVariables false

set_option linter.unusedSimpArgs false
section
variable {P : Program}
/-- Cells of type t read as an α. -/
def OpensC (P : Program) (t : TypeId) {α : Type} (enc : α → List AV) : Prop :=
  ∀ (H : Type) (eh : TypeId × Value → H) (w : World) (fuel : Nat) (cs : List Value) (x : DataW H × List MemPlace), DataW.trod eh P w 0 (fun _ => true) true fuel t cs = some x → ∃ a : α, DL w (· < w.heap.size) (enc a) cs
theorem OpensC.int {t : TypeId} (ht : P.underlying t = some (.int .i64)) : OpensC P t (fun n : Int => [.int .i64 n]) := fun _ _ _ _ _ _ h => by
  obtain ⟨n, rfl, _, hw⟩ := DataW.trod_int ht h
  exact ⟨n, _, _, rfl, rfl, rfl⟩
theorem OpensC.bool {t : TypeId} (ht : P.underlying t = some .bool) : OpensC P t (fun b : Bool => [.bool b]) := fun _ _ _ _ _ _ h => by
  obtain ⟨n, rfl, _⟩ := DataW.trod_bool ht h
  exact ⟨n, _, _, rfl, rfl, rfl⟩
theorem OpensC.string {t : TypeId} (ht : P.underlying t = some .string) : OpensC P t (fun s : ByteArray => [.str s]) := fun _ _ _ _ _ _ h => by
  obtain ⟨s, rfl, _, hs⟩ := DataW.trod_string ht h
  exact ⟨s, _, _, rfl, ⟨rfl, hs⟩, rfl⟩
theorem DL.len {w : World} {S : Nat → Prop} : ∀ {l : List AV} {us : List Value}, DL w S l us → us.length = l.length
  | [], us, h => by rw [show us = [] from h]; rfl
  | _ :: _, _, ⟨_, _, e, _, h2⟩ => by rw [e]; simp [DL.len h2]
theorem DL.get {w : World} {S : Nat → Prop} : ∀ {l : List AV} {us : List Value}, DL w S l us → ∀ {j : Nat} {x : AV}, l[j]? = some x → ∃ u, us[j]? = some u ∧ D w S x u
  | [], _, _, j, x, hx => by simp at hx
  | y :: l, _, ⟨u, us, e, h1, h2⟩, j, x, hx => by
    subst e
    cases j with
    | zero => simp at hx; subst hx; exact ⟨u, rfl, h1⟩
    | succ j => simp at hx ⊢; exact DL.get h2 hx
theorem DL.append {w : World} {S : Nat → Prop} : ∀ {l m : List AV} {us vs : List Value}, DL w S l us → DL w S m vs → DL w S (l ++ m) (us ++ vs)
  | [], _, us, _, h, k => by rw [show us = [] from h]; exact k
  | _ :: _, _, _, _, ⟨u, us, e, h1, h2⟩, k => ⟨u, _, by rw [e]; rfl, h1, DL.append h2 k⟩
theorem DL.part {w : World} {S : Nat → Prop} {l m : List AV} {cs : List Value} {o s : Nat} (h : DL w S l ((cs.drop o).take s)) (k : DL w S m (cs.drop (o + s))) : DL w S (l ++ m) (cs.drop o) := by
  have := DL.append h k
  rwa [← List.drop_drop, List.take_append_drop] at this
theorem OpensC.slice {α : Type} {t e : TypeId} {sz : Nat} {en : α → List AV} {f : List α → Nat → Nat → AV} (d : α) (ht : P.underlying t = some (.slice e)) (hC : P.cellsOf e = sz) (hp : 0 < sz) (he : OpensC P e en) (hlen : ∀ a, (en a).length = sz)
    (hf : ∀ l i j, i < l.length → j < sz → f l i j = (en (l.getD i d)).getD j (.con undef)) : OpensC P t (fun l : List α => [.lst sz l.length (f l)]) := fun H eh w fuel cs x h => by
  rcases open_slice ht h with ⟨rfl, _⟩ | ⟨a, len, cap, m, n, D, Pl, rfl, _, hl, hm, hmm, _, hi⟩
  · exact ⟨[], _, _, rfl, ⟨none, 0, rfl, Nat.le_refl _, by simp [maxLen], fun _ => rfl, fun i hi => absurd hi (by simp)⟩, rfl⟩
  · have hlm : len ≤ m := by rw [hmm]; simpa using hl
    have hx : ∀ i, i < len → ∃ (y : α) (xs : List Value), DL w (· < w.heap.size) (en y) xs ∧ ∀ j, j < sz → w.cell? (a.add (i * sz + j)) = xs[j]? := fun i hil => by
      obtain ⟨cs', hc, ht'⟩ := hi i (by omega)
      rw [hC] at hc
      obtain ⟨_, hcl, hat⟩ := World.cells?_some hc
      obtain ⟨y, hy⟩ := he H eh w n cs' _ ht'
      exact ⟨y, cs', hy, fun j hj => by rw [← hat j hj, add_add]⟩
    have hch : ∃ g : Nat → Option α, ∀ i, i < len → ∃ (y : α) (xs : List Value), g i = some y ∧ DL w (· < w.heap.size) (en y) xs ∧ ∀ j, j < sz → w.cell? (a.add (i * sz + j)) = xs[j]? := by
      classical
      refine ⟨fun i => if hil : i < len then some (hx i hil).choose else none, fun i hil => ⟨(hx i hil).choose, (hx i hil).choose_spec.choose, by simp [hil], (hx i hil).choose_spec.choose_spec⟩⟩
    obtain ⟨g, hg⟩ := hch
    obtain ⟨l, hl1, hl2⟩ := list_of_fun g len fun i hil => let ⟨y, _, hy, _⟩ := hg i hil; ⟨y, hy⟩
    subst hl1
    have hspot : 0 < l.length → a.spot = none := fun h0l => by
      obtain ⟨y, xs, _, hr, hc⟩ := hg 0 h0l
      have h0 := hc 0 hp
      have hxl : xs.length = sz := by rw [hr.len, hlen]
      rw [List.getElem?_eq_getElem (by omega)] at h0
      simp only [Nat.zero_mul, Nat.add_zero] at h0
      have e : a.add 0 = a := rfl
      rw [e] at h0
      unfold World.cell? at h0
      split at h0
      · split at h0
        · cases h0
        · rename_i hs; simpa using hs
      · cases h0
    refine ⟨l, _, _, rfl, ⟨some a, cap, rfl, hl, hm, (fun e => by cases e), fun i hil => ?_⟩, rfl⟩
    obtain ⟨y, xs, hy, hr, hc⟩ := hg i hil
    have hsp := hspot (by omega)
    obtain ⟨b, off, sp⟩ := a
    obtain rfl : sp = none := hsp
    rw [hl2 i hil] at hy
    obtain rfl := Option.some.inj hy
    have hxl : xs.length = sz := by rw [hr.len, hlen]
    have h0 := hc 0 hp
    rw [List.getElem?_eq_getElem (by omega), Addr.add_lit] at h0
    refine ⟨b, off, rfl, World.block_lt_of_cell? w _ h0, fun j hj => ?_⟩
    have hget : l.getD i d = l[i] := by rw [List.getD_eq_getElem?_getD, List.getElem?_eq_getElem hil]; rfl
    have hjl : j < (en l[i]).length := by rw [hlen]; exact hj
    obtain ⟨u, hu, hd⟩ := hr.get (List.getElem?_eq_getElem hjl)
    refine ⟨u, ?_, ?_⟩
    · have := hc j hj
      rw [Addr.add_lit, hu] at this
      exact this
    · rw [hf l i j hil hj, hget, List.getD_eq_getElem?_getD, List.getElem?_eq_getElem hjl]
      exact hd
/-- An argument. -/
theorem OpensC.arg {H : Type} {eh : TypeId × Value → H} {t : TypeId} {α : Type} {en : α → List AV} (h : OpensC P t en) {W : World} {v : Value} {d : DataW H} {p : List MemPlace} (ht : DataW.Trod eh P W 0 (fun _ => true) true t v d p) : ∃ a, DL W (· < W.heap.size) (en a) v.cells.toList := by
  obtain ⟨fuel, hf⟩ := ht
  exact h H eh W fuel _ _ hf
theorem DS.one_of {w : World} {S : Nat → Prop} {x : AV} {v : Value} (hv : v.cells = #[v]) (h : DL w S [x] v.cells.toList) : DS w S (.one x) v := by
  obtain ⟨u, us, e, h1, h2⟩ := h
  rw [hv] at e
  simp at e
  rw [e.1]; exact h1
theorem DS.agg_of {w : World} {S : Nat → Prop} {l : List AV} {v : Value} (hv : ∃ cs, v = .agg cs) (h : DL w S l v.cells.toList) : DS w S (.agg l) v := by
  obtain ⟨cs, rfl⟩ := hv
  exact ⟨cs, rfl, h⟩
end
end Go.Proofs.Ytmfkmifkkplidaa
