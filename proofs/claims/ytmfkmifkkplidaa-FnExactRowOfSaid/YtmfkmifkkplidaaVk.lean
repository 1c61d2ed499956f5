/-
  A calculus for walks, part 11: elements of rows are written; weights; lists that are filled.
-/
import Derived.Test.YtmfkmifkkplidaaVj
namespace Go.Proofs.Ytmfkmifkkplidaa
open Go.ChangeShapes Go.WideShapes Go.ChangeAt Go.RowKit Go.BigFrame Go.Deep
set_option linter.unusedVariables false

set_option linter.unusedSimpArgs false
section
variable {P : Program} {N : Nat} {w0 : Start} {σ : Sig} {ops : Array Oper} {rest : List Oper} {o : Oper} {Q : Sig → Prop}
/-- Cells are stored into an element of a row, one behind the other. -/
theorem St.writesArr {a : Act} {S : Nat → Prop} {ρ : Rho} {id sz n i : Nat} (hi : i < n) : ∀ {m : List AV} {us : List Value} {w : World} {σ : Sig} {f : Nat → Nat → AV} {j q : Nat} {ad : Addr}, St N w0 ρ S σ a w → σ.heap.lookup id = some (.arr sz n f) → j + m.length ≤ sz → RL ρ w S m us → (∀ u ∈ us, (∀ c, u ≠ .agg c) ∧ (∀ c, u ≠ .tuple c)) →
    ad.add q = ⟨(ρ id).1, i * sz + j, none⟩ → ∃ w', (storeCells ad us q).run P w = .ok () w' ∧ ∃ σ', St N w0 ρ S σ' a w' ∧ σ'.env = σ.env ∧ ∃ f', (∀ k, σ'.heap.lookup k = ((id, AObj.arr sz n f') :: σ.heap).lookup k) ∧ ∀ x y, f' x y = if x = i ∧ j ≤ y ∧ y < j + m.length then m.getD (y - j) (.con undef) else f x y
  | [], us, w, σ, f, j, q, ad, hs, ho, _, hr, _, _ => by
    rw [show us = [] from hr]
    refine ⟨w, by simp [storeCells, go_sem], σ, hs, rfl, f, fun k => ?_, fun x y => ?_⟩
    · simp only [List.lookup_cons]
      by_cases e : k = id
      · subst e; simp [ho]
      · rw [show (k == id) = false by simpa using e]
    · rw [if_neg (fun h => by have := h.2.1; have := h.2.2; simp at this; omega)]
  | x :: m, us, w, σ, f, j, q, ad, hs, ho, hlen, hr, hcell, had => by
    obtain ⟨u, us, rfl, h1, h2⟩ := hr
    simp only [List.length_cons] at hlen
    have hj : j < sz := by omega
    have hw := hs.write (i := i) (j := j) ho hi hj h1 (AObj.upd_arr sz n f i j x)
    obtain ⟨v, hv, _⟩ := hs.cell ho (i := i) (j := j) hi hj
    obtain ⟨cs, e, g1, g2, g3, g4, g5, g6, g7⟩ := hs.mem.obj id _ ho (hs.mem.pos ho (i := i) hi)
    have hfr : w.frozen? ⟨(ρ id).1, i * sz + j, none⟩ = false := by simp [World.frozen?, g1]
    have hv' : w.cell? ⟨(ρ id).1, i * sz + j, none⟩ = some v := hv
    have hw' : St N w0 ρ S (σ.set id (.arr sz n fun a b => if a = i ∧ b = j then x else f a b)) a (w.setCell ⟨(ρ id).1, i * sz + j, none⟩ u) := hw
    have hsame : Same S w S (w.setCell ⟨(ρ id).1, i * sz + j, none⟩ u) := ⟨fun _ h => h, fun b hb => Below.heap_setCell _ _ _ _ fun e => g6 (by have e' : b = (ρ id).1 := e; rw [← e']; exact hb)⟩
    have had2 : ad.add (q + 1) = ⟨(ρ id).1, i * sz + (j + 1), none⟩ := by
      rw [← add_add, had]; rfl
    obtain ⟨w', hrun, σ', hs', he, f', hh, hf⟩ := St.writesArr hi (q := q + 1) (ad := ad) (j := j + 1) (m := m) (us := us) hw' (by simp [Sig.set]; rfl) (by omega) (h2.keep hsame (Rn.refl _ _)) (fun u hu => hcell u (List.mem_cons_of_mem _ hu)) had2
    refine ⟨w', ?_, σ', hs', he, f', fun k => ?_, fun y z => ?_⟩
    · obtain ⟨c1, c2⟩ := hcell u (List.mem_cons_self ..)
      rw [← hrun]
      simp only [storeCells, Go.store, Sem.run_bind, had]
      cases u <;> first | exact absurd rfl (c1 _) | exact absurd rfl (c2 _) | simp [Sem.run, hv', hfr, Result.andThen]
    · rw [hh k]
      simp only [List.lookup_cons, Sig.set]
      cases k == id <;> rfl
    · rw [hf y z]
      by_cases hy : y = i
      · subst hy
        by_cases hz : z = j
        · subst hz
          rw [if_neg (fun h => by omega), if_pos ⟨rfl, rfl⟩, if_pos ⟨rfl, Nat.le_refl _, by simp⟩]
          simp
        · by_cases hz2 : j + 1 ≤ z ∧ z < j + 1 + m.length
          · rw [if_pos ⟨rfl, hz2⟩, if_pos ⟨rfl, by omega, by simp; omega⟩]
            rw [show z - j = (z - (j + 1)) + 1 by omega]
            rfl
          · rw [if_neg (fun h => hz2 h.2), if_neg (fun h => hz h.2), if_neg (fun h => by have := h.2; simp at this; omega)]
      · rw [if_neg (fun h => hy h.1), if_neg (fun h => hy h.1), if_neg (fun h => hy h.1)]
theorem ARun.storeElem {t id sz n i : Nat} {p x : Operand} {s : SV} {f : Nat → Nat → AV} (ho : o.op = .store t p x) (hp : Kn σ p (.one (.ptr id sz i 0))) (hx : Kn σ x s) (hc : s.Cells) (hob : σ.heap.lookup id = some (.arr sz n f)) (hi : i < n) (hlen : s.cs.length = sz) (hsz : sizeB P t s.cs.length = true)
    (hg : o.guard = none) (hd : o.dst = none) (h : ARun P N w0 ops Q rest (σ.set id (.arr sz n fun a b => if a = i then s.cs.getD b (.con undef) else f a b))) : ARun P N w0 ops Q (o :: rest) σ := by
  intro ρ S a w Q' hQ hs
  refine wpList_plain hg fun K hK => ?_
  have e1 : a.eval p = .pointer (some ⟨(ρ id).1, i * sz + 0, none⟩) := hp.sound hs
  have hrs := hx.sound hs
  have hl := hc.rl hrs
  obtain ⟨w', hrun, σ', hs', he, f', hh, hf⟩ := hs.writesArr (P := P) hi (j := 0) (q := 0) (ad := ⟨(ρ id).1, i * sz + 0, none⟩) hob (by omega) hl (hc.each hrs) (by simp [Addr.add])
  have hvs : (a.eval x).cells.size = s.cs.length := by have := hl.len; simpa using this
  have hr2 : (execOp a.eval o).run P w = .ok .skip w' := by
    generalize a.eval = ev at e1 hrun hvs
    simp only [execOp, ho, e1, Instr.storeAt, Instr.sureAddr, storeVar, Sem.run_bind, Sem.run_pure, Result.andThen_ok, sizeB_run hsz, hvs, ne_eq, not_true, if_false, hrun]
  unfold Oper.wp
  rw [hr2]
  simp only [Oper.upon, hd, Act.put]
  refine hK _ _ (h ρ S _ _ Q' hQ ⟨hs'.size, hs'.defers, hs'.below, ?_, fun t s ht => hs'.env t s (by rw [he]; exact ht)⟩)
  refine hs'.mem.le' fun k p hk => ?_
  rcases lookup_put hk with ⟨rfl, rfl⟩ | ⟨hne, hk⟩
  · refine HLe.mk (o' := .arr sz n f') (by rw [hh k]; simp) rfl rfl (Nat.le_refl _) fun x y hx hy => ?_
    show f' x y = if x = i then s.cs.getD y (.con undef) else f x y
    have hy' : y < sz := hy
    rw [hf x y]
    by_cases hxi : x = i
    · rw [if_pos ⟨hxi, Nat.zero_le _, by omega⟩, if_pos hxi]; rfl
    · rw [if_neg (fun h => hxi h.1), if_neg hxi]
  · exact HLe.refl (by rw [hh k, List.lookup_cons, show (k == id) = false by simpa using hne]; exact hk)
end
theorem fill_next {g : Nat → Nat → AV} {z c : Nat → AV} {k sz : Nat} (h : ∀ b, b < sz → c b = g k b) : ∀ a b, b < sz → (if a = k then c b else if a < k then g a b else z b) = if a < k + 1 then g a b else z b := by
  intro a b hb
  by_cases h1 : a = k
  · subst h1; rw [if_pos rfl, if_pos (by omega)]; exact h b hb
  · rw [if_neg h1]
    by_cases h2 : a < k
    · rw [if_pos h2, if_pos (by omega)]
    · rw [if_neg h2, if_neg (by omega)]
/-! Weights of the laws' budgets. -/
def Small (n : Nat) : Prop := n ≤ 1048576
theorem Small.mk {n : Nat} (h : n ≤ 1048576) : Small n := h
def wtl {α : Type} (f : α → Nat) (l : List α) : Nat := l.length + (l.map f).sum
def szR (left : Int) (n : Nat) : Int := if (n : Int) ≤ left then left - n else -1
theorem szR_neg {left : Int} {a : Nat} (h0 : 0 ≤ left) (h : szR left a < 0) (b : Nat) : szR left (a + b) = -1 := by
  unfold szR at *
  split at h
  · omega
  · rw [if_neg (by omega)]
theorem szR_ok {left : Int} {a : Nat} (h0 : 0 ≤ left) (h : ¬ szR left a < 0) : szR left a = left - a ∧ (a : Int) ≤ left ∧ ∀ b, szR (szR left a) b = szR left (a + b) := by
  unfold szR at *
  split at h
  · rename_i h1
    refine ⟨by rw [if_pos h1], h1, fun b => ?_⟩
    rw [if_pos h1]
    by_cases h2 : ((a + b : Nat) : Int) ≤ left
    · rw [if_pos h2, if_pos (by omega)]; omega
    · rw [if_neg h2, if_neg (by omega)]
  · exact absurd (by omega) h
theorem wt_take {α : Type} {f : α → Nat} (d : α) {l : List α} {k : Nat} (h : k < l.length) : ((l.take (k + 1)).map f).sum = ((l.take k).map f).sum + f (l.getD k d) := by
  rw [List.take_succ_eq_append_getElem h, List.map_append, List.sum_append, List.getD_eq_getElem?_getD, List.getElem?_eq_getElem h]
  simp
theorem wt_le {α : Type} (f : α → Nat) (l : List α) (k : Nat) : ((l.take k).map f).sum ≤ (l.map f).sum := by
  conv => rhs; rw [← List.take_append_drop k l]
  rw [List.map_append, List.sum_append]; omega
theorem wt_at {α : Type} {f : α → Nat} (d : α) {l : List α} {k : Nat} (h : k < l.length) : f (l.getD k d) ≤ (l.map f).sum := by
  have h1 := wt_take (f := f) d h
  have h2 := wt_le f l (k + 1)
  omega
theorem take_next {α : Type} (d : α) {l l' : List α} {k : Nat} (h : k < l.length) (h' : k < l'.length) (ht : l.take k = l'.take k) (he : l.getD k d = l'.getD k d) : l.take (k + 1) = l'.take (k + 1) := by
  rw [List.take_succ_eq_append_getElem h, List.take_succ_eq_append_getElem h', ht]
  rw [List.getD_eq_getElem?_getD, List.getElem?_eq_getElem h, List.getD_eq_getElem?_getD, List.getElem?_eq_getElem h'] at he
  simp at he
  rw [he]
theorem getD_at {α : Type} {l : List α} {k : Nat} (d : α) (h : k < l.length) : l.getD k d = l[k] := by
  rw [List.getD_eq_getElem?_getD, List.getElem?_eq_getElem h]; rfl
theorem szL_big {α : Type} {f : α → Nat} {l : List α} {left : Int} (h : left - (l.length : Int) < 0) : -1 = szR left (wtl f l) := by
  unfold szR wtl; rw [if_neg (by omega)]
theorem szL_neg {α : Type} {f : α → Nat} {l : List α} {left : Int} {k : Nat} {d : α} (h : k < l.length) (hq : 0 ≤ left - (l.length : Int) - (((l.take k).map f).sum : Nat)) (hn : szR (left - (l.length : Int) - (((l.take k).map f).sum : Nat)) (f (l.getD k d)) < 0) : -1 = szR left (wtl f l) := by
  have h1 := wt_take (f := f) d h
  have h2 := wt_le f l (k + 1)
  unfold szR wtl at *
  split at hn
  · omega
  · rw [if_neg (by omega)]
theorem szL_next {α : Type} {f : α → Nat} {l : List α} {left : Int} {k : Nat} {d : α} (h : k < l.length) (hq : 0 ≤ left - (l.length : Int) - (((l.take k).map f).sum : Nat)) (hn : ¬ szR (left - (l.length : Int) - (((l.take k).map f).sum : Nat)) (f (l.getD k d)) < 0) :
    0 ≤ left - (l.length : Int) - (((l.take (k + 1)).map f).sum : Nat) ∧ szR (left - (l.length : Int) - (((l.take k).map f).sum : Nat)) (f (l.getD k d)) = left - (l.length : Int) - (((l.take (k + 1)).map f).sum : Nat) := by
  have h1 := wt_take (f := f) d h
  unfold szR at *
  split at hn
  · rename_i h2; rw [if_pos h2, h1]; omega
  · omega
theorem szL_end {α : Type} {f : α → Nat} {l : List α} {left : Int} {k : Nat} (h : ¬ k < l.length) (hq : 0 ≤ left - (l.length : Int) - (((l.take k).map f).sum : Nat)) : left - (l.length : Int) - (((l.take k).map f).sum : Nat) = szR left (wtl f l) := by
  rw [List.take_of_length_le (by omega)] at hq ⊢
  unfold szR wtl
  rw [if_pos (by omega)]; omega
theorem szF_big {left : Int} {n : Nat} (h : left - (n : Int) < 0) : -1 = szR left n := by unfold szR; rw [if_neg (by omega)]
theorem szF_ok {left : Int} {n : Nat} (h : ¬ left - (n : Int) < 0) : left - (n : Int) = szR left n := by unfold szR; rw [if_pos (by omega)]
theorem Fv.ite {H : Heap} {p : Prop} [Decidable p] {x y z : AV} (hp : p) (h : Fv H x z) : Fv H (if p then x else y) z := by rw [if_pos hp]; exact h
theorem eqL_no {α : Type} {l l' : List α} {k : Nat} {d : α} (h : ¬ l.getD k d = l'.getD k d) : l ≠ l' := fun e => h (by rw [e])
theorem eqL_yes {α : Type} {l l' : List α} {k : Nat} (h : ¬ k < l.length) (hl : l.length = l'.length) (ht : l.take k = l'.take k) : l = l' := by
  rwa [List.take_of_length_le (by omega), List.take_of_length_le (by omega)] at ht
theorem szR_neg0 {left : Int} {a : Nat} (h0 : 0 ≤ left) (h : szR left a < 0) : szR left a = -1 := by
  have := szR_neg h0 h 0
  simpa using this
section
variable {P : Program} {N : Nat} {w0 : Start} {σ : Sig} {ops : Array Oper} {rest : List Oper} {Q : Sig → Prop} {Q2 : Exit → Sig → Prop}
theorem ARun.boundS {t : Nat} {s : ByteArray} (h : σ.env.lookup t = some (.one (.str s))) (k : s.size ≤ 9223372036854775807 → ARun P N w0 ops Q rest σ) : ARun P N w0 ops Q rest σ := by
  intro ρ S a w Q' hQ hs
  obtain ⟨_, h2⟩ := hs.env _ _ h
  exact k (by unfold maxLen at h2; omega) ρ S a w Q' hQ hs
theorem ARun.bound {t sz n : Nat} {f : Nat → Nat → AV} (h : σ.env.lookup t = some (.one (.lst sz n f))) (k : n ≤ 9223372036854775807 → ARun P N w0 ops Q rest σ) : ARun P N w0 ops Q rest σ := by
  intro ρ S a w Q' hQ hs
  obtain ⟨A, c', _, h1, h2, _⟩ := hs.env _ _ h
  exact k (by unfold maxLen at h2; omega) ρ S a w Q' hQ hs
/-- The strings of a list have lengths that are ints. -/
theorem AW.boundE {t sz n i j : Nat} {f : Nat → Nat → AV} {s : ByteArray} {c : Code} (h : σ.env.lookup t = some (.one (.lst sz n f))) (hi : i < n) (hj : j < sz) (hf : f i j = .str s) (k : s.size ≤ 9223372036854775807 → AW P N w0 c Q2 σ) : AW P N w0 c Q2 σ := by
  intro ρ S a w Q' hQ hs
  obtain ⟨A, c', _, h1, h2, _, h4⟩ := hs.env _ _ h
  obtain ⟨b, off, _, _, hc⟩ := h4 i hi
  obtain ⟨u, _, hd⟩ := hc j hj
  rw [hf] at hd
  obtain ⟨_, h5⟩ := hd
  exact k (by unfold maxLen at h5; omega) ρ S a w Q' hQ hs
/-- .. and the lists in a list. -/
theorem AW.boundEL {t sz n i j sz2 n2 : Nat} {f g : Nat → Nat → AV} {c : Code} (h : σ.env.lookup t = some (.one (.lst sz n f))) (hi : i < n) (hj : j < sz) (hf : f i j = .lst sz2 n2 g) (k : n2 ≤ 9223372036854775807 → AW P N w0 c Q2 σ) : AW P N w0 c Q2 σ := by
  intro ρ S a w Q' hQ hs
  obtain ⟨A, c', _, h1, h2, _, h4⟩ := hs.env _ _ h
  obtain ⟨b, off, _, _, hc⟩ := h4 i hi
  obtain ⟨u, _, hd⟩ := hc j hj
  rw [hf] at hd
  obtain ⟨A', c'', _, h5, h6, _⟩ := hd
  exact k (by unfold maxLen at h6; omega) ρ S a w Q' hQ hs
theorem AW.boundAS {t j : Nat} {l : List AV} {s : ByteArray} {c : Code} (h : σ.env.lookup t = some (.agg l)) (hj : l[j]? = some (.str s)) (k : s.size ≤ 9223372036854775807 → AW P N w0 c Q2 σ) : AW P N w0 c Q2 σ := by
  intro ρ S a w Q' hQ hs
  obtain ⟨us, _, hl⟩ := hs.env _ _ h
  obtain ⟨u, _, _, h5⟩ := hl.get hj
  exact k (by unfold maxLen at h5; omega) ρ S a w Q' hQ hs
theorem AW.boundAL {t j sz n : Nat} {f : Nat → Nat → AV} {l : List AV} {c : Code} (h : σ.env.lookup t = some (.agg l)) (hj : l[j]? = some (.lst sz n f)) (k : n ≤ 9223372036854775807 → AW P N w0 c Q2 σ) : AW P N w0 c Q2 σ := by
  intro ρ S a w Q' hQ hs
  obtain ⟨us, _, hl⟩ := hs.env _ _ h
  obtain ⟨u, _, A, c', _, h1, h2, _⟩ := hl.get hj
  exact k (by unfold maxLen at h2; omega) ρ S a w Q' hQ hs
end
/-! Function values that are asked of each element. -/
def AV.Deep : AV → Prop
  | .ptr _ _ _ _ => False
  | .own _ _ _ => False
  | .frs _ => False
  | .fn _ _ _ => False
  | .tre _ _ => False
  | _ => True
theorem Vw.of_deep {H : Heap} : ∀ {x : AV}, x.Deep → Vw H x x
  | .int _ _, _ => .int
  | .bool _, _ => .bool
  | .str _, _ => .str
  | .con _, _ => .con
  | .lst _ _ _, _ => .lst
  | .ref _ _, _ => .ref
  | .ptr _ _ _ _, h => h.elim
  | .own _ _ _, h => h.elim
  | .frs _, h => h.elim
  | .fn _ _ _, h => h.elim
  | .tre _ _, h => h.elim
def idxF {α : Type} (p : α → Bool) (l : List α) : Int := if l.any p then (l.findIdx p : Int) else -1
theorem any_take {α : Type} {p : α → Bool} {l : List α} {k : Nat} (d : α) (h : k < l.length) (ht : (l.take k).any p = false) (hk : p (l.getD k d) = false) : (l.take (k + 1)).any p = false := by
  rw [List.take_succ_eq_append_getElem h, List.any_append, ht]
  rw [getD_at d h] at hk
  simpa using hk
theorem idxF_hit {α : Type} {p : α → Bool} {l : List α} {k : Nat} (d : α) (h : k < l.length) (ht : (l.take k).any p = false) (hk : p (l.getD k d) = true) : (k : Int) = idxF p l := by
  rw [getD_at d h] at hk
  have ha : l.any p = true := List.any_eq_true.2 ⟨_, List.getElem_mem h, hk⟩
  unfold idxF
  rw [if_pos ha]
  have : l.findIdx p = k := by
    rw [List.findIdx_eq h]
    refine ⟨hk, fun j hj => ?_⟩
    have hjl : j < (l.take k).length := by simp; omega
    rw [← Bool.not_eq_true]
    intro e
    have : (l.take k).any p = true := List.any_eq_true.2 ⟨_, List.getElem_mem hjl, by simpa using e⟩
    rw [ht] at this; cases this
  omega
theorem idxF_none {α : Type} {p : α → Bool} {l : List α} {k : Nat} (h : ¬ k < l.length) (ht : (l.take k).any p = false) : -1 = idxF p l := by
  rw [List.take_of_length_le (by omega)] at ht
  unfold idxF; rw [if_neg (by rw [ht]; simp)]
theorem idxF_any {α : Type} (p : α → Bool) (l : List α) : decide (0 ≤ idxF p l) = l.any p := by
  unfold idxF
  by_cases h : l.any p = true
  · rw [if_pos h, h]; simp
  · rw [if_neg h]; simp only [Bool.not_eq_true] at h; rw [h]; rfl
theorem wrap_sq {n : Nat} (h : n ≤ 5) : IntKind.i64.wrap ((n : Int) * (n : Int)) = ((n * n : Nat) : Int) := by
  have : n * n ≤ 5 * 5 := Nat.mul_le_mul h h
  rw [← Int.natCast_mul, wrap_id (by omega) (by omega)]
theorem wrap_mul5 {i n : Nat} (h : n ≤ 5) (hi : i < n) : IntKind.i64.wrap ((i : Int) * (n : Int)) = ((i * n : Nat) : Int) := by
  have : i * n ≤ 5 * 5 := Nat.mul_le_mul (by omega) h
  rw [← Int.natCast_mul, wrap_id (by omega) (by omega)]
theorem ix_lt {i k n : Nat} (hi : i < n) (hk : k < n) : i * n + k < n * n := by
  have h1 : (i + 1) * n ≤ n * n := Nat.mul_le_mul_right _ hi
  rw [Nat.succ_mul] at h1
  omega
end Go.Proofs.Ytmfkmifkkplidaa
