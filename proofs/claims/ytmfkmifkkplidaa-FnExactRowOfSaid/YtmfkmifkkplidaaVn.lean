/-
  A calculus for walks, part 14: from the lists of the earlier kit to the calculus and back; rows made of parts.
-/
import Derived.Test.YtmfkmifkkplidaaVm
namespace Go.Proofs.Ytmfkmifkkplidaa
open Go.ChangeShapes Go.WideShapes Go.ChangeAt Go.RowKit Go.BigFrame Go.Deep
set_option linter.unusedVariables false

set_option linter.unusedSimpArgs false
abbrev intsAV (l : List Int) : AV := .lst 1 l.length fun i _ => .int .i64 (l.getD i 0)
theorem ints_rep {w : World} {S : Nat → Prop} {l : List Int} {v : Value} (h : D w S (intsAV l) v) (hok : ∀ a ∈ l, I64 a) : ∃ A c, v = .slice A l.length c ∧ RepL w S l A l.length c := by
  obtain ⟨A, c, e, h1, h2, h3, h4⟩ := h
  refine ⟨A, c, e, rfl, A, c, rfl, h1, h2, h3, fun i hi => ?_⟩
  obtain ⟨b, off, hA, hS, hc⟩ := h4 i hi
  obtain ⟨u, hu, hd⟩ := hc 0 (by omega)
  refine ⟨b, off, [.int .i64 l[i]], hA, hS, fun j u' hj => ?_, ⟨rfl, hok _ (List.getElem_mem hi)⟩⟩
  have hd : u = .int .i64 (l.getD i 0) := hd
  cases j with
  | zero =>
    simp at hj
    rw [← hj]
    show w.cell? ⟨b, off + (i * 1 + 0), none⟩ = _
    rw [hu, hd, List.getD_eq_getElem?_getD, List.getElem?_eq_getElem hi]; rfl
  | succ j => simp at hj
theorem rep_ints {w : World} {S : Nat → Prop} {l : List Int} {A : Option Addr} {n c : Nat} (h : RepL w S l A n c) : D w S (intsAV l) (.slice A n c) := by
  obtain ⟨hn, A', c', e, h1, h2, h3, h4⟩ := h
  subst hn
  simp only [List.cons.injEq, Value.slice.injEq, and_true, true_and] at e
  obtain ⟨rfl, rfl⟩ := e
  refine ⟨A, c, rfl, h1, h2, h3, fun i hi => ?_⟩
  obtain ⟨b, off, xs, hA, hS, hc, hr⟩ := h4 i hi
  refine ⟨b, off, hA, hS, fun j hj => ?_⟩
  obtain rfl : j = 0 := by omega
  have hx : xs = [.int .i64 l[i]] := hr.1
  subst hx
  refine ⟨.int .i64 l[i], hc 0 _ rfl, ?_⟩
  show _ = Value.int .i64 (l.getD i 0)
  rw [List.getD_eq_getElem?_getD, List.getElem?_eq_getElem hi]; rfl
abbrev rowsAV (l : List (List Int)) : AV := .lst 1 l.length fun i _ => intsAV (l.getD i [])
theorem rows_rep {w : World} {S : Nat → Prop} {l : List (List Int)} {v : Value} (h : D w S (rowsAV l) v) (hok : ∀ r ∈ l, ∀ a ∈ r, I64 a) : ∃ A c, v = .slice A l.length c ∧ RepL w S l A l.length c := by
  obtain ⟨A, c, e, h1, h2, h3, h4⟩ := h
  refine ⟨A, c, e, rfl, A, c, rfl, h1, h2, h3, fun i hi => ?_⟩
  obtain ⟨b, off, hA, hS, hc⟩ := h4 i hi
  obtain ⟨u, hu, hd⟩ := hc 0 (by omega)
  have eg : l.getD i [] = l[i] := by rw [List.getD_eq_getElem?_getD, List.getElem?_eq_getElem hi]; rfl
  simp only [eg] at hd
  obtain ⟨A', c', e', hr⟩ := ints_rep hd (hok _ (List.getElem_mem hi))
  refine ⟨b, off, [.slice A' l[i].length c'], hA, hS, fun j u' hj => ?_, hr.2⟩
  cases j with
  | zero =>
    simp at hj
    rw [← hj, ← e']
    exact hu
  | succ j => simp at hj
/-! A row made of parts. -/
section
variable {P : Program} {σ : Sig} {o : Oper}
theorem Vw.data {N : Nat} {w0 : Start} {ρ : Rho} {S : Nat → Prop} {a : Act} {w : World} (hs : St N w0 ρ S σ a w) {x y : AV} (h : Vw [] x y) {v : Value} (hr : R ρ w S x v) : D w S y v := by
  have hm : MemOk w0.base ρ S [] w := ⟨hs.mem.base, hs.mem.low, hs.mem.lt, fun id o ho => by simp at ho, fun id o ho => by simp at ho, fun id id' o o' ho => by simp at ho, fun id n X ho => by simp at ho⟩
  refine (h.sound hm hr).more fun b hb => ?_
  rcases hb with hb | ⟨id, o, ho, _⟩ | ⟨id, n, X, i, ho, _⟩
  · exact hb
  · simp at ho
  · simp at ho
theorem FreshOp.row2 {t e n1 n2 sz1 sz2 : Nat} {x y : Operand} {a1 a2 : AV} {f1 f2 f : Nat → Nat → AV} (ho : o.op = .buildSlice t 2 #[(0, x), (1, y)]) (hx : Kn σ x (.one a1)) (hy : Kn σ y (.one a2)) (h1 : Vw [] a1 (.lst sz1 n1 f1)) (h2 : Vw [] a2 (.lst sz2 n2 f2))
    (ht : P.underlying t = some (.slice e)) (hz : (P.info? e).map (fun i => (i.size, i.zero)) = some (1, some (.slice none 0 0))) (hf0 : f 0 0 = .lst sz1 n1 f1) (hf1 : f 1 0 = .lst sz2 n2 f2) : FreshOp P o σ (.one (.lst 1 2 f)) := by
  constructor
  intro N w0 ρ S a w K Q' hs hK
  have d1 := h1.data hs (hx.sound hs)
  have d2 := h2.data hs (hy.sound hs)
  obtain ⟨A1, c1, e1, r1⟩ := id d1
  obtain ⟨A2, c2, e2, r2⟩ := id d2
  obtain ⟨i, hi, hi2⟩ := Option.map_eq_some_iff.1 hz
  simp only [Prod.mk.injEq] at hi2
  obtain ⟨z1, z2⟩ := hi2
  have er : (execOp a.eval o).run P w = .ok (.value (.slice (some ⟨w.heap.size, 0, none⟩) 2 2)) (w.alloc (.cells #[.slice A1 n1 c1, .slice A2 n2 c2] e)) := by
    generalize a.eval = ev at e1 e2 ⊢
    simp [execOp, ho, Instr.buildSlice, run_underlying ht, sizeOf, typeInfo, hi, z1, z2, zeroValue, e1, e2, go_sem]
  unfold Oper.wp
  rw [er]
  have hb : Below w.heap.size w (w.alloc (.cells #[.slice A1 n1 c1, .slice A2 n2 c2] e)) := (Below.refl _ _).alloc (Nat.le_refl _) _
  obtain ⟨g1, g2⟩ := hs.grow hb
  refine hK _ _ _ g1 hb (fun b h => h.imp (fun h => h) (fun h => h.1)) g2 ⟨_, _, rfl, Nat.le_refl _, by decide, (fun h => by cases h), fun j hj => ⟨w.heap.size, 0, rfl, .inr ⟨Nat.le_refl _, by rw [World.heap_alloc, Array.size_push]; omega⟩, fun q hq => ?_⟩⟩
  obtain rfl : q = 0 := by omega
  have hcell : ∀ p, (w.alloc (.cells #[.slice A1 n1 c1, .slice A2 n2 c2] e)).cell? ⟨w.heap.size, p, none⟩ = (#[Value.slice A1 n1 c1, .slice A2 n2 c2])[p]? := fun p => by simp [World.cell?, World.heap_alloc]
  by_cases hj0 : j = 0
  · subst hj0
    refine ⟨.slice A1 n1 c1, by rw [hcell]; rfl, ?_⟩
    rw [hf0]
    have := d1.keep g1; rw [e1] at this; exact this
  · obtain rfl : j = 1 := by omega
    refine ⟨.slice A2 n2 c2, by rw [hcell]; rfl, ?_⟩
    rw [hf1]
    have := d2.keep g1; rw [e2] at this; exact this
end
end Go.Proofs.Ytmfkmifkkplidaa
