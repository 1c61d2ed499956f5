/-
  Part 2 of the proof: the texts of a seat's own library, joined.
-/
import Derived.Deep.AppendSrc
import Derived.Laws.AppendOwn
import Derived.Lib.SliceRun
import Derived.Great.BuildSlice
import Derived.Lib.Bytealg
import Derived.Lib.ItoaLen
import Derived.Shelf.Strings.BuilderK
import Derived.Deep.Fields
import Derived.Test.YtmfkmifkkplidaaDoorZb1
/-
  A calculus for walks, part 22: make in a drawn region, structs built, rows appended to, loops whose objects are renamed.
-/
namespace Go.Proofs.YtmfkmifkkplidaaDoor
open Go.ChangeShapes Go.WideShapes Go.ChangeAt Go.RowKit Go.BigFrame Go.Deep
set_option linter.unusedVariables false

set_option linter.unusedSimpArgs false
section
variable {P : Program} {N : Nat} {w0 : Start} {σ : Sig} {ops : Array Oper} {rest : List Oper} {o : Oper} {Q : Sig → Prop}
theorem OpStepC.make {t id n by_ : Nat} {m c : Int} {k k' : IntKind} {x y : Operand} {z : Value} {l : List AV} (ho : o.op = .makeSlice t x y) (hz : elemZ P t = some (some z, l.length, by_)) (hl : ∀ ρ w S, RL ρ w S l z.cells.toList)
    (hx : Kn σ x (.one (.int k m))) (hy : Kn σ y (.one (.int k' c))) (hm : m = (n : Int)) (hc : c = (n : Int)) (hn : by_ * n ≤ 281474976710656) (h63 : n ≤ 9223372036854775807) (hsz : 0 < l.length)
    (hf : Fr id σ) (hno : l.all AV.scl = true) (hg : o.guard = none) : OpStepC P ops o σ (.one (.own id l.length n)) (some (id, .arr l.length n fun _ j => l.getD j (.con undef))) := by
  subst hm hc
  constructor
  intro N w0 ρ S a w K Q' hs hK
  rw [if_pos (by simp [Region.wanted, hg])]
  obtain ⟨e, i, hu, hi, hz0, hz1, hz2⟩ := elemZ_spec hz
  have hzl := hl ρ w S
  have hzlen : z.cells.size = l.length := by have := hzl.len; simpa using this
  have hb : Below w.heap.size w (w.alloc (.cells (madeCells z.cells (n * i.size)) e)) := (Below.refl _ _).alloc (Nat.le_refl _) _
  obtain ⟨ρ', e1, e2, e3, hs'⟩ := hs.newA hf (o := .arr l.length n fun _ j => l.getD j (.con undef)) (cs := madeCells z.cells (n * i.size)) (e := e) (cap := n) rfl (by rw [size_madeCells, hz1]; rfl) (Nat.le_refl _) (by unfold maxLen; omega)
    (fun i' j hi' hj => by
      have hj' : j < l.length := hj
      have hi'' : i' < n := hi'
      obtain ⟨u, hu', hr⟩ := hzl.getD hj'
      refine ⟨u, ?_, hr⟩
      show (madeCells z.cells (n * i.size))[i' * l.length + j]? = some u
      have hlt : i' * l.length + j < n * i.size := by
        rw [hz1]
        exact cell_lt hi'' hj'
      have hmod : (i' * l.length + j) % z.cells.size = j := by rw [hzlen, Nat.mul_comm, Nat.mul_add_mod, Nat.mod_eq_of_lt hj']
      have hjz : j < z.cells.size := by rw [hzlen]; exact hj'
      have : z.cells[j]? = some u := by simpa using hu'
      rw [Array.getElem?_eq_getElem hjz] at this
      simp only [madeCells, Array.getElem?_map, Array.getElem?_range, hlt, if_true, Option.map_some, hmod]
      rw [show z.cells[j]! = z.cells[j] from getElem!_pos z.cells j hjz]
      exact this)
    (fun i' j => by
      show (l.getD j (.con undef)).no id = true
      rw [List.getD_eq_getElem?_getD]
      cases hl : l[j]? with
      | none => rfl
      | some x => exact scl_no (List.all_eq_true.1 hno x (List.mem_of_getElem? hl)) id)
  have h1 : a.eval x = .int k (n : Int) := hx.sound hs
  have h2 : a.eval y = .int k' (n : Int) := hy.sound hs
  have hmk := run_make_rowN (P := P) t e i z hu hi hz0 k k' n n (Nat.le_refl _) (by rw [hz2]; exact hn) h63 w
  have hrun : (execOp a.eval o).run P w = .ok (.value (.slice (some ⟨w.heap.size, 0, none⟩) n n)) (w.alloc (.cells (madeCells z.cells (n * i.size)) e)) := by
    generalize a.eval = ev at h1 h2
    simp only [execOp, ho, h1, h2, Sem.run_bind, hmk]
    simp [go_sem]
  unfold Oper.wp
  rw [hrun]
  have hone : ∀ {q : Nat × AObj} {o}, some (id, o) = some q → q.1 = id := fun h => by cases h; rfl
  refine hK _ ρ' S _ (hs.mem.same hb) hb (fun b h => .inl h) e2 (fun k hk => e3 k fun e => hk _ rfl e.symm) (fun p hp _ => ?_) (fun p n' X i' b hp hX => ?_) hs' ?_
  · rw [hone hp, e1]; exact Nat.le_refl _
  · cases hp; cases hX
  · show ∃ A, Value.slice _ _ _ = .slice A n (ρ' id).2 ∧ n ≤ (ρ' id).2 ∧ (ρ' id).2 ≤ maxLen ∧ (A = some ⟨(ρ' id).1, 0, none⟩ ∨ (A = none ∧ (ρ' id).2 = 0))
    rw [e1]
    exact ⟨_, rfl, Nat.le_refl _, by unfold maxLen; omega, .inl rfl⟩
theorem OpStepC.alloc {t id : Nat} {z : Value} {l : List AV} (ho : o.op = .alloc t) (hz : (P.info? t).bind (·.zero) = some z) (hl : ∀ ρ w S, RL ρ w S l z.cells.toList) (hf : Fr id σ) (hn : l.all AV.scl = true) (hg : o.guard = none) : OpStepC P ops o σ (.one (.ptr id l.length 0 0)) (some (id, .cells l)) := by
  constructor
  intro N w0 ρ S a w K Q' hs hK
  rw [if_pos (by simp [Region.wanted, hg])]
  have hzl := hl ρ w S
  have hlen : z.cells.size = l.length := by have := hzl.len; simpa using this
  have hb : Below w.heap.size w (w.alloc (.cells z.cells t)) := (Below.refl _ _).alloc (Nat.le_refl _) _
  obtain ⟨ρ', e1, e2, e3, hs'⟩ := hs.newA hf (o := .cells l) (cs := z.cells) (e := t) (cap := 1) rfl (by simpa [AObj.sz] using hlen) (Nat.le_refl _) (by unfold maxLen; omega) (fun i j hi hj => by
    have hi0 : i = 0 := by have : i < 1 := hi; omega
    subst hi0
    have hj' : j < l.length := hj
    obtain ⟨u, hu, hr⟩ := hzl.get (j := j) (x := l[j]) (List.getElem?_eq_getElem hj')
    refine ⟨u, by simpa using hu, ?_⟩
    show R ρ w S (l.getD j (.con undef)) u
    rw [List.getD_eq_getElem?_getD, List.getElem?_eq_getElem hj']
    exact hr) (by
    show l.all (AV.no id) = true
    rw [List.all_eq_true] at hn ⊢
    exact fun x hx => scl_no (hn x hx) id)
  have hrun : (execOp a.eval o).run P w = .ok (.value (.pointer (some ⟨w.heap.size, 0, none⟩))) (w.alloc (.cells z.cells t)) := by
    generalize a.eval = ev
    cases hi : P.info? t with
    | none => rw [hi] at hz; cases hz
    | some inf =>
      rw [hi] at hz
      have hz' : inf.zero = some z := hz
      simp [execOp, ho, Instr.alloc, newVar, newRow, newObj, go_sem, zeroValue, typeInfo, hi, hz']
      rfl
  unfold Oper.wp
  rw [hrun]
  have hone : ∀ {q : Nat × AObj} {o}, some (id, o) = some q → q.1 = id := fun h => by cases h; rfl
  refine hK _ ρ' S _ (hs.mem.same hb) hb (fun b h => .inl h) e2 (fun k hk => e3 k fun e => hk _ rfl e.symm) (fun p hp _ => ?_) (fun p n' X i' b hp hX => ?_) hs' ?_
  · rw [hone hp, e1]; exact Nat.le_refl _
  · cases hp; cases hX
  · show Value.pointer _ = .pointer (some ⟨(ρ' id).1, 0 * _ + 0, none⟩)
    rw [e1]; simp
/-! Structs built of parts. -/
def placesOf (P : Program) (t : TypeId) : Option (List (Nat × Nat)) :=
  match P.underlying t with
  | some (.struct fs) => fs.toList.mapM fun f => (P.info? f.type).map fun i => (f.offset, i.size)
  | _ => none
theorem RL.set {ρ : Rho} {w : World} {S : Nat → Prop} : ∀ {l : List AV} {us : List Value} {j : Nat} {x : AV} {u : Value}, RL ρ w S l us → R ρ w S x u → RL ρ w S (l.set j x) (us.set j u)
  | [], _, _, _, _, h, _ => by rw [show _ = [] from h]; rfl
  | y :: l, _, 0, _, _, ⟨v, vs, e, h1, h2⟩, hx => by subst e; exact ⟨_, _, rfl, hx, h2⟩
  | y :: l, _, j + 1, _, _, ⟨v, vs, e, h1, h2⟩, hx => by subst e; exact ⟨_, _, rfl, h1, RL.set h2 hx⟩
def setP (pl : List (Nat × Nat)) : List AV → List (Nat × Operand) → List AV → List AV
  | l, (i, _) :: xs, y :: ys => setP pl (l.set ((pl.getD i (0, 0)).1) y) xs ys
  | l, _, _ => l
def KnP (σ : Sig) (pl : List (Nat × Nat)) (n : Nat) : List (Nat × Operand) → List AV → Prop
  | [], [] => True
  | (i, x) :: xs, y :: ys => Kn σ x (.one y) ∧ y.Cell ∧ (match pl[i]? with | some (off, 1) => Nat.blt off n | _ => false) = true ∧ KnP σ pl n xs ys
  | _, _ => False
theorem mapM_opt_run {w : World} : ∀ {fs : List Field} {ps : List (Nat × Nat)}, (fs.mapM fun f => (P.info? f.type).map fun i => (f.offset, i.size)) = some ps → (fs.mapM (fun f => do pure (f.offset, ← sizeOf f.type) : Field → Sem (Nat × Nat))).run P w = .ok ps w
  | [], ps, h => by simp at h; subst h; simp [go_sem]
  | f :: fs, ps, h => by
    simp only [List.mapM_cons, Option.bind_eq_bind, Option.bind_eq_some_iff, Option.pure_def, Option.some.injEq] at h
    obtain ⟨p, hp, qs, hq, rfl⟩ := h
    obtain ⟨i, hi, rfl⟩ := Option.map_eq_some_iff.1 hp
    simp only [List.mapM_cons, Sem.run_bind, run_sizeOf' hi, Result.andThen_ok, Sem.run_pure, mapM_opt_run hq]
theorem fill_run {N : Nat} {w0 : Start} {ρ : Rho} {S : Nat → Prop} {a : Act} {w : World} (hs : St N w0 ρ S σ a w) {pl : List (Nat × Nat)} {n : Nat} : ∀ {xs : List (Nat × Operand)} {ys l : List AV} {cells : Array Value}, KnP σ pl n xs ys → RL ρ w S l cells.toList → cells.size = n →
    ∃ cells', Instr.fill (pl.toArray[·]?) cells (xs.map fun p => (p.1, a.eval p.2)) = some cells' ∧ RL ρ w S (setP pl l xs ys) cells'.toList
  | [], [], l, cells, _, h, _ => ⟨cells, rfl, h⟩
  | (i, x) :: xs, y :: ys, l, cells, ⟨h1, h2, h3, h4⟩, h, hn => by
    have hr : R ρ w S y (a.eval x) := h1.sound hs
    obtain ⟨c1, _, _⟩ := h2.cells hr
    cases hp : pl[i]? with
    | none => rw [hp] at h3; cases h3
    | some p =>
      obtain ⟨off, s⟩ := p
      rw [hp] at h3
      have hs1 : s = 1 ∧ off < n := by
        match s, h3 with
        | 1, h3 => exact ⟨rfl, by simpa [Nat.blt_eq] using h3⟩
        | 0, h3 => cases h3
        | _ + 2, h3 => cases h3
      obtain ⟨rfl, hoff⟩ := hs1
      have hg : pl.getD i (0, 0) = (off, 1) := by rw [List.getD_eq_getElem?_getD, hp]; rfl
      obtain ⟨cells', k1, k2⟩ := fill_run hs (cells := cells.setIfInBounds off (a.eval x)) (l := l.set off y) h4 (by rw [Array.toList_setIfInBounds]; exact RL.set h hr) (by rw [Array.size_setIfInBounds]; exact hn)
      refine ⟨cells', ?_, ?_⟩
      · rw [List.map_cons, Instr.fill]
        simp only [List.getElem?_toArray, hp, c1]
        rw [if_neg (by simp; omega)]
        simpa using k1
      · rw [setP, hg]; exact k2
  | [], _ :: _, _, _, h, _, _ => h.elim
  | _ :: _, [], _, _, h, _, _ => h.elim
theorem PureOp.build {t : TypeId} {xs : List (Nat × Operand)} {ys l l' : List AV} {pl : List (Nat × Nat)} {z : Value} (ho : o.op = .build t xs.toArray) (hpl : placesOf P t = some pl) (hz : (P.info? t).bind (·.zero) = some z) (hl : ∀ ρ w S, RL ρ w S l z.cells.toList) (hk : KnP σ pl l.length xs ys) (hl' : setP pl l xs ys = l') : PureOp P o σ (.agg l') := by
  subst hl'
  refine PureOp.val fun N w0 ρ S a w hs => ?_
  have hzl := hl ρ w S
  have hzlen : z.cells.size = l.length := by have := hzl.len; simpa using this
  obtain ⟨cells', k1, k2⟩ := fill_run hs hk hzl hzlen
  refine ⟨.agg cells', ⟨cells', rfl, k2⟩, fun w' _ => ?_⟩
  unfold placesOf at hpl
  split at hpl
  · rename_i fs hu
    have hm := mapM_opt_run (P := P) (w := w') hpl
    cases hi : P.info? t with
    | none => rw [hi] at hz; cases hz
    | some inf =>
      rw [hi] at hz
      have hz' : inf.zero = some z := hz
      obtain ⟨fl⟩ := fs
      generalize a.eval = ev at k1
      have hmA : (fl.toArray.mapM (fun f => do pure (f.offset, ← sizeOf f.type) : Field → Sem (Nat × Nat))).run P w' = .ok pl.toArray w' := by
        rw [List.mapM_toArray, map_eq_pure_bind, Sem.run_bind, hm]; rfl
      have hzv : (zeroValue t).run P w' = .ok z w' := by simp [zeroValue, typeInfo, hi, hz', go_sem]
      have hu' : P.underlying t = some (.struct fl.toArray) := hu
      simp only [execOp, ho, Instr.build, Sem.run_bind, hzv, Result.andThen_ok, run_underlying hu', hmA, List.map_toArray, k1]
      simp [go_sem]
  · cases hpl
/-! Slices compared with nil, parts of rows. -/
end
end Go.Proofs.YtmfkmifkkplidaaDoor


/-
  A calculus for walks, part 23: rows appended to.
-/
namespace Go.Proofs.YtmfkmifkkplidaaDoor
open Go.ChangeShapes Go.WideShapes Go.ChangeAt Go.RowKit Go.BigFrame Go.Deep
set_option linter.unusedVariables false

set_option linter.unusedSimpArgs false
/-- Values of one cell, whatever they read as. -/
def AV.oc : AV → Bool
  | .int _ _ => true
  | .bool _ => true
  | .str _ => true
  | .lst _ _ _ => true
  | .own _ _ _ => true
  | .tre _ _ => true
  | .tl _ _ _ _ => true
  | .con v => v.oneCell'
  | .frs (.lst _ _ _) => true
  | _ => false
theorem AV.oc_r {ρ : Rho} {w : World} {S : Nat → Prop} {x : AV} {u : Value} (h : x.oc = true) (hr : R ρ w S x u) : u.oneCell' = true := by
  cases x with
  | int _ _ => rw [show u = _ from hr]; rfl
  | bool _ => rw [show u = _ from hr]; rfl
  | str _ => rw [hr.1]; rfl
  | lst sz n f => obtain ⟨A, c, e, _⟩ := hr; rw [e]; rfl
  | own id sz n => obtain ⟨A, e, _⟩ := hr; rw [e]; rfl
  | tre id i => obtain ⟨_, _, A, n, c, e⟩ := hr; rw [e]; rfl
  | tl id sz q n => obtain ⟨A, e, _⟩ := hr; rw [e]; rfl
  | cv _ _ => cases h
  | con v => rw [show u = v from hr]; exact h
  | frs x =>
    cases x with
    | lst sz n f => obtain ⟨A, c, e, _⟩ := hr; rw [e]; rfl
    | _ => cases h
  | ref _ _ => cases h
  | ptr _ _ _ _ => cases h
  | fn _ _ _ => cases h
theorem heap_setCells_other {b : Nat} : ∀ {vs : List Value} {o : Nat} {w : World} {k : Nat}, k ≠ b → (w.setCells b o vs).heap[k]? = w.heap[k]?
  | [], _, _, _, _ => rfl
  | v :: r, o, w, k, h => by rw [World.setCells, heap_setCells_other h]; exact Below.heap_setCell _ _ _ _ h
theorem below_setCells {B b : Nat} (hb : B ≤ b) : ∀ {vs : List Value} {o : Nat} {w : World}, Below B w (w.setCells b o vs) ∧ (w.setCells b o vs).heap.size = w.heap.size
  | [], _, w => ⟨Below.refl _ _, rfl⟩
  | v :: r, o, w => by
    obtain ⟨h1, h2⟩ := below_setCells hb (vs := r) (o := o + 1) (w := w.setCell ⟨b, o, none⟩ v)
    rw [World.setCells]
    refine ⟨Below.trans (Below.setCell (Below.refl _ _) hb _) h1, h2.trans ?_⟩
    simp [World.setCell]
theorem heap_setCells_at {b : Nat} {e : TypeId} {fr : Nat × Nat} : ∀ {vs : List Value} {o : Nat} {w : World} {cs : Array Value}, w.heap[b]? = some (.cells cs e fr) → ∃ cs' : Array Value, (w.setCells b o vs).heap[b]? = some (.cells cs' e fr) ∧ cs'.size = cs.size ∧
    (∀ k, k < o → cs'[k]? = cs[k]?) ∧ (∀ j u, vs[j]? = some u → o + j < cs.size → cs'[o + j]? = some u)
  | [], o, w, cs, h => ⟨cs, h, rfl, fun _ _ => rfl, fun j u hj => by simp at hj⟩
  | v :: r, o, w, cs, h => by
    have h1 : (w.setCell ⟨b, o, none⟩ v).heap[b]? = some (.cells (cs.setIfInBounds o v) e fr) := by
      simp [World.setCell, Array.getElem?_modify, h]
    obtain ⟨cs', k1, k2, k3, k4⟩ := heap_setCells_at (vs := r) (o := o + 1) h1
    refine ⟨cs', k1, by rw [k2]; simp, fun k hk => ?_, fun j u hj hlt => ?_⟩
    · rw [k3 k (by omega), Array.getElem?_setIfInBounds, if_neg (by omega)]
    · cases j with
      | zero =>
        simp at hj
        subst hj
        rw [Nat.add_zero, k3 o (by omega), Array.getElem?_setIfInBounds, if_pos rfl, if_pos (by simpa using hlt)]
      | succ j =>
        have := k4 j u (by simpa using hj) (by simp; omega)
        rw [show o + (j + 1) = o + 1 + j by omega]; exact this
section
variable {P : Program} {N : Nat} {w0 : Start} {σ : Sig} {ops : Array Oper} {rest : List Oper} {o : Oper} {Q : Sig → Prop}
/-- A row that is read: of the walk's own, or data. -/
inductive KnR (σ : Sig) (y : Operand) (sz m : Nat) (g : Nat → Nat → AV) : Prop
  | own {id : Nat} {ob : AObj} : Kn σ y (.one (.own id sz m)) → σ.heap.lookup id = some ob → ob.sz = sz → m ≤ ob.n → (∀ i j, i < m → j < sz → ob.f i j = g i j) → KnR σ y sz m g
  | lst : Kn σ y (.one (.lst sz m g)) → KnR σ y sz m g
  | gen : (∀ (N : Nat) (w0 : Start) (ρ : Rho) (S : Nat → Prop) (a : Act) (w : World), St N w0 ρ S σ a w → ∃ A c, a.eval y = .slice A m c ∧ (0 < m → ∃ b off, A = some ⟨b, off, none⟩ ∧ ∀ i j, i < m → j < sz → ∃ u, w.cell? ⟨b, off + (i * sz + j), none⟩ = some u ∧ R ρ w S (g i j) u)) → KnR σ y sz m g
theorem news_of {w : World} {b off n : Nat} (h : ∀ q, q < n → ∃ u, w.cell? ⟨b, off + q, none⟩ = some u) : ∃ news : List Value, news.length = n ∧ ∀ q u, news[q]? = some u → w.cell? ⟨b, off + q, none⟩ = some u := by
  refine ⟨(List.range n).map fun q => (w.cell? ⟨b, off + q, none⟩).getD undef, by simp, fun q u hq => ?_⟩
  have hlt : q < n := by have := (List.getElem?_eq_some_iff.1 hq).1; simpa using this
  obtain ⟨v, hv⟩ := h q hlt
  simp [hlt, hv] at hq
  rw [hv, hq]
theorem KnR.src {ρ : Rho} {S : Nat → Prop} {a : Act} {w : World} {y : Operand} {sz m : Nat} {g : Nat → Nat → AV} (h : KnR σ y sz m g) (hs : St N w0 ρ S σ a w) (hsz : 0 < sz) (hoc : ∀ i j, i < m → j < sz → (g i j).oc = true) {t2 : TypeId} (ht : sliceB P t2 = true) :
    ∃ news : List Value, Src P sz t2 (a.eval y) m news w ∧ ∀ i j, i < m → j < sz → ∃ u, news[i * sz + j]? = some u ∧ R ρ w S (g i j) u := by
  obtain ⟨e', he⟩ := sliceB_spec ht
  have key : ∀ (b off c : Nat), (∀ i j, i < m → j < sz → ∃ u, w.cell? ⟨b, off + (i * sz + j), none⟩ = some u ∧ R ρ w S (g i j) u) → a.eval y = .slice (some ⟨b, off, none⟩) m c →
      ∃ news : List Value, Src P sz t2 (a.eval y) m news w ∧ ∀ i j, i < m → j < sz → ∃ u, news[i * sz + j]? = some u ∧ R ρ w S (g i j) u := by
    intro b off c hc ev
    have hq : ∀ q, q < m * sz → q / sz < m ∧ q % sz < sz ∧ q / sz * sz + q % sz = q := fun q hq => ⟨(Nat.div_lt_iff_lt_mul hsz).2 hq, Nat.mod_lt _ hsz, by rw [Nat.mul_comm]; exact Nat.div_add_mod q sz⟩
    obtain ⟨news, hl, hn⟩ := news_of (w := w) (b := b) (off := off) (n := m * sz) fun q hq' => by
      obtain ⟨h1, h2, h3⟩ := hq q hq'
      obtain ⟨u, hu, _⟩ := hc _ _ h1 h2
      rw [h3] at hu; exact ⟨u, hu⟩
    have hget : ∀ i j, i < m → j < sz → ∃ u, news[i * sz + j]? = some u ∧ R ρ w S (g i j) u := fun i j hi hj => by
      obtain ⟨u, hu, hr⟩ := hc i j hi hj
      have hlt : i * sz + j < news.length := by rw [hl]; exact cell_lt hi hj
      refine ⟨u, ?_, hr⟩
      have := hn _ _ (List.getElem?_eq_getElem hlt)
      rw [hu] at this
      rw [List.getElem?_eq_getElem hlt, this]
    refine ⟨news, ?_, hget⟩
    rw [ev]
    refine Src.ofSlice w he ⟨b, off, none⟩ m c news hl (fun j u hj => by rw [Addr.add_lit]; exact hn j u hj) fun u hu => ?_
    obtain ⟨q, hq1, rfl⟩ := List.mem_iff_getElem.1 hu
    obtain ⟨h1, h2, h3⟩ := hq q (by omega)
    obtain ⟨u', hu', hr⟩ := hget _ _ h1 h2
    rw [h3, List.getElem?_eq_getElem hq1] at hu'
    obtain rfl := Option.some.inj hu'
    exact AV.oc_r (hoc _ _ h1 h2) hr
  have nil : ∀ (A : Option Addr) (c : Nat), m = 0 → a.eval y = .slice A m c → ∃ news : List Value, Src P sz t2 (a.eval y) m news w ∧ ∀ i j, i < m → j < sz → ∃ u, news[i * sz + j]? = some u ∧ R ρ w S (g i j) u := by
    intro A c hm ev
    subst hm
    refine ⟨[], ?_, fun i j hi => absurd hi (by omega)⟩
    rw [ev]
    cases A with
    | none => exact Src.ofNil w he c
    | some ad => exact Src.ofSlice w he ad 0 c [] (by simp) (fun j u hj => by simp at hj) (fun u hu => by cases hu)
  cases h with
  | @own id ob k1 k2 k3 k4 k5 =>
    subst k3
    obtain ⟨A, ev, hn1, hn2, hA⟩ := k1.sound hs
    by_cases hm : m = 0
    · exact nil A _ hm ev
    · have hc : (ρ id).2 ≠ 0 := by omega
      obtain ⟨cs, e, h1, h2, h3, h4, h5, h6, h7⟩ := hs.mem.obj id ob k2 hc
      have hA' : A = some ⟨(ρ id).1, 0, none⟩ := by rcases hA with h | ⟨_, h⟩; (· exact h); (· exact absurd h hc)
      subst hA'
      refine key (ρ id).1 0 _ (fun i j hi hj => ?_) ev
      obtain ⟨u, hu, hr⟩ := h7 i j (by omega) hj
      rw [k5 i j hi hj] at hr
      exact ⟨u, by simp [World.cell?, h1, hu], hr⟩
  | gen k1 =>
    obtain ⟨A, c, ev, h1⟩ := k1 _ _ _ _ _ _ hs
    by_cases hm : m = 0
    · exact nil A c hm ev
    · obtain ⟨b, off, hA, hc⟩ := h1 (by omega)
      subst hA
      exact key b off c hc ev
  | lst k1 =>
    obtain ⟨A, c, ev, h1, h2, h3, h4⟩ := k1.sound hs
    by_cases hm : m = 0
    · exact nil A c hm ev
    · obtain ⟨b, off, hA, _, _⟩ := h4 0 (by omega)
      subst hA
      refine key b off c (fun i j hi hj => ?_) ev
      obtain ⟨b', off', hA', _, hc⟩ := h4 i hi
      cases hA'
      obtain ⟨u, hu, hd⟩ := hc j hj
      exact ⟨u, hu, hd.toR⟩
/-- What is appended to: a row of the walk's own, or nil. -/
inductive KnF (σ : Sig) (x : Operand) (sz n : Nat) (f : Nat → Nat → AV) : Heap → Prop
  | own {id : Nat} {ob : AObj} : Kn σ x (.one (.own id sz n)) → σ.heap.lookup id = some ob → ob.isT = false → ob.sz = sz → n ≤ ob.n → (∀ i j, i < n → j < sz → ob.f i j = f i j) → KnF σ x sz n f (σ.heap.filter fun p => p.1 != id)
  | nil : Kn σ x (.one (.con (.slice none 0 0))) → n = 0 → KnF σ x sz n f σ.heap
theorem filter_lookup {α : Type} {id : Nat} : ∀ {l : List (Nat × α)} {k : Nat} {p : α}, (l.filter fun q => q.1 != id).lookup k = some p → k ≠ id ∧ l.lookup k = some p
  | [], _, _, h => by simp at h
  | (k', q) :: l, k, p, h => by
    by_cases hk : k' = id
    · subst hk
      rw [List.filter_cons_of_neg (by simp)] at h
      obtain ⟨h1, h2⟩ := filter_lookup h
      refine ⟨h1, ?_⟩
      rw [List.lookup_cons, show (k == k') = false by simpa using h1]; exact h2
    · rw [List.filter_cons_of_pos (by simpa using hk)] at h
      rcases lookup_put h with ⟨rfl, rfl⟩ | ⟨hne, h⟩
      · exact ⟨hk, by simp⟩
      · obtain ⟨h1, h2⟩ := filter_lookup h
        refine ⟨h1, ?_⟩
        rw [List.lookup_cons, show (k == k') = false by simpa using hne]; exact h2
theorem KnF.sub {x : Operand} {sz n : Nat} {f : Nat → Nat → AV} {Hn : Heap} (h : KnF σ x sz n f Hn) : ∀ {k p}, Hn.lookup k = some p → σ.heap.lookup k = some p := by
  intro k p hk
  cases h with
  | own => exact (filter_lookup hk).2
  | nil => exact hk
theorem ARun.append {t t2 : TypeId} {x y : Operand} {d id sz n m by_ : Nat} {z : Value} {f g h : Nat → Nat → AV} {Hn : Heap} (ho : o.op = .call { callee := .builtin .append, args := #[x, y], argTypes := #[t, t2] })
    (hz : elemZ P t = some (some z, sz, by_)) (hzc : z.cells.size = sz) (ht : sliceB P t2 = true) (hx : KnF σ x sz n f Hn) (hy : KnR σ y sz m g) (hsz : 0 < sz) (hoc : ∀ i j, i < m → j < sz → (g i j).oc = true)
    (hh : ∀ i j, i < n + m → j < sz → h i j = if i < n then f i j else g (i - n) j) (hlim : (n + m) * by_ ≤ 140737488355328) (h63 : n + m ≤ 9223372036854775807) (hf : Fr id σ) (hno : ∀ i j, (h i j).no id = true)
    (hg : o.guard = none) (hd : o.dst = some d) (hN : d < N) (hk : ARun P N w0 ops Q rest ⟨(d, .one (.own id sz (n + m))) :: σ.env, (id, .arr sz (n + m) h) :: Hn⟩) : ARun P N w0 ops Q (o :: rest) σ := by
  intro ρ S a w Q' hQ hs
  refine wpList_plain hg fun K hK => ?_
  obtain ⟨e, i, hu, hi, hz0, hz1, hz2⟩ := elemZ_spec hz
  subst hz1 hz2
  obtain ⟨news, hsrc, hnews⟩ := hy.src (P := P) hs hsz hoc ht
  have hnl : news.length = m * i.size := hsrc.newsLen
  -- the row that is appended to
  obtain ⟨A, c, b, cs, ev, hnc, hcm, hA, hold, hHn⟩ : ∃ (A : Option Addr) (c b : Nat) (cs : Array Value), a.eval x = .slice A n c ∧ n ≤ c ∧ c ≤ maxLen ∧ (A = some ⟨b, 0, none⟩ ∨ (A = none ∧ c = 0)) ∧
      (c ≠ 0 → (∃ e', w.heap[b]? = some (.cells cs e' (0, 0))) ∧ cs.size = c * i.size ∧ w0.base ≤ b ∧ ¬ S b ∧ b < w.heap.size ∧ ∀ k j, k < n → j < i.size → ∃ u, cs[k * i.size + j]? = some u ∧ R ρ w S (f k j) u) ∧
      (c ≠ 0 → (∀ k p, Hn.lookup k = some p → (ρ k).2 ≠ 0 → (ρ k).1 ≠ b) ∧ ∀ k n' X q b', Hn.lookup k = some (.trees n' X) → q < n' → ρ.tb k q b' → b' ≠ b) := by
    cases hx with
    | @own k ob k1 k2 k3 k4 k5 k6 =>
      obtain ⟨A, ev, q1, q2, q3⟩ := k1.sound hs
      by_cases hc : (ρ k).2 = 0
      · exact ⟨A, _, (ρ k).1, #[], ev, q1, q2, q3, fun h => absurd hc h, fun h => absurd hc h⟩
      · obtain ⟨cs, e', h1, h2, h3, h4, h5, h6, h7⟩ := hs.mem.obj k ob k2 hc
        refine ⟨A, _, (ρ k).1, cs, ev, q1, q2, q3, fun _ => ⟨⟨e', h1⟩, by rw [← k4]; exact h2, h5, h6, hs.mem.blk k2 hc, fun r j hr hj => ?_⟩, fun _ => ⟨fun k' p hp hc' => ?_, fun k' n' X q b' hX hq hb' e => ?_⟩⟩
        · obtain ⟨u, hu, hru⟩ := h7 r j (by omega) (by rw [k4]; exact hj)
          rw [k6 r j hr hj, k4] at *
          exact ⟨u, hu, hru⟩
        · obtain ⟨g1, g2⟩ := filter_lookup hp
          exact hs.mem.inj k' k p ob g2 k2 g1 hc' hc
        · obtain ⟨g1, g2⟩ := filter_lookup hX
          exact ((hs.mem.tree k' n' X g2 q hq).2 b' hb').2.2.2.1 k ob k2 hc e.symm
    | nil k1 k2 =>
      have ev : a.eval x = .slice none 0 0 := k1.sound hs
      exact ⟨none, 0, 0, #[], by rw [ev, k2], by omega, by decide, .inr ⟨rfl, rfl⟩, fun h => absurd rfl h, fun h => absurd rfl h⟩
  have hHsub : ∀ {k p}, Hn.lookup k = some p → σ.heap.lookup k = some p := fun hk => hx.sub hk
  have fin : ∀ (v : Value) (w' : World) (ρ' : Rho), (Builtin.append_ #[t, t2] o.type #[a.eval x, a.eval y]).run P w = .ok v w' → St N w0 ρ' S ⟨σ.env, (id, .arr i.size (n + m) h) :: Hn⟩ a w' → R ρ' w' S (.own id i.size (n + m)) v → o.wp P a w K Q' := by
    intro v w' ρ' hrun hst hv
    have hr2 : (execOp a.eval o).run P w = .ok (.value v) w' := by
      generalize a.eval = ev at hrun
      simp only [execOp, ho, resolve, Sem.run_bind, Sem.run_pure, Result.andThen_ok, invoke, builtin, List.map_toArray, List.map_cons, List.map_nil, Array.empty_append, hrun]
    unfold Oper.wp
    rw [hr2]
    simp only [Oper.upon, hd]
    exact hK _ _ (hk ρ' S _ _ Q' hQ (hst.put hN hv))
  by_cases hroom : n + m ≤ c
  · -- there is room
    by_cases hc0 : c = 0
    · -- nothing at all
      obtain ⟨rfl, rfl⟩ : n = 0 ∧ m = 0 := by omega
      have hnews0 : news = [] := List.eq_nil_of_length_eq_zero (by rw [hnl]; omega)
      subst hnews0
      subst hc0
      obtain ⟨ρ', e1, hs'⟩ := hs.phantomAt b hf i.size h
      have hrun : (Builtin.append_ #[t, t2] o.type #[a.eval x, a.eval y]).run P w = .ok (.slice A 0 0) w := by
        rw [ev]
        have hcl := hsrc.cells
        have hln := hsrc.len w
        generalize a.eval y = vy at hcl hln
        rcases hsrc.kind with ⟨e', hk⟩ | hk <;> rcases hA with rfl | ⟨rfl, _⟩ <;> simp [Builtin.append_, run_underlying hu, run_underlying hk, sizeOf, typeInfo, hi, hln, hcl, storeCells]
      refine fin _ w ρ' hrun ⟨hs'.size, hs'.defers, hs'.below, hs'.mem.le' fun k p hp => ?_, hs'.env⟩ ?_
      · rcases lookup_put hp with ⟨rfl, rfl⟩ | ⟨hne, hp⟩
        · exact HLe.refl (by simp [Sig.set])
        · exact HLe.refl (by simp only [Sig.set]; rw [List.lookup_cons, show (k == id) = false by simpa using hne]; exact hHsub hp)
      · show ∃ B, Value.slice A 0 0 = .slice B 0 (ρ' id).2 ∧ 0 ≤ (ρ' id).2 ∧ (ρ' id).2 ≤ maxLen ∧ (B = some ⟨(ρ' id).1, 0, none⟩ ∨ (B = none ∧ (ρ' id).2 = 0))
        rw [e1]
        exact ⟨A, rfl, Nat.le_refl _, Nat.zero_le _, hA⟩
    · obtain ⟨⟨e', hblk⟩, hcsz, hbb, hbS, hblt, hcells⟩ := hold hc0
      obtain ⟨hn1, hn2⟩ := hHn hc0
      have hA' : A = some ⟨b, 0, none⟩ := by rcases hA with h | ⟨_, h⟩; (· exact h); (· exact absurd h hc0)
      subst hA'
      have hin : ∀ j, j < news.length → n * i.size + j < cs.size := fun j hj => by
        rw [hnl] at hj
        have : (n + m) * i.size ≤ c * i.size := Nat.mul_le_mul_right _ hroom
        rw [Nat.add_mul] at this
        omega
      have hrun := run_append_room_src (P := P) w t t2 o.type e i hu hi b 0 n c (a.eval y) m news hsrc hroom (fun j hj => by
          have := hin j hj
          simp [World.cell?, hblk, this]) (fun j hj => by simp [World.frozen?, hblk])
      simp only [Nat.zero_add] at hrun
      obtain ⟨hb1, hb2⟩ := below_setCells hbb (vs := news) (o := n * i.size) (w := w)
      obtain ⟨cs', g1, g2, g3, g4⟩ := heap_setCells_at (vs := news) (o := n * i.size) hblk
      have hother : ∀ k, k ≠ b → (w.setCells b (n * i.size) news).heap[k]? = w.heap[k]? := fun k hk => heap_setCells_other hk
      have hsame : Same S w S (w.setCells b (n * i.size) news) := ⟨fun _ h => h, fun k hk => hother k fun e => hbS (e ▸ hk)⟩
      refine fin _ _ ⟨fun k => if k = id then (b, c) else ρ k, ρ.base, ρ.tv, ρ.tb, ρ.tn⟩ (by rw [ev]; exact hrun) ?_ ?_
      · have hρ : ∀ k, k ≠ id → (if k = id then (b, c) else ρ k) = ρ k := fun k hk => if_neg hk
        have hρA : ∀ k, k ≠ id → Rho.At ρ ⟨fun k => if k = id then (b, c) else ρ k, ρ.base, ρ.tv, ρ.tb, ρ.tn⟩ k := fun k hk => ⟨hρ k hk, rfl, rfl, rfl⟩
        have hkeep : ∀ {x : AV} {u : Value}, x.no id = true → R ρ w S x u → R ⟨fun k => if k = id then (b, c) else ρ k, ρ.base, ρ.tv, ρ.tb, ρ.tn⟩ (w.setCells b (n * i.size) news) S x u := fun {x u} hx hr => hr.keep (ρ := ρ) hsame ⟨rfl, fun q => by
          by_cases hq : q = id
          · subst hq; exact .inr hx
          · exact .inl (hρA q hq)⟩
        refine ⟨hs.size, hs.defers, ⟨hs.below.old.trans hb1, hs.below.same.trans hsame, fun k hk => (hs.below.ids k hk).trans (hρA k (fun e => by have := hf.small; omega))⟩, ⟨hs.mem.base, by rw [hb2]; exact hs.mem.low, fun k hk => by rw [hb2]; exact hs.mem.lt k hk, ?_, ?_, ?_, ?_⟩, fun t s ht => (hs.env t s ht).keep (ρ := ρ) hsame ⟨rfl, fun q => by
          by_cases hq : q = id
          · subst hq; exact .inr (List.all_eq_true.1 hf.env _ (lookup_mem ht))
          · exact .inl (hρA q hq)⟩⟩
        · intro k p hp
          rcases lookup_put hp with ⟨rfl, rfl⟩ | ⟨hne, hp⟩
          · simpa [AObj.n] using hroom
          · simp only [hρ k hne]; exact hs.mem.cap k p (hHsub hp)
        · intro k p hp hc
          rcases lookup_put hp with ⟨rfl, rfl⟩ | ⟨hne, hp⟩
          · simp only [if_true]
            refine ⟨cs', e', g1, by rw [g2]; exact hcsz, hroom, hcm, hbb, hbS, fun r j hr hj => ?_⟩
            have hr : r < n + m := hr
            have hj : j < i.size := hj
            show ∃ u, cs'[r * i.size + j]? = some u ∧ R _ _ S (h r j) u
            have hnn := hno r j
            rw [hh r j hr hj] at hnn ⊢
            by_cases hrn : r < n
            · rw [if_pos hrn] at hnn ⊢
              obtain ⟨u, hu1, hr1⟩ := hcells r j hrn hj
              exact ⟨u, by rw [g3 _ (cell_lt hrn hj)]; exact hu1, hkeep hnn hr1⟩
            · rw [if_neg hrn] at hnn ⊢
              obtain ⟨u, hu1, hr1⟩ := hnews (r - n) j (by omega) hj
              have hq : n * i.size + ((r - n) * i.size + j) = r * i.size + j := by
                rw [← Nat.add_assoc, ← Nat.add_mul]
                rw [show n + (r - n) = r by omega]
              have := g4 _ u hu1 (hin _ (List.getElem?_eq_some_iff.1 hu1).1)
              rw [hq] at this
              exact ⟨u, this, hkeep hnn hr1⟩
          · obtain ⟨_, hno'⟩ := hf.heap.get (hHsub hp)
            simp only [hρ k hne] at hc ⊢
            obtain ⟨cs2, e2, q1, q2, q3, q4, q5, q6, q7⟩ := hs.mem.obj k p (hHsub hp) hc
            refine ⟨cs2, e2, by rw [hother _ (hn1 k p hp hc)]; exact q1, q2, q3, q4, q5, q6, fun r j hr hj => ?_⟩
            obtain ⟨u, hu1, hr1⟩ := q7 r j hr hj
            exact ⟨u, hu1, hkeep (hno'.at_ r j) hr1⟩
        · intro k k' p p' hp hp' hne hc hc'
          rcases lookup_put hp with ⟨rfl, rfl⟩ | ⟨q1, hp2⟩ <;> rcases lookup_put hp' with ⟨rfl, rfl⟩ | ⟨q2, hp2'⟩
          · exact absurd rfl hne
          · simp only [hρ k' q2] at hc'
            simp only [if_true, hρ k' q2]
            exact fun e => hn1 k' p' hp2' hc' e.symm
          · simp only [hρ k q1] at hc
            simp only [if_true, hρ k q1]
            exact hn1 k p hp2 hc
          · simp only [hρ k q1] at hc
            simp only [hρ k' q2] at hc'
            simp only [hρ k q1, hρ k' q2]
            exact hs.mem.inj k k' p p' (hHsub hp2) (hHsub hp2') hne hc hc'
        · have hmn : MemOk w0.base ρ S Hn w := hs.mem.le' fun k p hp => HLe.refl (hHsub hp)
          refine hmn.treeOf (Nat.le_refl _) (fun k n' X hX => ?_) (fun k n' X q b' hX hq hb' => ?_) (fun k p hp hc => ?_)
          · rcases lookup_put hX with ⟨rfl, e⟩ | ⟨hne, hX⟩
            · cases e
            · exact ⟨X, hX, fun _ _ => rfl, rfl, rfl, rfl⟩
          · obtain ⟨q1, q2, q3, _⟩ := (hmn.tree k n' X hX q hq).2 b' hb'
            exact ⟨hother b' (hn2 k n' X q b' hX hq hb'), by rw [hb2]; exact q2, q3⟩
          · rcases lookup_put hp with ⟨rfl, rfl⟩ | ⟨hne, hp⟩
            · refine .inr fun k2 n' X q hX hq hb' => ?_
              simp only [if_true] at hb'
              exact hn2 k2 n' X q b hX hq hb' rfl
            · exact .inl ⟨p, hp, hρ k hne⟩
      · show ∃ A, Value.slice _ _ _ = .slice A (n + m) (if id = id then (b, c) else ρ id).2 ∧ _
        simp only [if_true]
        exact ⟨_, rfl, hroom, hcm, .inl rfl⟩
  · -- a new row
    have hold2 : ∃ olds : List Value, (Builtin.firstCells i.size n (.slice A n c)).run P w.drew = .ok olds.toArray w.drew ∧ olds.length = n * i.size ∧ ∀ k j, k < n → j < i.size → ∃ u, olds[k * i.size + j]? = some u ∧ R ρ w S (f k j) u := by
      by_cases hn0 : n = 0
      · subst hn0
        refine ⟨[], ?_, by simp, fun k j hk => absurd hk (by omega)⟩
        rcases hA with rfl | ⟨rfl, _⟩
        · exact run_firstCells_some w.drew i.size 0 _ 0 c [] (by simp) (fun j u hj => by simp at hj)
        · exact run_firstCells_none w.drew i.size 0 0 c
      · have hc0 : c ≠ 0 := by omega
        obtain ⟨⟨e', hblk⟩, hcsz, hbb, hbS, hblt, hcells⟩ := hold hc0
        have hA' : A = some ⟨b, 0, none⟩ := by rcases hA with h | ⟨_, h⟩; (· exact h); (· exact absurd h hc0)
        subst hA'
        have hle : n * i.size ≤ cs.size := by rw [hcsz]; exact Nat.mul_le_mul_right _ hnc
        refine ⟨cs.toList.take (n * i.size), run_firstCells_some w.drew i.size n _ n c _ (by simp; omega) (fun j u hj => ?_), by simp; omega, fun k j hk hj => ?_⟩
        · rw [List.getElem?_take] at hj
          split at hj
          · rw [Addr.add_lit]
            have : cs[j]? = some u := by simpa using hj
            show w.cell? ⟨b, 0 + j, none⟩ = some u
            simp [World.cell?, hblk, this]
          · cases hj
        · obtain ⟨u, hu1, hr1⟩ := hcells k j hk hj
          refine ⟨u, ?_, hr1⟩
          rw [List.getElem?_take, if_pos (cell_lt hk hj)]
          simpa using hu1
    obtain ⟨olds, ho1, ho2, ho3⟩ := hold2
    have hrun := run_append_grow_src (P := P) w t t2 o.type e i z hu hi hz0 A n c olds ho1 (a.eval y) m news hsrc (by omega) (by omega) (growslice_fits (by omega) hlim)
    have hsw := hs.world (w' := w.drew) ((Below.refl _ _).drew)
    have hcapge := grownCap_ge w (n + m) c e
    have hcaple := grownCap_le_maxLen w (n + m) c e (by unfold maxLen; omega)
    generalize hcap : grownCap w (n + m) c e = cap' at hrun hcapge hcaple
    have hcsz : ((olds ++ news).toArray ++ Builtin.zeroCells z.cells (cap' - (n + m))).size = cap' * i.size := by
      rw [Array.size_append, size_zeroCells, hzc]
      simp only [List.size_toArray, List.length_append, ho2, hnl]
      rw [← Nat.add_mul, ← Nat.add_mul]
      congr 1; omega
    obtain ⟨ρ', e1, e2, e3, hs'⟩ := hsw.newA hf (o := .arr i.size (n + m) h) (cs := (olds ++ news).toArray ++ Builtin.zeroCells z.cells (cap' - (n + m))) (e := e) (cap := cap') rfl hcsz hcapge hcaple (fun r j hr hj => by
      have hr : r < n + m := hr
      have hj : j < i.size := hj
      show ∃ u, ((olds ++ news).toArray ++ Builtin.zeroCells z.cells (cap' - (n + m)))[r * i.size + j]? = some u ∧ R ρ w.drew S (h r j) u
      have hlt : r * i.size + j < (olds ++ news).length := by
        rw [List.length_append, ho2, hnl, ← Nat.add_mul]; exact cell_lt hr hj
      rw [Array.getElem?_append_left (by simpa using hlt), hh r j hr hj]
      have hkeep : ∀ {x : AV} {u : Value}, R ρ w S x u → R ρ w.drew S x u := fun hr => hr.keep (hs.mem.same ((Below.refl _ _).drew)) (Rn.refl _ _)
      by_cases hrn : r < n
      · rw [if_pos hrn]
        obtain ⟨u, hu1, hr1⟩ := ho3 r j hrn hj
        refine ⟨u, ?_, hkeep hr1⟩
        simp only [List.getElem?_toArray]
        rw [List.getElem?_append_left (by rw [ho2]; exact cell_lt hrn hj)]; exact hu1
      · rw [if_neg hrn]
        obtain ⟨u, hu1, hr1⟩ := hnews (r - n) j (by omega) hj
        refine ⟨u, ?_, hkeep hr1⟩
        have hq : n * i.size + ((r - n) * i.size + j) = r * i.size + j := by
          rw [← Nat.add_assoc, ← Nat.add_mul]
          rw [show n + (r - n) = r by omega]
        simp only [List.getElem?_toArray]
        rw [List.getElem?_append_right (by rw [ho2]; omega), ho2, show r * i.size + j - n * i.size = (r - n) * i.size + j by omega]; exact hu1) hno
    refine fin _ _ ρ' (by rw [ev]; exact hrun) ?_ ?_
    · refine ⟨hs'.size, hs'.defers, hs'.below, hs'.mem.le' fun k p hp => ?_, hs'.env⟩
      rcases lookup_put hp with ⟨rfl, rfl⟩ | ⟨hne, hp⟩
      · exact HLe.refl (by simp [Sig.set])
      · exact HLe.refl (by simp only [Sig.set]; rw [List.lookup_cons, show (k == id) = false by simpa using hne]; exact hHsub hp)
    · show ∃ A, Value.slice _ _ _ = .slice A (n + m) (ρ' id).2 ∧ n + m ≤ (ρ' id).2 ∧ (ρ' id).2 ≤ maxLen ∧ (A = some ⟨(ρ' id).1, 0, none⟩ ∨ (A = none ∧ (ρ' id).2 = 0))
      rw [e1]
      exact ⟨_, rfl, hcapge, hcaple, .inl rfl⟩
end
end Go.Proofs.YtmfkmifkkplidaaDoor


/-
  A calculus for walks, part 24: slice literals of one element; loops whose objects are renamed.
-/
namespace Go.Proofs.YtmfkmifkkplidaaDoor
open Go.ChangeShapes Go.WideShapes Go.ChangeAt Go.RowKit Go.BigFrame Go.Deep
set_option linter.unusedVariables false

set_option linter.unusedSimpArgs false
section
variable {P : Program} {N : Nat} {w0 : Start} {σ : Sig} {ops : Array Oper} {rest : List Oper} {o : Oper} {Q : Sig → Prop}
end
/-! Renaming. -/
def AObj.ren (g : Nat → Nat) : AObj → AObj
  | .cells l => .cells (l.map (AV.ren g))
  | .arr sz n f => .arr sz n fun i j => (f i j).ren g
  | .trees n X => .trees n X
def Sig.ren (σ : Sig) (g : Nat → Nat) : Sig := ⟨σ.env.map fun p => (p.1, p.2.ren g), σ.heap.map fun p => (g p.1, p.2.ren g)⟩
theorem AObj.ren_f {g : Nat → Nat} (o : AObj) (i j : Nat) : (o.ren g).f i j = (o.f i j).ren g := by
  cases o with
  | cells l =>
    show (l.map (AV.ren g)).getD j (.con undef) = (l.getD j (.con undef)).ren g
    rw [List.getD_eq_getElem?_getD, List.getD_eq_getElem?_getD, List.getElem?_map]
    cases l[j]? <;> rfl
  | arr _ _ _ => rfl
  | trees _ _ => rfl
theorem AObj.ren_n {g : Nat → Nat} (o : AObj) : (o.ren g).n = o.n := by cases o <;> rfl
theorem AObj.ren_sz {g : Nat → Nat} (o : AObj) : (o.ren g).sz = o.sz := by
  cases o with
  | cells l => simp [AObj.ren, AObj.sz]
  | _ => rfl
theorem ren_lookupH {g : Nat → Nat} (hg : ∀ a b, g a = g b → a = b) : ∀ {H : Heap} {id : Nat} {o : AObj}, H.lookup id = some o → (H.map fun p => (g p.1, p.2.ren g)).lookup (g id) = some (o.ren g)
  | [], _, _, h => by simp at h
  | (k, p) :: H, id, o, h => by
    rcases lookup_put h with ⟨rfl, rfl⟩ | ⟨hne, h⟩
    · simp
    · rw [List.map_cons, List.lookup_cons, show (g id == g k) = false by simpa using fun e => hne (hg _ _ e)]
      exact ren_lookupH hg h
theorem ren_lookupE {g : Nat → Nat} : ∀ {E : Env} {t : Nat} {s : SV}, E.lookup t = some s → (E.map fun p => (p.1, p.2.ren g)).lookup t = some (s.ren g)
  | [], _, _, h => by simp at h
  | (k, p) :: E, t, s, h => by
    rcases lookup_put h with ⟨rfl, rfl⟩ | ⟨hne, h⟩
    · simp
    · rw [List.map_cons, List.lookup_cons, show (t == k) = false by simpa using hne]
      exact ren_lookupE h
theorem St.ren {N : Nat} {w0 : Start} {ρ : Rho} {S : Nat → Prop} {σ : Sig} {a : Act} {w : World} {g : Nat → Nat} (hg : ∀ a b, g a = g b → a = b) (hfix : ∀ id, 1000000 ≤ id → g id = id) (hs : St N w0 ρ S (σ.ren g) a w) : St N w0 (ρ.ren g) S σ a w := by
  have hb : (ρ.ren g).base = ρ.base := rfl
  refine ⟨hs.size, hs.defers, ⟨hs.below.old, hs.below.same, fun id hid => ?_⟩, ⟨hs.mem.base, hs.mem.low, hs.mem.lt, fun id o ho => ?_, fun id o ho hc => ?_, fun id id' o o' ho ho' hne hc hc' => ?_, fun id n X hX => ?_⟩, fun t s ht => RS.ren (hs.env t _ (ren_lookupE ht))⟩
  · have h := hs.below.ids id hid
    have e := hfix id hid
    exact ⟨by show ρ.m (g id) = _; rw [e]; exact h.m, by show ρ.tv (g id) = _; rw [e]; exact h.v, by show ρ.tb (g id) = _; rw [e]; exact h.b, by show ρ.tn (g id) = _; rw [e]; exact h.n⟩
  · have := hs.mem.cap (g id) _ (ren_lookupH hg ho)
    rw [AObj.ren_n] at this; exact this
  · obtain ⟨cs, e, h1, h2, h3, h4, h5, h6, h7⟩ := hs.mem.obj (g id) _ (ren_lookupH hg ho) hc
    rw [AObj.ren_sz] at h2
    rw [AObj.ren_n] at h3
    refine ⟨cs, e, h1, h2, h3, h4, h5, h6, fun i j hi hj => ?_⟩
    obtain ⟨u, hu, hr⟩ := h7 i j (by rw [AObj.ren_n]; exact hi) (by rw [AObj.ren_sz]; exact hj)
    rw [AObj.ren_sz] at hu
    rw [AObj.ren_f] at hr
    exact ⟨u, hu, R.ren hr⟩
  · exact hs.mem.inj (g id) (g id') _ _ (ren_lookupH hg ho) (ren_lookupH hg ho') (fun e => hne (hg _ _ e)) hc hc'
  · obtain ⟨t1, t2⟩ := hs.mem.tree0 (g id) n X (ren_lookupH hg hX)
    refine ⟨t1, fun i hi => ⟨(t2 i hi).1, fun b hb => ?_⟩⟩
    obtain ⟨q1, q2, q3, q4, q5⟩ := (t2 i hi).2 b hb
    exact ⟨q1, q2, q3, fun id' o ho hc => q4 (g id') _ (ren_lookupH hg ho) hc, fun id' n' X' i' hX' hi' hne => q5 (g id') n' X' i' (ren_lookupH hg hX') hi' (fun e => hne ⟨hg _ _ e.1, e.2⟩)⟩
def LoopQR (Q : Exit → Sig → Prop) {ι : Type} (L : ι → Sig) (I : ι → Prop) (μ : ι → Nat) (i : ι) : Exit → Sig → Prop
  | .normal, σ => ∃ i' g, I i' ∧ μ i' < μ i ∧ (∀ a b, g a = g b → a = b) ∧ (∀ id, 1000000 ≤ id → g id = id) ∧ SigLe σ ((L i').ren g)
  | e, σ => Q e σ
def swp (a b k : Nat) : Nat := if k = a then b else if k = b then a else k
/-! Nil, seen as a row of the walk's own. -/
section
variable {P : Program} {N : Nat} {w0 : Start} {σ : Sig} {Q2 : Exit → Sig → Prop} {c : Code}
end
/-! What is kept of a list. -/
def cntP {α : Type} (p : α → Bool) (l : List α) (k : Nat) : Nat := ((l.take k).filter p).length
end Go.Proofs.YtmfkmifkkplidaaDoor


/-
  A calculus for walks, part 25: rows opened and closed, parts of rows, the rest of a row cleared.
-/
namespace Go.Proofs.YtmfkmifkkplidaaDoor
open Go.ChangeShapes Go.WideShapes Go.ChangeAt Go.RowKit Go.BigFrame Go.Deep
set_option linter.unusedVariables false

set_option linter.unusedSimpArgs false
section
variable {P : Program} {N : Nat} {w0 : Start} {σ : Sig} {ops : Array Oper} {rest : List Oper} {o : Oper} {Q : Sig → Prop}
end
section
variable {P : Program} {N : Nat} {w0 : Start} {σ : Sig} {ops : Array Oper} {rest : List Oper} {Q : Sig → Prop}
end
/-! A list of which some are kept, in place. -/
def stF {α : Type} (q : α → Bool) (d : α) (l : List α) : Nat → Nat → α
  | 0, a => l.getD a d
  | j + 1, a => if q (l.getD j d) = true ∧ a = cntP q l j then l.getD j d else stF q d l j a
end Go.Proofs.YtmfkmifkkplidaaDoor


/-
  A calculus for walks, part 26: rows of the walk's own that become trees; three results.
-/
namespace Go.Proofs.YtmfkmifkkplidaaDoor
open Go.ChangeShapes Go.WideShapes Go.ChangeAt Go.RowKit Go.BigFrame Go.Deep
set_option linter.unusedVariables false

set_option linter.unusedSimpArgs false
section
variable {P : Program} {N : Nat} {w0 : Start} {σ : Sig} {ops : Array Oper} {rest : List Oper} {o : Oper} {Q : Sig → Prop}
end
end Go.Proofs.YtmfkmifkkplidaaDoor


/-
  A calculus for walks, part 27: conversions between int and uint64, a shift by one; how strings compare.
-/
namespace Go.Proofs.YtmfkmifkkplidaaDoor
open Go.ChangeShapes Go.WideShapes Go.ChangeAt Go.RowKit Go.BigFrame Go.Deep
set_option linter.unusedVariables false

set_option linter.unusedSimpArgs false
def convB (P : Program) (s t : Nat) (k : IntKind) : Bool := (P.underlying s).isSome && match P.underlying t with | some (.int k') => decide (k' = k) | _ => false
theorem convB_spec {P : Program} {s t : Nat} {k : IntKind} (h : convB P s t k = true) : (P.underlying s).isSome = true ∧ P.underlying t = some (.int k) := by
  unfold convB at h
  rw [Bool.and_eq_true] at h
  refine ⟨h.1, ?_⟩
  have h2 := h.2
  split at h2
  · rename_i k' e; rw [e, of_decide_eq_true h2]
  · cases h2
theorem PureOp.conv {P : Program} {σ : Sig} {o : Oper} {s t : TypeId} {x : Operand} {k k' : IntKind} {a b : Int} (ho : o.op = .convert s t x) (hx : Kn σ x (.one (.int k a))) (hT : convB P s t k' = true) (hb : k'.wrap a = b) : PureOp P o σ (.one (.int k' b)) := by
  refine PureOp.val fun N w0 ρ S ac w hs => ?_
  have e1 : ac.eval x = .int k a := hx.sound hs
  obtain ⟨h1, h2⟩ := convB_spec hT
  have hk : P.intKind t = k' := by simp only [Program.intKind, h2]
  refine ⟨_, rfl, fun w' _ => ?_⟩
  generalize ac.eval = ev at e1 ⊢
  simp only [execOp, ho, e1, Sem.run_bind, Result.andThen_ok]
  have := run_convert_int (P := P) w' s t k a h1 (by rw [h2, hk])
  rw [this, hk, hb]; rfl
/-- The order of two strings as Go's Compare tells it. -/
def cmpS (a b : ByteArray) : Int := Lib.compareBytes a.data.toList b.data.toList
end Go.Proofs.YtmfkmifkkplidaaDoor


/-
  A calculus for walks, part 28: the tail of a row of the walk's own (a queue).
-/
namespace Go.Proofs.YtmfkmifkkplidaaDoor
open Go.ChangeShapes Go.WideShapes Go.ChangeAt Go.RowKit Go.BigFrame Go.Deep
set_option linter.unusedVariables false

set_option linter.unusedSimpArgs false
section
variable {P : Program} {σ : Sig} {o : Oper}
end
section
variable {P : Program} {N : Nat} {w0 : Start} {σ : Sig} {ops : Array Oper} {rest : List Oper} {o : Oper} {Q : Sig → Prop}
end
end Go.Proofs.YtmfkmifkkplidaaDoor


/-
  A calculus for walks, part 29: parts of data, rows of two numbers, a row of rows opened, slots of fresh data.
-/
namespace Go.Proofs.YtmfkmifkkplidaaDoor
open Go.ChangeShapes Go.WideShapes Go.ChangeAt Go.RowKit Go.BigFrame Go.Deep
set_option linter.unusedVariables false

set_option linter.unusedSimpArgs false
section
variable {P : Program} {σ : Sig} {o : Oper}
end
section
variable {P : Program} {N : Nat} {w0 : Start} {σ : Sig} {ops : Array Oper} {rest : List Oper} {o : Oper} {Q : Sig → Prop}
end
end Go.Proofs.YtmfkmifkkplidaaDoor


/-
  A calculus for walks, part 30: a row of one byte and its string; quotients; negation.
-/
namespace Go.Proofs.YtmfkmifkkplidaaDoor
open Go.ChangeShapes Go.WideShapes Go.ChangeAt Go.RowKit Go.BigFrame Go.Deep
set_option linter.unusedVariables false

set_option linter.unusedSimpArgs false
section
variable {P : Program} {σ : Sig} {o : Oper}
/-- A row of one byte. -/
theorem FreshOp.byte1 {t e : Nat} {x : Operand} {a1 : Int} (ho : o.op = .buildSlice t 1 #[(0, x)]) (hx : Kn σ x (.one (.int .u8 a1)))
    (ht : P.underlying t = some (.slice e)) (hz : (P.info? e).map (fun i => (i.size, i.zero)) = some (1, some (.int .u8 0))) : FreshOp P o σ (.one (.frs (.lst 1 1 fun _ _ => .int .u8 a1))) := by
  constructor
  intro N w0 ρ S a w K Q' hs hK
  have e1 : a.eval x = .int .u8 a1 := hx.sound hs
  obtain ⟨i, hi, hi2⟩ := Option.map_eq_some_iff.1 hz
  simp only [Prod.mk.injEq] at hi2
  obtain ⟨z1, z2⟩ := hi2
  have er : (execOp a.eval o).run P w = .ok (.value (.slice (some ⟨w.heap.size, 0, none⟩) 1 1)) (w.alloc (.cells #[.int .u8 a1] e)) := by
    generalize a.eval = ev at e1 ⊢
    simp [execOp, ho, Instr.buildSlice, run_underlying ht, sizeOf, typeInfo, hi, z1, z2, zeroValue, e1, go_sem]
  unfold Oper.wp
  rw [er]
  have hb : Below w.heap.size w (w.alloc (.cells #[.int .u8 a1] e)) := (Below.refl _ _).alloc (Nat.le_refl _) _
  obtain ⟨g1, g2⟩ := hs.grow hb
  have hlt : ρ.base ≤ w.heap.size := by rw [hs.mem.base]; exact hs.mem.low
  refine hK _ _ _ g1 hb (fun b h => h.imp (fun h => h) (fun h => h.1)) g2 ⟨_, _, rfl, Nat.le_refl _, by decide, (fun h => by cases h), fun j hj => ⟨w.heap.size, 0, rfl, ⟨.inr ⟨Nat.le_refl _, by rw [World.heap_alloc, Array.size_push]; omega⟩, hlt⟩, fun q hq => ?_⟩⟩
  obtain rfl : q = 0 := by omega
  obtain rfl : j = 0 := by omega
  exact ⟨.int .u8 a1, by simp [World.cell?, World.heap_alloc], rfl⟩
/-- The string of a row of one byte. -/
theorem PureOp.byteStr {s t e : Nat} {x : Operand} {f : Nat → Nat → AV} {c : UInt8} (ho : o.op = .convert s t x) (hx : Kn σ x (.one (.lst 1 1 f))) (hf : f 0 0 = .int .u8 (c.toNat : Int))
    (hs : P.underlying s = some (.slice e)) (he : P.underlying e = some (.int .u8)) (hd : P.underlying t = some .string) : PureOp P o σ (.one (.str ⟨#[c]⟩)) := by
  refine PureOp.val fun N w0 ρ S ac w hst => ?_
  obtain ⟨A, cc, e1, h1, h2, h3, h4⟩ := hx.sound hst
  obtain ⟨b, off, hA, hS, hc⟩ := h4 0 (by omega)
  obtain ⟨u, hu, hr⟩ := hc 0 (by omega)
  rw [hf] at hr
  subst hA
  refine ⟨.string ⟨#[c]⟩, ⟨rfl, by have h1 : (⟨#[c]⟩ : ByteArray).size = 1 := rfl
                                   unfold maxLen; omega⟩, fun w' hb => ?_⟩
  have hu' := ((hst.mem.same hb).cell hS).trans hu
  have hr' : u = .int .u8 (c.toNat : Int) := hr
  subst hr'
  have h := run_convert_bytes_back (P := P) w' s t e ⟨b, off, none⟩ cc [c] hs he hd (fun j hj => by
    have hj0 : j = 0 := by simpa using hj
    subst hj0
    rw [show (⟨b, off, none⟩ : Addr).add 0 = ⟨b, off, none⟩ from rfl]
    simpa using hu')
  generalize ac.eval = ev at e1 ⊢
  simp only [execOp, ho, e1, Sem.run_bind]
  simp only [List.length_singleton] at h
  rw [h]
  rfl
theorem PureOp.quo {t t' : TypeId} {x y : Operand} {a b : Nat} {c : Int} (ho : o.op = .binOp .quo t x y t') (hx : Kn σ x (.one (.int .i64 (a : Int)))) (hy : Kn σ y (.one (.int .i64 c))) (hc : c = (b : Int)) (hb : 0 < b) (ha : a ≤ 9223372036854775807) : PureOp P o σ (.one (.int .i64 ((a / b : Nat) : Int))) := by
  subst hc
  refine PureOp.val fun N w0 ρ S ac w hs => ?_
  have e1 : ac.eval x = .int .i64 (a : Int) := hx.sound hs
  have e2 : ac.eval y = .int .i64 (b : Int) := hy.sound hs
  refine ⟨_, rfl, fun w' _ => ?_⟩
  generalize ac.eval = ev at e1 e2 ⊢
  have hq : a / b ≤ a := Nat.div_le_self a b
  have hw : ((a : Int).tdiv (b : Int)) = ((a / b : Nat) : Int) := by rw [Int.tdiv_eq_ediv_of_nonneg (by omega)]; rfl
  have hwr : IntKind.i64.wrap ((a : Int).tdiv (b : Int)) = ((a / b : Nat) : Int) := by
    rw [hw]
    generalize a / b = q at hq
    exact wrap_id (by omega) (by omega)
  simp only [execOp, ho, e1, e2, Sem.run_bind, eqGuard_int, Result.andThen_ok]
  have hb0 : b ≠ 0 := by omega
  have hwr2 : IntKind.i64.wrap ((a : Int) / (b : Int)) = (a : Int) / (b : Int) := by
    rw [hw] at hwr
    rw [← Int.natCast_ediv]; exact hwr
  simp [binOp, Op.intArith, go_sem, hb0, hwr2]
theorem PureOp.neg {t : TypeId} {x : Operand} {a b : Int} (ho : o.op = .unOp .neg t x) (hx : Kn σ x (.one (.int .i64 a))) (hb : IntKind.i64.wrap (-a) = b) : PureOp P o σ (.one (.int .i64 b)) := by
  subst hb
  refine PureOp.val fun N w0 ρ S ac w hs => ?_
  have e1 : ac.eval x = .int .i64 a := hx.sound hs
  refine ⟨_, rfl, fun w' _ => ?_⟩
  generalize ac.eval = ev at e1 ⊢
  simp [execOp, ho, e1, Op.unary, go_sem]
end
end Go.Proofs.YtmfkmifkkplidaaDoor


/-
  A calculus for walks, part 16: strings put together.
-/
namespace Go.Proofs.YtmfkmifkkplidaaDoor
open Go.ChangeShapes Go.WideShapes Go.ChangeAt Go.RowKit Go.BigFrame Go.Deep
set_option linter.unusedVariables false

set_option linter.unusedSimpArgs false
theorem PureOp.strAdd {P : Program} {σ : Sig} {o : Oper} {t t' : TypeId} {x y : Operand} {a b : ByteArray} (ho : o.op = .binOp .add t x y t') (hx : Kn σ x (.one (.str a))) (hy : Kn σ y (.one (.str b))) (hs : a.size + b.size ≤ 1000000000) : PureOp P o σ (.one (.str (a ++ b))) := by
  refine PureOp.val fun N w0 ρ S ac w hst => ?_
  have e1 : ac.eval x = .string a := (hx.sound hst).1
  have e2 : ac.eval y = .string b := (hy.sound hst).1
  refine ⟨.string (a ++ b), ⟨rfl, by rw [ByteArray.size_append]; unfold maxLen; omega⟩, fun w' _ => ?_⟩
  generalize ac.eval = ev at e1 e2 ⊢
  have hm : ¬ ((a.size + b.size : Nat) : Int) > IntKind.i64.max := by
    have : IntKind.i64.max = 9223372036854775807 := by decide
    rw [this]; omega
  simp only [execOp, ho, e1, e2, Sem.run_bind, eqGuard, Result.andThen_ok, binOp, Op.stringOp]
  rw [if_neg hm]
  simp [go_sem]
end Go.Proofs.YtmfkmifkkplidaaDoor


/-
  Decimal numerals: the reference's own, and strconv.Itoa.
-/
namespace Go.Proofs.YtmfkmifkkplidaaDoor
open Go.ChangeShapes Go.WideShapes Go.ChangeAt Go.RowKit Go.BigFrame Go.Deep
set_option linter.unusedVariables false
set_option linter.unusedSimpArgs false
theorem vtx_ca_27 : callB Tryd.prog 27 = true := by kernel_rfl
theorem vtx_cv_3_5_.u8 : convB Tryd.prog 3 5 .u8 = true := by kernel_rfl
def ren_n171 : Shelf.Ren where
  f := fun x => match x with | 171 => 31 | 243 => 40 | 246 => 45 | 283 => 49 | 284 => 50 | 285 => 51 | 286 => 52 | 129 => 54 | 317 => 53 | 318 => 55 | 319 => 56 | 320 => 57 | 337 => 58 | 338 => 59 | n => n
  t := fun x => match x with | 3 => 3 | 9 => 9 | 2 => 2 | 4 => 4 | 171 => 83 | 0 => 0 | 53 => 84 | 37 => 64 | 5 => 5 | 173 => 87 | 212 => 91 | 51 => 92 | 20 => 20 | 213 => 93 | 46 => 95 | 232 => 98 | 233 => 99 | n => n
  g := fun x => match x with | 17 => 0 | 18 => 1 | 19 => 2 | n => n
theorem lays_n171 : Lays.n171 Tryd.prog ren_n171 where
  mixed := by kernel_rfl
  f129 := by kernel_rfl
  f171 := by kernel_rfl
  f243 := by kernel_rfl
  f246 := by kernel_rfl
  f283 := by kernel_rfl
  f284 := by kernel_rfl
  f285 := by kernel_rfl
  f286 := by kernel_rfl
  f317 := by kernel_rfl
  f318 := by kernel_rfl
  f319 := by kernel_rfl
  f320 := by kernel_rfl
  f337 := by kernel_rfl
  f338 := by kernel_rfl
  t0 := Tryd.underlying0
  a0 := Tryd.isAgg0
  z0 := Tryd.sizeOf0
  v0 := Tryd.zeroValue0
  t2 := Tryd.underlying2
  a2 := Tryd.isAgg2
  z2 := Tryd.sizeOf2
  v2 := Tryd.zeroValue2
  t3 := Tryd.underlying3
  a3 := Tryd.isAgg3
  z3 := Tryd.sizeOf3
  v3 := Tryd.zeroValue3
  t4 := Tryd.underlying4
  a4 := Tryd.isAgg4
  z4 := Tryd.sizeOf4
  v4 := Tryd.zeroValue4
  t5 := Tryd.underlying5
  a5 := Tryd.isAgg5
  z5 := Tryd.sizeOf5
  v5 := Tryd.zeroValue5
  t9 := Tryd.underlying9
  a9 := Tryd.isAgg9
  z9 := Tryd.sizeOf9
  v9 := Tryd.zeroValue9
  t20 := Tryd.underlying20
  a20 := Tryd.isAgg20
  z20 := Tryd.sizeOf20
  v20 := Tryd.zeroValue20
  t37 := Tryd.underlying64
  a37 := Tryd.isAgg64
  z37 := Tryd.sizeOf64
  v37 := Tryd.zeroValue64
  t46 := Tryd.underlying95
  a46 := Tryd.isAgg95
  z46 := Tryd.sizeOf95
  v46 := Tryd.zeroValue95
  t51 := Tryd.underlying92
  a51 := Tryd.isAgg92
  z51 := Tryd.sizeOf92
  v51 := Tryd.zeroValue92
  t53 := Tryd.underlying84
  a53 := Tryd.isAgg84
  z53 := Tryd.sizeOf84
  v53 := Tryd.zeroValue84
  t171 := Tryd.underlying83
  a171 := Tryd.isAgg83
  z171 := Tryd.sizeOf83
  v171 := Tryd.zeroValue83
  t173 := Tryd.underlying87
  a173 := Tryd.isAgg87
  z173 := Tryd.sizeOf87
  v173 := Tryd.zeroValue87
  t212 := Tryd.underlying91
  a212 := Tryd.isAgg91
  z212 := Tryd.sizeOf91
  v212 := Tryd.zeroValue91
  t213 := Tryd.underlying93
  a213 := Tryd.isAgg93
  z213 := Tryd.sizeOf93
  t232 := Tryd.underlying98
  a232 := Tryd.isAgg98
  z232 := Tryd.sizeOf98
  v232 := Tryd.zeroValue98
  t233 := Tryd.underlying99
  a233 := Tryd.isAgg99
  z233 := Tryd.sizeOf99
  v233 := Tryd.zeroValue99
  g17 := by kernel_rfl
  g18 := by kernel_rfl
  g19 := by kernel_rfl
theorem laysM_n171 : LaysM.n171 Tryd.prog ren_n171 := { lays_n171 with
  i0 := by kernel_rfl,
  i2 := by kernel_rfl,
  i3 := by kernel_rfl,
  i4 := by kernel_rfl,
  i5 := by kernel_rfl,
  i9 := by kernel_rfl,
  i20 := by kernel_rfl,
  i37 := by kernel_rfl,
  i46 := by kernel_rfl,
  i51 := by kernel_rfl,
  i53 := by kernel_rfl,
  i171 := by kernel_rfl,
  i173 := by kernel_rfl,
  i212 := by kernel_rfl,
  i232 := by kernel_rfl,
  i233 := by kernel_rfl,
  m17 := by kernel_rfl,
  m18 := by kernel_rfl,
  m19 := by kernel_rfl }

/-- The decimal numeral of a number. -/
def itoaB (z : Int) : ByteArray := ⟨(Lib.itoa z).toArray⟩
theorem itoaB_size {z : Int} (h0 : -9223372036854775808 ≤ z) (h1 : z ≤ 9223372036854775807) : (itoaB z).size ≤ 21 := by
  have := Lib.itoa_length_le z h0 h1
  simpa [itoaB, ByteArray.size] using this
theorem itoaB_plain {z : Int} (h0 : -9223372036854775808 ≤ z) (h1 : z ≤ 9223372036854775807) : (itoaB z).size ≤ maxLen := Nat.le_trans (itoaB_size h0 h1) (by decide)
theorem itoaB_small {n : Nat} (h : n < 10) : itoaB (n : Int) = ⟨#[UInt8.ofNat (48 + n)]⟩ := by
  unfold itoaB; rw [Lib.itoa_nonneg, Lib.decDigits_one h]
theorem itoaB_step {n : Nat} (h : ¬ n < 10) : itoaB (n : Int) = itoaB ((n / 10 : Nat) : Int) ++ ⟨#[UInt8.ofNat (48 + n % 10)]⟩ := by
  unfold itoaB
  rw [Lib.itoa_nonneg, Lib.itoa_nonneg, Lib.decDigits, dif_neg h]
  apply ByteArray.ext
  simp
theorem itoaB_neg {z : Int} (h : z < 0) : (⟨#[45]⟩ : ByteArray) ++ itoaB (-z) = itoaB z := by
  obtain ⟨u, rfl⟩ : ∃ u : Nat, z = -(u : Int) := ⟨z.natAbs, by omega⟩
  unfold itoaB
  rw [Lib.itoa_neg u (by omega), Int.neg_neg, Lib.itoa_nonneg]
  apply ByteArray.ext
  simp
theorem dig_byte {n : Nat} (h : n < 10) : ((UInt8.ofNat (48 + n)).toNat : Int) = 48 + (n : Int) := by
  rw [UInt8.toNat_ofNat']; omega
/-- strconv.Itoa, by the library's own contract. -/
theorem v_Itoa (z : Int) (h0 : -9223372036854775808 ≤ z) (h1 : z ≤ 9223372036854775807) : Fn Tryd.prog 31 [.one (.int .i64 z)] (.one (.str (itoaB z))) := by
  intro w S vs hS hd
  obtain ⟨v, vs1, rfl, e1, h3⟩ := hd
  obtain rfl : vs1 = [] := h3
  obtain rfl : v = .int .i64 z := e1
  refine (Any.strconv_Itoa laysM_n171 z h0 h1 w hS.pre.tab).mono fun e w' ⟨he, k, os, hw⟩ => ⟨he, ?_⟩
  subst hw
  exact ⟨rfl, rfl, rfl, by show w.heap.size ≤ (w.heap ++ os).size; rw [Array.size_append]; omega, fun i hi => by
    show ((w.drewN k).heap ++ os)[i]? = _
    rw [Array.getElem?_append_left (by show i < w.heap.size; omega)]; rfl⟩
theorem v_NumS (n : Nat) (hn : n ≤ 9223372036854775807) (ih : ∀ m : Nat, m < n → Fn Tryd.prog 27 [.one (.int .i64 (m : Int))] (.one (.str (itoaB (m : Int))))) : Fn Tryd.prog 27 [.one (.int .i64 (n : Int))] (.one (.str (itoaB (n : Int)))) := by
  have hq : n / 10 < n ∨ n < 10 := by omega
  have hr : n % 10 < 10 := Nat.mod_lt _ (by decide)
  have hsz : (itoaB ((n / 10 : Nat) : Int)).size ≤ 21 := itoaB_size (by omega) (by omega)
  refine Fn.of_body (fn := Tryd.f27) Tryd.func27 rfl (Nat.le_of_ble_eq_true rfl) (itoaB_plain (by omega) (by omega)) ?_
  intro w0
  show AW _ 20 _ _ _ _
  refine AW.seq ?_
  refine AW.region ?_
  refine ARun.pure (PureOp.assign rfl (.str (by decide))) rfl rfl (Nat.le_of_ble_eq_true rfl) ?_
  refine ARun.nil ?_
  refine AW.seq ?_
  refine AW.seq ?_
  refine AW.region ?_
  refine ARun.pure (PureOp.move rfl (.tmp rfl)) rfl rfl (Nat.le_of_ble_eq_true rfl) ?_
  refine ARun.pure (PureOp.intOp rfl (.tmp rfl) .int rfl) rfl rfl (Nat.le_of_ble_eq_true rfl) ?_
  refine ARun.nil ?_
  refine AW.cond (.tmp rfl) (fun hb1 => ?_) (fun hb1 => ?_)
  · have _u := True.intro
    replace hb1 := of_decide_eq_true hb1
    have hlt : n < 10 := by omega
    refine AW.seq ?_
    refine AW.region ?_
    refine ARun.pure (PureOp.move rfl (.tmp rfl)) rfl rfl (Nat.le_of_ble_eq_true rfl) ?_
    refine ARun.pure (PureOp.add (c := ((48 + n : Nat) : Int)) rfl .int (.tmp rfl) (by rw [wrap_id (by omega) (by omega)]; omega)) rfl rfl (Nat.le_of_ble_eq_true rfl) ?_
    refine ARun.pure (PureOp.conv (b := ((48 + n : Nat) : Int)) rfl (.tmp rfl) vtx_cv_3_5_.u8 (by rw [IntKind.wrap_u8]; omega)) rfl rfl (Nat.le_of_ble_eq_true rfl) ?_
    refine ARun.fresh (FreshOp.byte1 (a1 := ((48 + n : Nat) : Int)) rfl (.tmp rfl) Tryd.underlying64 (by kernel_rfl)) rfl rfl (Nat.le_of_ble_eq_true rfl) ?_
    refine ARun.pure (PureOp.byteStr (c := UInt8.ofNat (48 + n)) rfl (.frs (.tmp rfl)) (congrArg (fun z : Int => AV.int .u8 z) (by rw [dig_byte hlt]; omega)) Tryd.underlying64 Tryd.underlying5 Tryd.underlying9) rfl rfl (Nat.le_of_ble_eq_true rfl) ?_
    refine ARun.pure (PureOp.assign rfl (.tmp rfl)) rfl rfl (Nat.le_of_ble_eq_true rfl) ?_
    refine ARun.nil ?_
    refine AW.ret (show ResL _ _ [.tmp 2] _ from resS rfl ?_)
    exact (itoaB_small hlt).symm
  · have _u := True.intro
    replace hb1 := of_decide_eq_false hb1
    have hlt : ¬ n < 10 := by omega
    refine AW.skip ?_
    refine AW.seq ?_
    refine AW.any (by kernel_rfl) (by kernel_rfl) ?_
    refine AD.pure (PureOp.move rfl (.tmp rfl)) rfl rfl (Nat.le_of_ble_eq_true rfl) ?_
    refine AD.pure (PureOp.quo (a := n) (b := 10) rfl (.tmp rfl) .int rfl (by decide) (by omega)) rfl rfl (Nat.le_of_ble_eq_true rfl) ?_
    refine AD.pure (PureOp.call rfl (ih (n / 10) (by omega)) ⟨⟨_, (.tmp rfl), .int⟩, trivial⟩ vtx_ca_27 (itoaB_plain (by omega) (by omega))) rfl rfl (Nat.le_of_ble_eq_true rfl) ?_
    refine AD.pure (PureOp.move rfl (.tmp rfl)) rfl rfl (Nat.le_of_ble_eq_true rfl) ?_
    refine AD.pure (PureOp.rem (a := n) (b := 10) rfl (.tmp rfl) .int rfl (by decide) (by omega)) rfl rfl (Nat.le_of_ble_eq_true rfl) ?_
    refine AD.pure (PureOp.add (c := ((48 + n % 10 : Nat) : Int)) rfl .int (.tmp rfl) (by rw [wrap_id (by omega) (by omega)]; omega)) rfl rfl (Nat.le_of_ble_eq_true rfl) ?_
    refine AD.pure (PureOp.conv (b := ((48 + n % 10 : Nat) : Int)) rfl (.tmp rfl) vtx_cv_3_5_.u8 (by rw [IntKind.wrap_u8]; omega)) rfl rfl (Nat.le_of_ble_eq_true rfl) ?_
    refine AD.fresh (FreshOp.byte1 (a1 := ((48 + n % 10 : Nat) : Int)) rfl (.tmp rfl) Tryd.underlying64 (by kernel_rfl)) rfl rfl (Nat.le_of_ble_eq_true rfl) ?_
    refine AD.pure (PureOp.byteStr (c := UInt8.ofNat (48 + n % 10)) rfl (.frs (.tmp rfl)) (congrArg (fun z : Int => AV.int .u8 z) (by rw [dig_byte hr]; omega)) Tryd.underlying64 Tryd.underlying5 Tryd.underlying9) rfl rfl (Nat.le_of_ble_eq_true rfl) ?_
    refine AD.pure (PureOp.strAdd rfl (.tmp rfl) (.tmp rfl) (by have h1 : (⟨#[UInt8.ofNat (48 + n % 10)]⟩ : ByteArray).size = 1 := rfl; omega)) rfl rfl (Nat.le_of_ble_eq_true rfl) ?_
    refine AD.pure (PureOp.assign rfl (.tmp rfl)) rfl rfl (Nat.le_of_ble_eq_true rfl) ?_
    refine AD.nil ?_
    refine AW.ret (show ResL _ _ [.tmp 2] _ from resS rfl ?_)
    exact (itoaB_step hlt).symm

theorem v_Num (n : Nat) (hn : n ≤ 9223372036854775807) : Fn Tryd.prog 27 [.one (.int .i64 (n : Int))] (.one (.str (itoaB (n : Int)))) := by
  induction n using Nat.strongRecOn with
  | _ n ih => exact v_NumS n hn fun m hm => ih m hm (by omega)
theorem v_NumI (z : Int) (h0 : 0 ≤ z) (h1 : z ≤ 9223372036854775807) : Fn Tryd.prog 27 [.one (.int .i64 z)] (.one (.str (itoaB z))) := by
  obtain ⟨n, rfl⟩ : ∃ n : Nat, z = n := ⟨z.toNat, by omega⟩
  exact v_Num n (by omega)
theorem v_Text (z : Int) (hz : -9223372036854775807 ≤ z ∧ z ≤ 9223372036854775807) : Fn Tryd.prog 28 [.one (.int .i64 z)] (.one (.str (itoaB z))) := by
  obtain ⟨hz0, hz1⟩ := hz
  refine Fn.of_body (fn := Tryd.f28) Tryd.func28 rfl (Nat.le_of_ble_eq_true rfl) (itoaB_plain (by omega) (by omega)) ?_
  intro w0
  show AW _ 11 _ _ _ _
  refine AW.seq ?_
  refine AW.region ?_
  refine ARun.pure (PureOp.assign rfl (.str (by decide))) rfl rfl (Nat.le_of_ble_eq_true rfl) ?_
  refine ARun.nil ?_
  refine AW.seq ?_
  refine AW.seq ?_
  refine AW.region ?_
  refine ARun.pure (PureOp.move rfl (.tmp rfl)) rfl rfl (Nat.le_of_ble_eq_true rfl) ?_
  refine ARun.pure (PureOp.intOp rfl (.tmp rfl) .int rfl) rfl rfl (Nat.le_of_ble_eq_true rfl) ?_
  refine ARun.nil ?_
  refine AW.cond (.tmp rfl) (fun hb1 => ?_) (fun hb1 => ?_)
  · have _u := True.intro
    replace hb1 := of_decide_eq_true hb1
    have hsz : (itoaB (-z)).size ≤ 21 := itoaB_size (by omega) (by omega)
    refine AW.seq ?_
    refine AW.region ?_
    refine ARun.pure (PureOp.move rfl (.tmp rfl)) rfl rfl (Nat.le_of_ble_eq_true rfl) ?_
    refine ARun.pure (PureOp.neg (b := -z) rfl (.tmp rfl) (wrap_id (by omega) (by omega))) rfl rfl (Nat.le_of_ble_eq_true rfl) ?_
    refine ARun.pure (PureOp.call rfl (v_NumI (-z) (by omega) (by omega)) ⟨⟨_, (.tmp rfl), .int⟩, trivial⟩ vtx_ca_27 (itoaB_plain (by omega) (by omega))) rfl rfl (Nat.le_of_ble_eq_true rfl) ?_
    refine ARun.pure (PureOp.strAdd rfl (.str (by decide)) (.tmp rfl) (by have h1 : (⟨#[45]⟩ : ByteArray).size = 1 := rfl; omega)) rfl rfl (Nat.le_of_ble_eq_true rfl) ?_
    refine ARun.pure (PureOp.assign rfl (.tmp rfl)) rfl rfl (Nat.le_of_ble_eq_true rfl) ?_
    refine ARun.nil ?_
    refine AW.ret (show ResL _ _ [.tmp 2] _ from resS rfl ?_)
    exact itoaB_neg hb1
  · have _u := True.intro
    replace hb1 := of_decide_eq_false hb1
    refine AW.skip ?_
    refine AW.seq ?_
    refine AW.region ?_
    refine ARun.pure (PureOp.move rfl (.tmp rfl)) rfl rfl (Nat.le_of_ble_eq_true rfl) ?_
    refine ARun.pure (PureOp.call rfl (v_NumI z (by omega) (by omega)) ⟨⟨_, (.tmp rfl), .int⟩, trivial⟩ vtx_ca_27 (itoaB_plain (by omega) (by omega))) rfl rfl (Nat.le_of_ble_eq_true rfl) ?_
    refine ARun.pure (PureOp.assign rfl (.tmp rfl)) rfl rfl (Nat.le_of_ble_eq_true rfl) ?_
    refine ARun.nil ?_
    refine AW.ret (show ResL _ _ [.tmp 2] _ from resS rfl ?_)
    rfl
end Go.Proofs.YtmfkmifkkplidaaDoor


/-
  SayText: the reference and the program write the same.
-/
namespace Go.Proofs.YtmfkmifkkplidaaDoor
open Go.ChangeShapes Go.WideShapes Go.ChangeAt Go.RowKit Go.BigFrame Go.Deep
set_option linter.unusedVariables false
set_option linter.unusedSimpArgs false
theorem vsy_ca_27 : callB Tryd.prog 27 = true := by kernel_rfl
theorem vsy_ca_28 : callB Tryd.prog 28 = true := by kernel_rfl
theorem vsy_ca_31 : callB Tryd.prog 31 = true := by kernel_rfl
theorem vsy_ca_36 : callB Tryd.prog 36 = true := by kernel_rfl
theorem vsy_fi_27_0_0 : fieldB Tryd.prog 27 0 0 = true := by kernel_rfl
theorem vsy_fi_27_1_1 : fieldB Tryd.prog 27 1 1 = true := by kernel_rfl
theorem vsy_fi_27_2_2 : fieldB Tryd.prog 27 2 2 = true := by kernel_rfl
theorem vsy_fi_53_0_0 : fieldB Tryd.prog 53 0 0 = true := by kernel_rfl
theorem vsy_fi_53_1_1 : fieldB Tryd.prog 53 1 1 = true := by kernel_rfl
theorem vsy_pl_3 : plainB Tryd.prog 3 = true := by kernel_rfl
theorem vsy_pl_9 : plainB Tryd.prog 9 = true := by kernel_rfl
def sayB (x : GSay) : Bool :=
  cond (cond (nameB x.name false) (inB 0 1000000000 x.at_) false) (inB (-1000000000) 1000000000 x.value) false
def isSampleB (x : GSample) : Bool :=
  cond (inB 0 1000000000 x.at_) (inB (-1000000000) 1000000000 x.value) false
theorem v_isSample (x : GSample) : Fn Tryd.prog 30 [.agg [.int .i64 x.at_, .int .i64 x.value]] (.one (.bool (isSampleB x))) := by
  refine Fn.of_body (fn := Tryd.f30) Tryd.func30 rfl (Nat.le_of_ble_eq_true rfl) trivial ?_
  intro w0
  show AW _ 11 _ _ _ _
  refine AW.seq ?_
  refine AW.region ?_
  refine ARun.box (id := 0) rfl (.tmp rfl) (SV.cells_of (by exact ⟨trivial, trivial, trivial⟩)) ⟨rfl, (by repeat first | exact trivial | refine ⟨by decide, by first | rfl | exact trivial | (intro i j; first | rfl | exact getD_no rfl | (dsimp only; split <;> first | rfl | exact getD_no rfl) | exact scl_no (by apply_assumption) _), ?_⟩)⟩ rfl rfl rfl (Nat.le_of_ble_eq_true rfl) ?_
  refine ARun.pure (PureOp.assign rfl .bool) rfl rfl (Nat.le_of_ble_eq_true rfl) ?_
  refine ARun.nil ?_
  refine AW.seq ?_
  refine AW.region ?_
  refine ARun.pure (PureOp.fieldPtr rfl (.tmp rfl) vsy_fi_53_0_0) rfl rfl (Nat.le_of_ble_eq_true rfl) ?_
  refine ARun.pure (PureOp.loadPtr rfl (.tmp rfl) vsy_pl_3 rfl rfl (Nat.le_of_ble_eq_true rfl) (Nat.le_of_ble_eq_true rfl)) rfl rfl (Nat.le_of_ble_eq_true rfl) ?_
  refine ARun.pure (PureOp.call rfl (v_within x.at_ 0 1000000000) ⟨⟨_, (.tmp rfl), .int⟩, ⟨_, .int, .int⟩, ⟨_, .int, .int⟩, trivial⟩ vsy_ca_36 trivial) rfl rfl (Nat.le_of_ble_eq_true rfl) ?_
  refine ARun.pure (PureOp.move rfl (.tmp rfl)) rfl rfl (Nat.le_of_ble_eq_true rfl) ?_
  refine ARun.gpure (want := true) (.tt rfl) (fun hg1 => PureOp.fieldPtr rfl (.tmp rfl) vsy_fi_53_1_1) rfl rfl (Nat.le_of_ble_eq_true rfl) rfl (Nat.le_of_ble_eq_true rfl) ?_
  refine ARun.gpure (want := true) (.tt rfl) (fun hg2 => PureOp.loadPtr rfl (.gtmp rfl hg2) vsy_pl_3 rfl rfl (Nat.le_of_ble_eq_true rfl) (Nat.le_of_ble_eq_true rfl)) rfl rfl (Nat.le_of_ble_eq_true rfl) rfl (Nat.le_of_ble_eq_true rfl) ?_
  refine ARun.gpure (want := true) (.tt rfl) (fun hg3 => PureOp.call rfl (v_within x.value (-1000000000) 1000000000) ⟨⟨_, (.gtmp rfl hg3), .int⟩, ⟨_, .int, .int⟩, ⟨_, .int, .int⟩, trivial⟩ vsy_ca_36 trivial) rfl rfl (Nat.le_of_ble_eq_true rfl) rfl (Nat.le_of_ble_eq_true rfl) ?_
  refine ARun.pure (PureOp.pick rfl (.tmp rfl) (fun hp4 => .gtmp rfl hp4) (fun _ => .bool)) rfl rfl (Nat.le_of_ble_eq_true rfl) ?_
  refine ARun.pure (PureOp.assign rfl (.tmp rfl)) rfl rfl (Nat.le_of_ble_eq_true rfl) ?_
  refine ARun.nil ?_
  refine AW.ret (show ResL _ _ [.tmp 2] _ from resB rfl ?_)
  rfl

def sayBI (x : GSay) : Bool :=
  cond (nameB x.name false) (isSampleB (⟨x.at_, x.value⟩ : GSample)) false
/-- The text of a measurement. -/
def sayT (x : GSay) : ByteArray := (((x.name ++ ⟨#[32]⟩) ++ itoaB x.at_) ++ ⟨#[32]⟩) ++ itoaB x.value
structure SayOk (x : GSay) : Prop where
  name : x.name.size ≤ 1048576
  at0 : 0 ≤ x.at_
  at1 : x.at_ ≤ 9223372036854775807
  v0 : -9223372036854775807 ≤ x.value
  v1 : x.value ≤ 9223372036854775807
theorem sayT_size {x : GSay} (h : SayOk x) : (sayT x).size ≤ x.name.size + 44 := by
  have hs1 : (itoaB x.at_).size ≤ 21 := itoaB_size (by have := h.at0; omega) h.at1
  have hs2 : (itoaB x.value).size ≤ 21 := itoaB_size (by have := h.v0; omega) h.v1
  have hs3 : (⟨#[32]⟩ : ByteArray).size = 1 := rfl
  unfold sayT
  simp only [ByteArray.size_append]
  omega
theorem sayT_plain {x : GSay} (h : SayOk x) : (sayT x).size ≤ maxLen := by
  have := sayT_size h
  have := h.name
  unfold maxLen; omega
theorem v_l13Text (x : GSay) (hx : SayOk x) : Fn Tryd.prog 15 [.agg [.str x.name, .int .i64 x.at_, .int .i64 x.value]] (.one (.str (sayT x))) := by
  have hx' := hx
  obtain ⟨hn, ha0, ha1, hv0, hv1⟩ := hx'
  have hs1 : (itoaB x.at_).size ≤ 21 := itoaB_size (by omega) (by omega)
  have hs2 : (itoaB x.value).size ≤ 21 := itoaB_size (by omega) (by omega)
  have hs3 : (⟨#[32]⟩ : ByteArray).size = 1 := rfl
  refine Fn.of_body (fn := Tryd.f15) Tryd.func15 rfl (Nat.le_of_ble_eq_true rfl) (sayT_plain hx) ?_
  intro w0
  show AW _ 15 _ _ _ _
  refine AW.seq ?_
  refine AW.region ?_
  refine ARun.box (id := 0) rfl (.tmp rfl) (SV.cells_of (by exact ⟨trivial, trivial, trivial, trivial⟩)) ⟨rfl, (by repeat first | exact trivial | refine ⟨by decide, by first | rfl | exact trivial | (intro i j; first | rfl | exact getD_no rfl | (dsimp only; split <;> first | rfl | exact getD_no rfl) | exact scl_no (by apply_assumption) _), ?_⟩)⟩ rfl rfl rfl (Nat.le_of_ble_eq_true rfl) ?_
  refine ARun.pure (PureOp.assign rfl (.str (by decide))) rfl rfl (Nat.le_of_ble_eq_true rfl) ?_
  refine ARun.nil ?_
  refine AW.seq ?_
  refine AW.any (by kernel_rfl) (by kernel_rfl) ?_
  refine AD.pure (PureOp.fieldPtr rfl (.tmp rfl) vsy_fi_27_0_0) rfl rfl (Nat.le_of_ble_eq_true rfl) ?_
  refine AD.pure (PureOp.loadPtr rfl (.tmp rfl) vsy_pl_9 rfl rfl (Nat.le_of_ble_eq_true rfl) (Nat.le_of_ble_eq_true rfl)) rfl rfl (Nat.le_of_ble_eq_true rfl) ?_
  refine AD.pure (PureOp.strAdd rfl (.tmp rfl) (.str (by decide)) (by skip; (try simp only [ByteArray.size_append]); omega)) rfl rfl (Nat.le_of_ble_eq_true rfl) ?_
  refine AD.pure (PureOp.fieldPtr rfl (.tmp rfl) vsy_fi_27_1_1) rfl rfl (Nat.le_of_ble_eq_true rfl) ?_
  refine AD.pure (PureOp.loadPtr rfl (.tmp rfl) vsy_pl_3 rfl rfl (Nat.le_of_ble_eq_true rfl) (Nat.le_of_ble_eq_true rfl)) rfl rfl (Nat.le_of_ble_eq_true rfl) ?_
  refine AD.pure (PureOp.call rfl (v_NumI x.at_ (by omega) (by omega)) ⟨⟨_, (.tmp rfl), .int⟩, trivial⟩ vsy_ca_27 (itoaB_plain (by omega) (by omega))) rfl rfl (Nat.le_of_ble_eq_true rfl) ?_
  refine AD.pure (PureOp.strAdd rfl (.tmp rfl) (.tmp rfl) (by skip; (try simp only [ByteArray.size_append]); omega)) rfl rfl (Nat.le_of_ble_eq_true rfl) ?_
  refine AD.pure (PureOp.strAdd rfl (.tmp rfl) (.str (by decide)) (by skip; (try simp only [ByteArray.size_append]); omega)) rfl rfl (Nat.le_of_ble_eq_true rfl) ?_
  refine AD.pure (PureOp.fieldPtr rfl (.tmp rfl) vsy_fi_27_2_2) rfl rfl (Nat.le_of_ble_eq_true rfl) ?_
  refine AD.pure (PureOp.loadPtr rfl (.tmp rfl) vsy_pl_3 rfl rfl (Nat.le_of_ble_eq_true rfl) (Nat.le_of_ble_eq_true rfl)) rfl rfl (Nat.le_of_ble_eq_true rfl) ?_
  refine AD.pure (PureOp.call rfl (v_Text x.value ⟨by omega, by omega⟩) ⟨⟨_, (.tmp rfl), .int⟩, trivial⟩ vsy_ca_28 (itoaB_plain (by omega) (by omega))) rfl rfl (Nat.le_of_ble_eq_true rfl) ?_
  refine AD.pure (PureOp.strAdd rfl (.tmp rfl) (.tmp rfl) (by skip; (try simp only [ByteArray.size_append]); omega)) rfl rfl (Nat.le_of_ble_eq_true rfl) ?_
  refine AD.pure (PureOp.assign rfl (.tmp rfl)) rfl rfl (Nat.le_of_ble_eq_true rfl) ?_
  refine AD.nil ?_
  refine AW.ret (show ResL _ _ [.tmp 2] _ from resS rfl ?_)
  rfl

theorem v_sayText (x : GSay) (hx : SayOk x) : Fn Tryd.prog 17 [.agg [.str x.name, .int .i64 x.at_, .int .i64 x.value]] (.one (.str (sayT x))) := by
  have hx' := hx
  obtain ⟨hn, ha0, ha1, hv0, hv1⟩ := hx'
  have hs1 : (itoaB x.at_).size ≤ 21 := itoaB_size (by omega) (by omega)
  have hs2 : (itoaB x.value).size ≤ 21 := itoaB_size (by omega) (by omega)
  have hs3 : (⟨#[32]⟩ : ByteArray).size = 1 := rfl
  refine Fn.of_body (fn := Tryd.f17) Tryd.func17 rfl (Nat.le_of_ble_eq_true rfl) (sayT_plain hx) ?_
  intro w0
  show AW _ 15 _ _ _ _
  refine AW.seq ?_
  refine AW.region ?_
  refine ARun.box (id := 0) rfl (.tmp rfl) (SV.cells_of (by exact ⟨trivial, trivial, trivial, trivial⟩)) ⟨rfl, (by repeat first | exact trivial | refine ⟨by decide, by first | rfl | exact trivial | (intro i j; first | rfl | exact getD_no rfl | (dsimp only; split <;> first | rfl | exact getD_no rfl) | exact scl_no (by apply_assumption) _), ?_⟩)⟩ rfl rfl rfl (Nat.le_of_ble_eq_true rfl) ?_
  refine ARun.pure (PureOp.assign rfl (.str (by decide))) rfl rfl (Nat.le_of_ble_eq_true rfl) ?_
  refine ARun.nil ?_
  refine AW.seq ?_
  refine AW.any (by kernel_rfl) (by kernel_rfl) ?_
  refine AD.pure (PureOp.fieldPtr rfl (.tmp rfl) vsy_fi_27_0_0) rfl rfl (Nat.le_of_ble_eq_true rfl) ?_
  refine AD.pure (PureOp.loadPtr rfl (.tmp rfl) vsy_pl_9 rfl rfl (Nat.le_of_ble_eq_true rfl) (Nat.le_of_ble_eq_true rfl)) rfl rfl (Nat.le_of_ble_eq_true rfl) ?_
  refine AD.pure (PureOp.strAdd rfl (.tmp rfl) (.str (by decide)) (by skip; (try simp only [ByteArray.size_append]); omega)) rfl rfl (Nat.le_of_ble_eq_true rfl) ?_
  refine AD.pure (PureOp.fieldPtr rfl (.tmp rfl) vsy_fi_27_1_1) rfl rfl (Nat.le_of_ble_eq_true rfl) ?_
  refine AD.pure (PureOp.loadPtr rfl (.tmp rfl) vsy_pl_3 rfl rfl (Nat.le_of_ble_eq_true rfl) (Nat.le_of_ble_eq_true rfl)) rfl rfl (Nat.le_of_ble_eq_true rfl) ?_
  refine AD.pure (PureOp.call rfl (v_Itoa x.at_ (by omega) (by omega)) ⟨⟨_, (.tmp rfl), .int⟩, trivial⟩ vsy_ca_31 (itoaB_plain (by omega) (by omega))) rfl rfl (Nat.le_of_ble_eq_true rfl) ?_
  refine AD.pure (PureOp.strAdd rfl (.tmp rfl) (.tmp rfl) (by skip; (try simp only [ByteArray.size_append]); omega)) rfl rfl (Nat.le_of_ble_eq_true rfl) ?_
  refine AD.pure (PureOp.strAdd rfl (.tmp rfl) (.str (by decide)) (by skip; (try simp only [ByteArray.size_append]); omega)) rfl rfl (Nat.le_of_ble_eq_true rfl) ?_
  refine AD.pure (PureOp.fieldPtr rfl (.tmp rfl) vsy_fi_27_2_2) rfl rfl (Nat.le_of_ble_eq_true rfl) ?_
  refine AD.pure (PureOp.loadPtr rfl (.tmp rfl) vsy_pl_3 rfl rfl (Nat.le_of_ble_eq_true rfl) (Nat.le_of_ble_eq_true rfl)) rfl rfl (Nat.le_of_ble_eq_true rfl) ?_
  refine AD.pure (PureOp.call rfl (v_Itoa x.value (by omega) (by omega)) ⟨⟨_, (.tmp rfl), .int⟩, trivial⟩ vsy_ca_31 (itoaB_plain (by omega) (by omega))) rfl rfl (Nat.le_of_ble_eq_true rfl) ?_
  refine AD.pure (PureOp.strAdd rfl (.tmp rfl) (.tmp rfl) (by skip; (try simp only [ByteArray.size_append]); omega)) rfl rfl (Nat.le_of_ble_eq_true rfl) ?_
  refine AD.pure (PureOp.assign rfl (.tmp rfl)) rfl rfl (Nat.le_of_ble_eq_true rfl) ?_
  refine AD.nil ?_
  refine AW.ret (show ResL _ _ [.tmp 2] _ from resS rfl ?_)
  rfl

def sayV (x : GSay) : ByteArray × Bool := if sayB x = true then (sayT x, true) else (⟨#[]⟩, false)
end Go.Proofs.YtmfkmifkkplidaaDoor


/-
  strings.Builder by the library's own contracts; the text of a head.
-/
namespace Go.Proofs.YtmfkmifkkplidaaDoor
open Go.Proofs Go.Shelf
open Go.ChangeShapes Go.WideShapes Go.ChangeAt Go.RowKit Go.BigFrame Go.Deep
set_option linter.unusedVariables false
set_option linter.unusedSimpArgs false

def ren_n166 : Shelf.Ren where
  f := fun x => match x with | 166 => 37 | 240 => 43 | 276 => 47 | n => n
  t := fun x => match x with | 0 => 0 | 3 => 3 | 4 => 4 | 9 => 9 | 20 => 20 | 37 => 64 | 70 => 63 | 72 => 66 | 75 => 68 | 80 => 71 | 164 => 80 | 5 => 5 | 127 => 75 | n => n
  g := fun x => x
theorem lays_n166 : Lays.n166 Tryd.prog ren_n166 where
  mixed := by kernel_rfl
  f166 := by kernel_rfl
  f240 := by kernel_rfl
  f276 := by kernel_rfl
  t0 := Tryd.underlying0
  a0 := Tryd.isAgg0
  z0 := Tryd.sizeOf0
  v0 := Tryd.zeroValue0
  t3 := Tryd.underlying3
  a3 := Tryd.isAgg3
  z3 := Tryd.sizeOf3
  v3 := Tryd.zeroValue3
  t4 := Tryd.underlying4
  a4 := Tryd.isAgg4
  z4 := Tryd.sizeOf4
  v4 := Tryd.zeroValue4
  t9 := Tryd.underlying9
  a9 := Tryd.isAgg9
  z9 := Tryd.sizeOf9
  v9 := Tryd.zeroValue9
  t20 := Tryd.underlying20
  a20 := Tryd.isAgg20
  z20 := Tryd.sizeOf20
  v20 := Tryd.zeroValue20
  t37 := Tryd.underlying64
  a37 := Tryd.isAgg64
  z37 := Tryd.sizeOf64
  v37 := Tryd.zeroValue64
  t70 := Tryd.underlying63
  a70 := Tryd.isAgg63
  z70 := Tryd.sizeOf63
  v70 := Tryd.zeroValue63
  t72 := Tryd.underlying66
  a72 := Tryd.isAgg66
  z72 := Tryd.sizeOf66
  v72 := Tryd.zeroValue66
  t75 := Tryd.underlying68
  a75 := Tryd.isAgg68
  z75 := Tryd.sizeOf68
  v75 := Tryd.zeroValue68
  t164 := Tryd.underlying80
  a164 := Tryd.isAgg80
  z164 := Tryd.sizeOf80
  v164 := Tryd.zeroValue80

def ren_n169 : Shelf.Ren where
  f := fun x => match x with | 169 => 38 | n => n
  t := fun x => match x with | 0 => 0 | 3 => 3 | 9 => 9 | 37 => 64 | 70 => 63 | 72 => 66 | 127 => 75 | 5 => 5 | n => n
  g := fun x => x
theorem lays_n169 : Lays.n169 Tryd.prog ren_n169 where
  mixed := by kernel_rfl
  f169 := by kernel_rfl
  t0 := Tryd.underlying0
  a0 := Tryd.isAgg0
  z0 := Tryd.sizeOf0
  v0 := Tryd.zeroValue0
  t3 := Tryd.underlying3
  a3 := Tryd.isAgg3
  z3 := Tryd.sizeOf3
  v3 := Tryd.zeroValue3
  t9 := Tryd.underlying9
  a9 := Tryd.isAgg9
  z9 := Tryd.sizeOf9
  v9 := Tryd.zeroValue9
  t37 := Tryd.underlying64
  a37 := Tryd.isAgg64
  z37 := Tryd.sizeOf64
  v37 := Tryd.zeroValue64
  t70 := Tryd.underlying63
  a70 := Tryd.isAgg63
  z70 := Tryd.sizeOf63
  v70 := Tryd.zeroValue63
  t72 := Tryd.underlying66
  a72 := Tryd.isAgg66
  z72 := Tryd.sizeOf66
  v72 := Tryd.zeroValue66
  t127 := Tryd.underlying75
  a127 := Tryd.isAgg75
  z127 := Tryd.sizeOf75
  v127 := Tryd.zeroValue75

theorem extra_n166 : Builder.Extra Tryd.prog ren_n166 where
  sizeBuilder := by kernel_rfl
  liesBuilder := by kernel_rfl
  t5 := Tryd.underlying5
  a5 := Tryd.isAgg5
  z5 := Tryd.sizeOf5
  v5 := Tryd.zeroValue5
  infoByte := by kernel_rfl
  cellsByte := by kernel_rfl
  sizeByte := by kernel_rfl
  neB5 := by decide
theorem extra_n169 : Builder.Extra Tryd.prog ren_n169 where
  sizeBuilder := by kernel_rfl
  liesBuilder := by kernel_rfl
  t5 := Tryd.underlying5
  a5 := Tryd.isAgg5
  z5 := Tryd.sizeOf5
  v5 := Tryd.zeroValue5
  infoByte := by kernel_rfl
  cellsByte := by kernel_rfl
  sizeByte := by kernel_rfl
  neB5 := by decide
/-- The builder at block b holds the bytes of t. -/
def Bld (b : Nat) (t : ByteArray) (w : World) : Prop := Lib.IsBuilderF 66 5 b b (Lib.byteCells t.data.toList) w
theorem bldAt_lt {p : Value} {b : Nat} {bs : List Value} {w : World} (h : Lib.BuilderAtF 66 5 b b p bs w) : b < w.heap.size := h.lt
theorem Bld.lt {b : Nat} {t : ByteArray} {w : World} (h : Bld b t w) : b < w.heap.size := h.elim bldAt_lt bldAt_lt
theorem bldAt_below {p : Value} {b : Nat} {bs : List Value} {w w' : World} (h : Lib.BuilderAtF 66 5 b b p bs w) (hb : Below w.heap.size w w') : Lib.BuilderAtF 66 5 b b p bs w' := by
  have hlt := h.lt
  obtain ⟨hB, v, hv, hown, hne⟩ := h
  exact ⟨hB, v, (hb.block b hlt).trans hv, hown.kept (row := none) ⟨hb.os, hb.tape, hb.output, hb.size, fun k hk _ => hb.block k hk⟩ (Classical.em _), hne⟩
theorem Bld.below {b : Nat} {t : ByteArray} {w w' : World} (h : Bld b t w) (hb : Below w.heap.size w w') : Bld b t w' := h.elim (fun x => .inl (bldAt_below x hb)) (fun x => .inr (bldAt_below x hb))
theorem Bld.fresh (w : World) : Bld w.heap.size ⟨#[]⟩ (w.alloc (.cells #[.pointer none, .slice none 0 0] 66)) := Lib.IsBuilderF.of (Lib.fresh_isBuilder 66 5 w)
/-- WriteString. -/
theorem Bld.write {b : Nat} {t : ByteArray} {w : World} (h : Bld b t w) (s : ByteArray) (hl : t.size + s.size ≤ 140737488355328) :
    Calls Tryd.prog 37 #[.pointer (some ⟨b, 0, none⟩), .string s] w fun e w' => e = .returned (.tuple #[.int .i64 s.size, .nilIface]) ∧ Bld b (t ++ s) w' ∧ Below b w w' ∧ Lib.OthersKept 5 (some b) w w' := by
  refine (Any.Builder_WriteString_k lays_n166 extra_n166 b b _ s w h (by rw [Lib.byteCells_length, ← Lib.size_eq]; exact hl) (Nat.le_of_lt h.lt)).mono ?_
  rintro e w' ⟨rfl, h1, h2, h3⟩
  refine ⟨rfl, ?_, h2, h3⟩
  rw [Lib.strCells_eq, ← Lib.byteCells_append] at h1
  have e1 : (t ++ s).data.toList = t.data.toList ++ s.data.toList := by simp
  unfold Bld
  rw [e1]
  exact .inr h1
/-- String. -/
theorem Bld.string {b : Nat} {t : ByteArray} {w : World} (h : Bld b t w) :
    Calls Tryd.prog 38 #[.pointer (some ⟨b, 0, none⟩)] w fun e w' => e = .returned (.string t) ∧ Below b w w' := by
  refine (Any.Builder_String_any_k lays_n169 extra_n169 b b _ w h (Nat.le_of_lt h.lt)).mono ?_
  rintro e w' ⟨rfl, _, h2, _⟩
  exact ⟨by rw [Lib.mk_data], h2⟩
/-- The lines of a row behind the text t. -/
def accS (t : ByteArray) (nm : ByteArray) (l : List GSample) : Nat → ByteArray
  | 0 => t
  | j + 1 => accS t nm l j ++ (sayT ⟨nm, (l.getD j default).at_, (l.getD j default).value⟩ ++ ⟨#[10]⟩)
/-- The first line and the lines of the first i rows. -/
def accH (h : GHead) : Nat → ByteArray
  | 0 => itoaB h.offset ++ ⟨#[10]⟩
  | i + 1 => accS (accH h i) (h.rows.getD i default).name (h.rows.getD i default).samples (h.rows.getD i default).samples.length
def headT (h : GHead) : ByteArray := accH h h.rows.length
structure HeadOk (h : GHead) : Prop where
  n : h.rows.length ≤ 8
  o0 : 0 ≤ h.offset
  o1 : h.offset ≤ 1000
  m : ∀ i, i < h.rows.length → (h.rows.getD i default).samples.length ≤ 40
  say : ∀ i j, i < h.rows.length → j < (h.rows.getD i default).samples.length → SayOk ⟨(h.rows.getD i default).name, ((h.rows.getD i default).samples.getD j default).at_, ((h.rows.getD i default).samples.getD j default).value⟩
theorem accS_size {t nm : ByteArray} {l : List GSample} (hs : ∀ j, j < l.length → SayOk ⟨nm, (l.getD j default).at_, (l.getD j default).value⟩) : ∀ j, j ≤ l.length → (accS t nm l j).size ≤ t.size + j * 1048622
  | 0, _ => by simp [accS]
  | j + 1, hj => by
    have ih := accS_size (t := t) hs j (by omega)
    have h1 := sayT_size (hs j (by omega))
    have h2 := (hs j (by omega)).name
    have h3 : (⟨#[10]⟩ : ByteArray).size = 1 := rfl
    unfold accS
    simp only [ByteArray.size_append]
    simp only at h1 h2
    omega
theorem accH_size {h : GHead} (hok : HeadOk h) : ∀ i, i ≤ h.rows.length → (accH h i).size ≤ 22 + i * 41944880
  | 0, _ => by
    have h1 := itoaB_size (z := h.offset) (by have := hok.o0; omega) (by have := hok.o1; omega)
    have h3 : (⟨#[10]⟩ : ByteArray).size = 1 := rfl
    unfold accH
    simp only [ByteArray.size_append]
    omega
  | i + 1, hi => by
    have ih := accH_size hok i (by omega)
    have h1 := accS_size (t := accH h i) (fun j hj => hok.say i j (by omega) hj) _ (Nat.le_refl _)
    have h2 := hok.m i (by omega)
    unfold accH
    have h4 : (h.rows.getD i default).samples.length * 1048622 ≤ 40 * 1048622 := Nat.mul_le_mul_right _ h2
    omega
theorem headT_size {h : GHead} (hok : HeadOk h) : (headT h).size ≤ 335559062 := by
  have := accH_size hok _ (Nat.le_refl _)
  have := hok.n
  unfold headT; omega
theorem headT_plain {h : GHead} (hok : HeadOk h) : (headT h).size ≤ maxLen := by
  have := headT_size hok
  unfold maxLen; omega
theorem callSay {x : GSay} (hx : SayOk x) {w W : World} (hp : Pre w.heap.size w) (hb : Below w.heap.size w W) :
    Calls Tryd.prog 17 #[.agg #[.string x.name, .int .i64 x.at_, .int .i64 x.value]] W fun e W' => e = .returned (.string (sayT x)) ∧ Below W.heap.size W W' :=
  v_sayText x hx W (fun _ => False) [.agg #[.string x.name, .int .i64 x.at_, .int .i64 x.value]] ⟨fun _ h => h.elim, (hp.below hb).mono hb.size⟩ ⟨_, _, rfl, ⟨_, rfl, _, _, rfl, ⟨rfl, Nat.le_trans hx.name (by decide)⟩, _, _, rfl, rfl, _, _, rfl, rfl, rfl⟩, rfl⟩
theorem callItoa {z : Int} (h0 : -9223372036854775808 ≤ z) (h1 : z ≤ 9223372036854775807) {w W : World} (hp : Pre w.heap.size w) (hb : Below w.heap.size w W) :
    Calls Tryd.prog 31 #[.int .i64 z] W fun e W' => e = .returned (.string (itoaB z)) ∧ Below W.heap.size W W' :=
  v_Itoa z h0 h1 W (fun _ => False) [.int .i64 z] ⟨fun _ h => h.elim, (hp.below hb).mono hb.size⟩ ⟨_, _, rfl, rfl, rfl⟩
end Go.Proofs.YtmfkmifkkplidaaDoor


/-
  The program's headText woites the head's text.
-/
namespace Go.Proofs.YtmfkmifkkplidaaDoor
open Go.ChangeShapes Go.WideShapes Go.ChangeAt Go.RowKit Go.BigFrame Go.Deep
set_option linter.unusedVariables false
set_option linter.unusedSimpArgs false

theorem cells_at {w : World} {b : Nat} {cs : Array Value} {T : TypeId} {fr : Nat × Nat} (h : w.heap[b]? = some (.cells cs T fr)) (j : Nat) : w.cell? ⟨b, j, none⟩ = cs[j]? := Lib.cell_of_heap h j
theorem alloc_new (w : World) (o : Obj) : (w.alloc o).heap[w.heap.size]? = some o := by
  show (w.heap.push o)[w.heap.size]? = some o
  simp
theorem empty_app (t : ByteArray) : (⟨#[]⟩ : ByteArray) ++ t = t := by
  apply ByteArray.ext
  simp
set_option maxHeartbeats 4000000 in
set_option maxRecDepth 100000 in
theorem v_headText (h : GHead) (hok : HeadOk h) : Fn Tryd.prog 23 [.agg [.lst 2 h.rows.length (fun i0 j0 => ([.str ((h.rows.getD i0 (default : GRow)).name), .lst 2 (((h.rows.getD i0 (default : GRow)).samples).length) (fun i1 j1 => ([.int .i64 ((((h.rows.getD i0 (default : GRow)).samples).getD i1 (default : GSample)).at_), .int .i64 ((((h.rows.getD i0 (default : GRow)).samples).getD i1 (default : GSample)).value)] : List AV).getD j1 (.con undef))] : List AV).getD j0 (.con undef)), .int .i64 h.offset]] (.one (.str (headT h))) := by
  intro w S vs hS hd
  obtain ⟨v, vs1, rfl, h1, h2⟩ := hd
  obtain rfl : vs1 = [] := h2
  obtain ⟨us, rfl, u0, us0, e0, hA, u1, us1, e1, hO, e2⟩ := h1
  obtain rfl : us1 = [] := e2
  obtain rfl : u1 = .int .i64 h.offset := hO
  subst e1
  obtain ⟨A, c, rfl, hn, hc, hz, hrow⟩ := hA
  obtain rfl : us = #[.slice A h.rows.length c, .int .i64 h.offset] := by
    apply Array.ext'
    exact e0
  clear e0
  have hb0 : Bld (w.heap.size + 1) ⟨#[]⟩ ((w.alloc (.cells #[.slice A h.rows.length c, .int .i64 h.offset] 37)).alloc (.cells #[.pointer none, .slice none 0 0] 66)) := by
    have h0 := Bld.fresh (w.alloc (.cells #[.slice A h.rows.length c, .int .i64 h.offset] 37))
    have e1 : (w.alloc (.cells #[.slice A h.rows.length c, .int .i64 h.offset] 37)).heap.size = w.heap.size + 1 := by simp
    rwa [e1] at h0
  have hbw0 : Below w.heap.size w ((w.alloc (.cells #[.slice A h.rows.length c, .int .i64 h.offset] 37)).alloc (.cells #[.pointer none, .slice none 0 0] 66)) := ((Below.refl _ w).alloc (Nat.le_refl _) _).alloc (by simp) _
  have hbx : ((w.alloc (.cells #[.slice A h.rows.length c, .int .i64 h.offset] 37)).alloc (.cells #[.pointer none, .slice none 0 0] 66)).heap[w.heap.size]? = some (.cells #[.slice A h.rows.length c, .int .i64 h.offset] 37) :=
    (Lib.alloc_old _ _ _ (by simp)).trans (alloc_new w _)
  have o0 := hok.o0
  have o1 := hok.o1
  have hN := hok.n
  have hl0 : (⟨#[]⟩ : ByteArray).size + (itoaB h.offset ++ ⟨#[10]⟩).size ≤ 140737488355328 := by
    have h1 := accH_size hok 0 (Nat.zero_le _)
    have h2 : (⟨#[]⟩ : ByteArray).size = 0 := rfl
    unfold accH at h1
    omega
  have hadd0 : ∀ W, (Op.stringOp .add (itoaB h.offset) ⟨#[10]⟩).run Tryd.prog W = .ok (.string (itoaB h.offset ++ ⟨#[10]⟩)) W := fun W => run_string_add_sum W _ _ (by
    have h2 : (⟨#[]⟩ : ByteArray).size = 0 := rfl
    rw [ByteArray.size_append] at hl0
    omega)
  go_enter Tryd.func23, Tryd.ntmps23
  go_wp2_with (go_at_call 31; refine (callItoa (z := h.offset) (by omega) (by omega) hS.pre hbw0).mono ?_; rintro e w1 ⟨rfl, g1⟩)
  go_wp2_with (go_at_call 37; refine (Bld.write (hb0.below g1) _ hl0).mono ?_; rintro e w2 ⟨rfl, b2, k2, -⟩; (rw [empty_app] at b2); (have hcb : w2.cell? ⟨w.heap.size, 0, none⟩ = some (.slice A h.rows.length c) := (k2.cell (Nat.lt_succ_self _)).trans ((g1.cell (by simp; omega)).trans (cells_at hbx 0))))
  have hbw2 : Below w.heap.size w w2 := hbw0.trans ((g1.mono hbw0.size).trans (k2.mono (Nat.le_succ _)))
  clear hb0 hbw0 hbx g1 k2
  go_loopw [16] (fun i wr => ∃ k : Nat, k ≤ h.rows.length ∧ i = .int .i64 k ∧ Bld (w.heap.size + 1) (accH h k) wr ∧ Below w.heap.size w wr) (fun i _ => h.rows.length - (intOf i).toNat)
  case atStart => exact ⟨0, Nat.zero_le _, rfl, b2, hbw2⟩
  case round =>
    rename World => wo
    obtain ⟨k, hk, rfl, hbld, hbel⟩ := hrel
    clear hcb hbw2 b2
    have hblt := hbld.lt
    by_cases hlt : k < h.rows.length
    · obtain ⟨b1, off1, rfl, hSb, hcells⟩ := hrow k hlt
      obtain ⟨u0, hu0, hd0⟩ := hcells 0 (by omega)
      obtain ⟨u1, hu1, hd1⟩ := hcells 1 (by omega)
      obtain ⟨rfl, hnm⟩ : u0 = .string (h.rows.getD k default).name ∧ _ := hd0
      obtain ⟨A', c', rfl, hn', hc', hz', hsam⟩ := hd1
      have hcc0 : wo.cell? ⟨b1, off1 + k * 2, none⟩ = some (.string (h.rows.getD k default).name) := (hbel.cell (hS _ hSb)).trans hu0
      have hcc1 : wo.cell? ⟨b1, off1 + k * 2 + 1, none⟩ = some (.slice A' (h.rows.getD k default).samples.length c') := (hbel.cell (hS _ hSb)).trans hu1
      clear hcells hu0 hu1 hrow
      have hM := hok.m k hlt
      have hsay := hok.say k
      have hsz1 := fun j hj => accS_size (t := accH h k) (fun j hj => hok.say k j hlt hj) j hj
      have hsz2 := accH_size hok k hk
      generalize hnmE : (h.rows.getD k default).name = nm at *
      generalize hlE : (h.rows.getD k default).samples = l at *
      have HnmE := Lib.hid hnmE
      have HlE := Lib.hid hlE
      clear hnmE hlE
      have hbel' : Below w.heap.size w (wo.alloc (.cells #[.string nm, .slice A' l.length c'] 60)) := hbel.alloc hbel.size _
      have hbld' : Bld (w.heap.size + 1) (accS (accH h k) nm l 0) (wo.alloc (.cells #[.string nm, .slice A' l.length c'] 60)) := hbld.below ((Below.refl _ wo).alloc (Nat.le_refl _) _)
      have hbox' : (wo.alloc (.cells #[.string nm, .slice A' l.length c'] 60)).heap[wo.heap.size]? = some (.cells #[.string nm, .slice A' l.length c'] 60) := alloc_new wo _
      go_wp2_with fail
      go_loopw [23] (fun i wq => ∃ j : Nat, j ≤ l.length ∧ i = .int .i64 j ∧ Bld (w.heap.size + 1) (accS (accH h k) nm l j) wq ∧ Below w.heap.size w wq ∧ wq.heap[wo.heap.size]? = some (.cells #[.string nm, .slice A' l.length c'] 60)) (fun i _ => l.length - (intOf i).toNat)
      case atStart => exact ⟨0, Nat.zero_le _, rfl, hbld', hbel', hbox'⟩
      case round =>
        clear hbel' hbld' hbox'
        obtain ⟨j, hj, rfl, hbd, hbe, hbox⟩ := hrel
        have hr0 : wr.cell? ⟨wo.heap.size, 0, none⟩ = some (.string nm) := cells_at hbox 0
        have hrlt : wo.heap.size < wr.heap.size := by
          rcases Nat.lt_or_ge wo.heap.size wr.heap.size with h' | h'
          · exact h'
          · simp [Array.getElem?_eq_none h'] at hbox
        by_cases hlt2 : j < l.length
        · obtain ⟨b2, off2, rfl, hSb2, hcells2⟩ := hsam j hlt2
          obtain ⟨u0, hu0, hd0⟩ := hcells2 0 (by omega)
          obtain ⟨u1, hu1, hd1⟩ := hcells2 1 (by omega)
          obtain rfl : u0 = .int .i64 (l.getD j default).at_ := hd0
          obtain rfl : u1 = .int .i64 (l.getD j default).value := hd1
          have hss0 : wr.cell? ⟨b2, off2 + j * 2, none⟩ = some (.int .i64 (l.getD j default).at_) := (hbe.cell (hS _ hSb2)).trans hu0
          have hss1 : wr.cell? ⟨b2, off2 + j * 2 + 1, none⟩ = some (.int .i64 (l.getD j default).value) := (hbe.cell (hS _ hSb2)).trans hu1
          clear hcells2 hu0 hu1 hsam
          have hx := hsay j hlt hlt2
          have hsx := sayT_size hx
          have hxn := hx.name
          have hsz3 := hsz1 j hj
          have hone : (⟨#[10]⟩ : ByteArray).size = 1 := rfl
          have hl2 : (accS (accH h k) nm l j).size + (sayT ⟨nm, (l.getD j default).at_, (l.getD j default).value⟩ ++ ⟨#[10]⟩).size ≤ 140737488355328 := by
            rw [ByteArray.size_append]
            simp only at hsx hxn
            omega
          have hadd1 : ∀ W, (Op.stringOp .add (sayT ⟨nm, (l.getD j default).at_, (l.getD j default).value⟩) ⟨#[10]⟩).run Tryd.prog W = .ok (.string (sayT ⟨nm, (l.getD j default).at_, (l.getD j default).value⟩ ++ ⟨#[10]⟩)) W := fun W => run_string_add_sum W _ _ (by
            simp only at hsx hxn
            omega)
          generalize haE : (l.getD j default).at_ = xa at *
          generalize hvE : (l.getD j default).value = xv at *
          have HaE := Lib.hid haE
          have HvE := Lib.hid hvE
          clear haE hvE
          have hbe2 : Below w.heap.size w (wr.alloc (.cells #[.int .i64 xa, .int .i64 xv] 53)) := hbe.alloc hbe.size _
          have hbd2 : Bld (w.heap.size + 1) (accS (accH h k) nm l j) (wr.alloc (.cells #[.int .i64 xa, .int .i64 xv] 53)) := hbd.below ((Below.refl _ wr).alloc (Nat.le_refl _) _)
          go_wp2_with (go_at_call 17; refine (callSay hx hS.pre hbe2).mono ?_; rintro e w3 ⟨rfl, g3⟩)
          go_wp2_with (go_at_call 37; refine (Bld.write (hbd2.below g3) _ hl2).mono ?_; rintro e w4 ⟨rfl, b4, k4, o4⟩)
          go_roundw
          case rel =>
            refine ⟨j + 1, by omega, by go_num, ?_, hbe2.trans ((g3.mono hbe2.size).trans (k4.mono (Nat.le_succ _))), ?_⟩
            · show Bld _ (accS (accH h k) nm l j ++ (sayT ⟨nm, (l.getD j default).at_, (l.getD j default).value⟩ ++ ⟨#[10]⟩)) _
              rw [HaE.out, HvE.out]
              exact b4
            · refine o4 _ _ ((g3.block _ (by simp; omega)).trans ((Lib.alloc_old _ _ _ hrlt).trans hbox)) (fun e => ?_) (fun c fz e => ?_)
              · have := Option.some.inj e
                omega
              · simp only [Obj.cells.injEq] at e
                exact absurd e.2.1 (by decide)
          case measure => simp [intOf]; omega
        · go_wp2_with fail
          go_roundw
          case rel =>
            refine ⟨k + 1, by omega, by go_num, ?_, hbe⟩
            show Bld _ (accS (accH h k) (h.rows.getD k default).name (h.rows.getD k default).samples (h.rows.getD k default).samples.length) _
            rw [HnmE.out, HlE.out]
            obtain rfl : j = l.length := by omega
            exact hbd
          case measure => simp [intOf]; omega
    · go_wp2_with (go_at_call 38; refine (Bld.string hbld).mono ?_; rintro e w3 ⟨rfl, k3⟩)
      go_ret
      obtain rfl : k = h.rows.length := by omega
      exact ⟨rfl, hbel.trans (k3.mono (Nat.le_succ _))⟩
end Go.Proofs.YtmfkmifkkplidaaDoor


/-
  Heads: what a valid one is, in the reference and in the program.
-/
namespace Go.Proofs.YtmfkmifkkplidaaDoor
open Go.ChangeShapes Go.WideShapes Go.ChangeAt Go.RowKit Go.BigFrame Go.Deep
set_option linter.unusedVariables false
set_option linter.unusedSimpArgs false
theorem vhd_ag_53_2 : aggB Tryd.prog 53 2 = true := by kernel_rfl
theorem vhd_ag_60_2 : aggB Tryd.prog 60 2 = true := by kernel_rfl
theorem vhd_ca_25 : callB Tryd.prog 25 = true := by kernel_rfl
theorem vhd_ca_26 : callB Tryd.prog 26 = true := by kernel_rfl
theorem vhd_ca_29 : callB Tryd.prog 29 = true := by kernel_rfl
theorem vhd_ca_30 : callB Tryd.prog 30 = true := by kernel_rfl
theorem vhd_ca_33 : callB Tryd.prog 33 = true := by kernel_rfl
theorem vhd_ca_35 : callB Tryd.prog 35 = true := by kernel_rfl
theorem vhd_ca_36 : callB Tryd.prog 36 = true := by kernel_rfl
theorem vhd_el_35_2 : elemB Tryd.prog 35 2 = true := by kernel_rfl
theorem vhd_el_58_2 : elemB Tryd.prog 58 2 = true := by kernel_rfl
theorem vhd_fi_37_0_0 : fieldB Tryd.prog 37 0 0 = true := by kernel_rfl
theorem vhd_fi_37_1_1 : fieldB Tryd.prog 37 1 1 = true := by kernel_rfl
theorem vhd_fi_53_0_0 : fieldB Tryd.prog 53 0 0 = true := by kernel_rfl
theorem vhd_fi_53_1_1 : fieldB Tryd.prog 53 1 1 = true := by kernel_rfl
theorem vhd_fi_60_0_0 : fieldB Tryd.prog 60 0 0 = true := by kernel_rfl
theorem vhd_fi_60_1_1 : fieldB Tryd.prog 60 1 1 = true := by kernel_rfl
theorem vhd_pl_3 : plainB Tryd.prog 3 = true := by kernel_rfl
theorem vhd_pl_35 : plainB Tryd.prog 35 = true := by kernel_rfl
theorem vhd_pl_58 : plainB Tryd.prog 58 = true := by kernel_rfl
theorem vhd_pl_9 : plainB Tryd.prog 9 = true := by kernel_rfl
theorem vhd_sl_35 : sliceB Tryd.prog 35 = true := by kernel_rfl
theorem vhd_sl_58 : sliceB Tryd.prog 58 = true := by kernel_rfl
theorem vhd_sz_53_2 : sizeB Tryd.prog 53 2 = true := by kernel_rfl
theorem vhd_sz_60_2 : sizeB Tryd.prog 60 2 = true := by kernel_rfl
def saBad (l : List GSample) (k : Nat) : Bool :=
  cond (cond (!(inB 0 1000000000 ((l.getD k (default : GSample)).at_))) true (!(inB (-1000000000) 1000000000 ((l.getD k (default : GSample)).value)))) true (cond (decide (0 < (k : Int))) (decide ((l.getD k (default : GSample)).at_ ≤ (l.getD (k - 1) (default : GSample)).at_)) false)
def samplesB (l : List GSample) : Bool := (List.range l.length).all (fun j => !saBad l j) && decide ((l.length : Int) ≤ 40)
theorem v_GoodSamples (l : List GSample) : Fn Tryd.prog 33 [.one (.lst 2 l.length (fun i0 j0 => ([.int .i64 ((l.getD i0 (default : GSample)).at_), .int .i64 ((l.getD i0 (default : GSample)).value)] : List AV).getD j0 (.con undef)))] (.one (.bool (samplesB l))) := by
  refine Fn.of_body (fn := Tryd.f33) Tryd.func33 rfl (Nat.le_of_ble_eq_true rfl) trivial ?_
  intro w0
  show AW _ 41 _ _ _ _
  refine AW.bound (t := 0) rfl fun hx => ?_
  refine AW.seq ?_
  refine AW.region ?_
  refine ARun.pure (PureOp.assign rfl .bool) rfl rfl (Nat.le_of_ble_eq_true rfl) ?_
  refine ARun.nil ?_
  refine AW.seq ?_
  refine AW.seq ?_
  refine AW.region ?_
  refine ARun.pure (PureOp.move rfl (.tmp rfl)) rfl rfl (Nat.le_of_ble_eq_true rfl) ?_
  refine ARun.pure (PureOp.lenLst rfl (.tmp rfl) vhd_sl_58) rfl rfl (Nat.le_of_ble_eq_true rfl) ?_
  refine ARun.pure (PureOp.move rfl .int) rfl rfl (Nat.le_of_ble_eq_true rfl) ?_
  refine ARun.nil ?_
  refine AW.block ?_
  refine AW.loop (ι := Nat) (fun k => ⟨[(0, .one (.lst 2 l.length (fun i0 j0 => ([.int .i64 ((l.getD i0 (default : GSample)).at_), .int .i64 ((l.getD i0 (default : GSample)).value)] : List AV).getD j0 (.con undef)))), (5, .one (.lst 2 l.length (fun i0 j0 => ([.int .i64 ((l.getD i0 (default : GSample)).at_), .int .i64 ((l.getD i0 (default : GSample)).value)] : List AV).getD j0 (.con undef)))), (6, .one (.int .i64 (l.length : Int))), (7, .one (.int .i64 (k : Int)))], []⟩) (fun k => k ≤ l.length ∧ ∀ j, j < k → saBad l j = false) (fun k => l.length - k) 0 ⟨Nat.zero_le _, fun j hj => absurd hj (by omega)⟩ ⟨⟨⟨_, rfl, rfl⟩, ⟨_, rfl, rfl⟩, ⟨_, rfl, rfl⟩, ⟨_, rfl, rfl⟩, trivial⟩, trivial⟩ ?_
  intro k hI
  obtain ⟨hk, hks⟩ := hI
  refine AW.seq ?_
  refine AW.region ?_
  refine ARun.pure (PureOp.intOp rfl (.tmp rfl) (.tmp rfl) rfl) rfl rfl (Nat.le_of_ble_eq_true rfl) ?_
  refine ARun.nil ?_
  refine AW.seq ?_
  refine AW.cond (.tmp rfl) (fun hb1 => ?_) (fun hb1 => ?_)
  · have _u := True.intro
    replace hb1 := of_decide_eq_true hb1
    have hkl : k < l.length := by omega
    refine AW.skip ?_
    refine AW.seq ?_
    refine AW.block ?_
    refine AW.seq ?_
    refine AW.region ?_
    refine ARun.pure (PureOp.move rfl (.tmp rfl)) rfl rfl (Nat.le_of_ble_eq_true rfl) ?_
    refine ARun.pure (PureOp.indexLst (i := k) rfl (.tmp rfl) vhd_el_58_2 (.tmp rfl) rfl (by omega)) rfl rfl (Nat.le_of_ble_eq_true rfl) ?_
    refine ARun.pure (PureOp.loadRefAgg rfl (.tmp rfl) vhd_ag_53_2 (Nat.le_of_ble_eq_true rfl)) rfl rfl (Nat.le_of_ble_eq_true rfl) ?_
    refine ARun.alloc (id := 0) (l := [.int .i64 0, .int .i64 0]) (z := (.agg #[.int .i64 0, .int .i64 0])) rfl (by kernel_rfl) (fun _ _ _ => ⟨_, _, rfl, rfl, ⟨_, _, rfl, rfl, rfl⟩⟩) ⟨rfl, (by repeat first | exact trivial | refine ⟨by decide, by first | rfl | exact trivial | (intro i j; first | rfl | exact getD_no rfl | (dsimp only; split <;> first | rfl | exact getD_no rfl) | exact scl_no (by apply_assumption) _), ?_⟩)⟩ rfl rfl rfl (Nat.le_of_ble_eq_true rfl) ?_
    refine ARun.pure (PureOp.assign rfl (.tmp rfl)) rfl rfl (Nat.le_of_ble_eq_true rfl) ?_
    refine ARun.store rfl (.tmp rfl) (.tmp rfl) (SV.cells_of (by exact ⟨trivial, trivial, trivial⟩)) rfl (Nat.le_of_ble_eq_true rfl) vhd_sz_53_2 rfl rfl ?_
    refine ARun.nil ?_
    refine AW.seq ?_
    refine AW.any (by kernel_rfl) (by kernel_rfl) ?_
    refine AD.pure (PureOp.fieldPtr rfl (.tmp rfl) vhd_fi_53_0_0) rfl rfl (Nat.le_of_ble_eq_true rfl) ?_
    refine AD.pure (PureOp.loadPtr rfl (.tmp rfl) vhd_pl_3 rfl rfl (Nat.le_of_ble_eq_true rfl) (Nat.le_of_ble_eq_true rfl)) rfl rfl (Nat.le_of_ble_eq_true rfl) ?_
    refine AD.pure (PureOp.call rfl (v_l1In ((l.getD k (default : GSample)).at_) 0 1000000000) ⟨⟨_, (.tmp rfl), .int⟩, ⟨_, .int, .int⟩, ⟨_, .int, .int⟩, trivial⟩ vhd_ca_26 trivial) rfl rfl (Nat.le_of_ble_eq_true rfl) ?_
    refine AD.pure (PureOp.not rfl (.tmp rfl)) rfl rfl (Nat.le_of_ble_eq_true rfl) ?_
    refine AD.pure (PureOp.move rfl (.tmp rfl)) rfl rfl (Nat.le_of_ble_eq_true rfl) ?_
    refine AD.gpure (want := false) (.tf rfl) (fun hg2 => PureOp.fieldPtr rfl (.tmp rfl) vhd_fi_53_1_1) rfl rfl rfl (Nat.le_of_ble_eq_true rfl) ?_
    refine AD.gpure (want := false) (.tf rfl) (fun hg3 => PureOp.loadPtr rfl (.gtmp rfl hg3) vhd_pl_3 rfl rfl (Nat.le_of_ble_eq_true rfl) (Nat.le_of_ble_eq_true rfl)) rfl rfl rfl (Nat.le_of_ble_eq_true rfl) ?_
    refine AD.gpure (want := false) (.tf rfl) (fun hg4 => PureOp.call rfl (v_l1In ((l.getD k (default : GSample)).value) (-1000000000) 1000000000) ⟨⟨_, (.gtmp rfl hg4), .int⟩, ⟨_, .int, .int⟩, ⟨_, .int, .int⟩, trivial⟩ vhd_ca_26 trivial) rfl rfl rfl (Nat.le_of_ble_eq_true rfl) ?_
    refine AD.gpure (want := false) (.tf rfl) (fun hg5 => PureOp.not rfl (.gtmp rfl hg5)) rfl rfl rfl (Nat.le_of_ble_eq_true rfl) ?_
    refine AD.pure (PureOp.pick rfl (.tmp rfl) (fun _ => .bool) (fun hp7 => .gtmp rfl (not_of hp7))) rfl rfl (Nat.le_of_ble_eq_true rfl) ?_
    refine AD.pure (PureOp.move rfl (.tmp rfl)) rfl rfl (Nat.le_of_ble_eq_true rfl) ?_
    refine AD.gpure (want := false) (.tf rfl) (fun hg8 => PureOp.move rfl (.tmp rfl)) rfl rfl rfl (Nat.le_of_ble_eq_true rfl) ?_
    refine AD.gpure (want := false) (.tf rfl) (fun hg9 => PureOp.intOp rfl (.gtmp rfl hg9) .int rfl) rfl rfl rfl (Nat.le_of_ble_eq_true rfl) ?_
    refine AD.gpure (want := false) (.tf rfl) (fun hg10 => PureOp.move rfl (.gtmp rfl hg10)) rfl rfl rfl (Nat.le_of_ble_eq_true rfl) ?_
    refine AD.gpure (want := true) (.gt rfl) (fun hg11 => PureOp.move rfl (.tmp rfl)) rfl rfl rfl (Nat.le_of_ble_eq_true rfl) ?_
    refine AD.gpure (want := true) (.gt rfl) (fun hg12 => PureOp.move rfl (.tmp rfl)) rfl rfl rfl (Nat.le_of_ble_eq_true rfl) ?_
    refine AD.gpure (want := true) (.gt rfl) (fun hg13 => PureOp.sub (c := (((k - 1) : Nat) : Int)) rfl (.gtmp rfl hg13) .int (by have q := hg13; simp only [Bool.cond_true_left, Bool.cond_false_right, Bool.not_eq_true', Bool.or_eq_false_iff, Bool.not_eq_false', Bool.and_eq_true, Bool.not_not, decide_eq_true_eq, decide_eq_false_iff_not, inB] at q; rw [wrap_id (by omega) (by omega)]; omega)) rfl rfl rfl (Nat.le_of_ble_eq_true rfl) ?_
    refine AD.gpure (want := true) (.gt rfl) (fun hg14 => PureOp.indexLst (i := (k - 1)) rfl (.gtmp rfl hg14) vhd_el_58_2 (.gtmp rfl hg14) rfl (by have q := hg14; simp only [Bool.cond_true_left, Bool.cond_false_right, Bool.not_eq_true', Bool.or_eq_false_iff, Bool.not_eq_false', Bool.and_eq_true, Bool.not_not, decide_eq_true_eq, decide_eq_false_iff_not, inB] at q; omega)) rfl rfl rfl (Nat.le_of_ble_eq_true rfl) ?_
    refine AD.gpure (want := true) (.gt rfl) (fun hg15 => PureOp.fieldRef rfl (.gtmp rfl hg15) vhd_fi_53_0_0 (Nat.le_of_ble_eq_true rfl)) rfl rfl rfl (Nat.le_of_ble_eq_true rfl) ?_
    refine AD.gpure (want := true) (.gt rfl) (fun hg16 => PureOp.loadRef rfl (.gtmp rfl hg16) vhd_pl_3 (Nat.le_of_ble_eq_true rfl)) rfl rfl rfl (Nat.le_of_ble_eq_true rfl) ?_
    refine AD.gpure (want := true) (.gt rfl) (fun hg17 => PureOp.fieldPtr rfl (.tmp rfl) vhd_fi_53_0_0) rfl rfl rfl (Nat.le_of_ble_eq_true rfl) ?_
    refine AD.gpure (want := true) (.gt rfl) (fun hg18 => PureOp.loadPtr rfl (.gtmp rfl hg18) vhd_pl_3 rfl rfl (Nat.le_of_ble_eq_true rfl) (Nat.le_of_ble_eq_true rfl)) rfl rfl rfl (Nat.le_of_ble_eq_true rfl) ?_
    refine AD.gpure (want := true) (.gt rfl) (fun hg19 => PureOp.intOp rfl (.gtmp rfl hg19) (.gtmp rfl hg19) rfl) rfl rfl rfl (Nat.le_of_ble_eq_true rfl) ?_
    refine AD.gpure (want := false) (.tf rfl) (fun hg20 => PureOp.pick rfl (.gtmp rfl hg20) (fun hp21 => .gtmp rfl (and_mk hg20 hp21)) (fun _ => .bool)) rfl rfl rfl (Nat.le_of_ble_eq_true rfl) ?_
    refine AD.pure (PureOp.pick rfl (.tmp rfl) (fun _ => .bool) (fun hp24 => .gtmp rfl (not_of hp24))) rfl rfl (Nat.le_of_ble_eq_true rfl) ?_
    refine AD.nil ?_
    refine AW.cond (.tmp rfl) (fun hb25 => ?_) (fun hb25 => ?_)
    · have _u := True.intro
      have hbd : saBad l k = true := hb25
      refine AW.seq ?_
      refine AW.region ?_
      refine ARun.pure (PureOp.assign rfl .bool) rfl rfl (Nat.le_of_ble_eq_true rfl) ?_
      refine ARun.nil ?_
      refine AW.ret (show ResL _ _ [.tmp 2] _ from resB rfl ?_)
      have hno : (List.range l.length).all (fun j => !saBad l j) = false := rng_no hkl (by rw [hbd]; rfl)
      unfold samplesB; rw [hno]; rfl
    · have _u := True.intro
      have hbd : saBad l k = false := hb25
      refine AW.skip ?_
      refine AW.region ?_
      refine ARun.pure (PureOp.add (c := ((k + 1 : Nat) : Int)) rfl (.tmp rfl) .int (by rw [wrap_id (by omega) (by omega)]; omega)) rfl rfl (Nat.le_of_ble_eq_true rfl) ?_
      refine ARun.pure (PureOp.move rfl (.tmp rfl)) rfl rfl (Nat.le_of_ble_eq_true rfl) ?_
      refine ARun.nil ?_
      exact ⟨k + 1, ⟨by omega, rng_succ (p := fun j => saBad l j = false) hks hbd⟩, by dsimp only; omega, ⟨⟨⟨_, rfl, rfl⟩, ⟨_, rfl, rfl⟩, ⟨_, rfl, rfl⟩, ⟨_, rfl, rfl⟩, trivial⟩, trivial⟩⟩
  · have _u := True.intro
    replace hb1 := of_decide_eq_false hb1
    have hkl : ¬ k < l.length := by omega
    have hall : (List.range l.length).all (fun j => !saBad l j) = true := rng_yes (fun j hj => by rw [hks j (by omega)]; rfl)
    refine AW.exit ?_
    refine AW.seq ?_
    refine AW.region ?_
    refine ARun.pure (PureOp.move rfl (.tmp rfl)) rfl rfl (Nat.le_of_ble_eq_true rfl) ?_
    refine ARun.pure (PureOp.lenLst rfl (.tmp rfl) vhd_sl_58) rfl rfl (Nat.le_of_ble_eq_true rfl) ?_
    refine ARun.pure (PureOp.intOp rfl (.tmp rfl) .int rfl) rfl rfl (Nat.le_of_ble_eq_true rfl) ?_
    refine ARun.pure (PureOp.assign rfl (.tmp rfl)) rfl rfl (Nat.le_of_ble_eq_true rfl) ?_
    refine ARun.nil ?_
    refine AW.ret (show ResL _ _ [.tmp 2] _ from resB rfl ?_)
    unfold samplesB; rw [hall]; rfl

def saBadI (l : List GSample) (k : Nat) : Bool :=
  cond (!(isSampleB (l.getD k (default : GSample)))) true (cond (decide (0 < (k : Int))) (decide ((l.getD k (default : GSample)).at_ ≤ (l.getD (k - 1) (default : GSample)).at_)) false)
theorem saBad_eq (l : List GSample) (k : Nat) : saBad l k = saBadI l k := by
  unfold saBad saBadI isSampleB
  generalize inB 0 _ _ = a1
  generalize inB (-1000000000) _ _ = a2
  generalize cond (decide ((0 : Int) < (k : Int))) _ false = a3
  revert a1 a2 a3; decide
theorem v_areSamples (l : List GSample) : Fn Tryd.prog 35 [.one (.lst 2 l.length (fun i0 j0 => ([.int .i64 ((l.getD i0 (default : GSample)).at_), .int .i64 ((l.getD i0 (default : GSample)).value)] : List AV).getD j0 (.con undef)))] (.one (.bool (samplesB l))) := by
  refine Fn.of_body (fn := Tryd.f35) Tryd.func35 rfl (Nat.le_of_ble_eq_true rfl) trivial ?_
  intro w0
  show AW _ 34 _ _ _ _
  refine AW.bound (t := 0) rfl fun hx => ?_
  refine AW.seq ?_
  refine AW.region ?_
  refine ARun.pure (PureOp.assign rfl .bool) rfl rfl (Nat.le_of_ble_eq_true rfl) ?_
  refine ARun.nil ?_
  refine AW.seq ?_
  refine AW.seq ?_
  refine AW.region ?_
  refine ARun.pure (PureOp.move rfl (.tmp rfl)) rfl rfl (Nat.le_of_ble_eq_true rfl) ?_
  refine ARun.pure (PureOp.lenLst rfl (.tmp rfl) vhd_sl_58) rfl rfl (Nat.le_of_ble_eq_true rfl) ?_
  refine ARun.pure (PureOp.move rfl .int) rfl rfl (Nat.le_of_ble_eq_true rfl) ?_
  refine ARun.nil ?_
  refine AW.block ?_
  refine AW.loop (ι := Nat) (fun k => ⟨[(0, .one (.lst 2 l.length (fun i0 j0 => ([.int .i64 ((l.getD i0 (default : GSample)).at_), .int .i64 ((l.getD i0 (default : GSample)).value)] : List AV).getD j0 (.con undef)))), (5, .one (.lst 2 l.length (fun i0 j0 => ([.int .i64 ((l.getD i0 (default : GSample)).at_), .int .i64 ((l.getD i0 (default : GSample)).value)] : List AV).getD j0 (.con undef)))), (6, .one (.int .i64 (l.length : Int))), (7, .one (.int .i64 (k : Int)))], []⟩) (fun k => k ≤ l.length ∧ ∀ j, j < k → saBad l j = false) (fun k => l.length - k) 0 ⟨Nat.zero_le _, fun j hj => absurd hj (by omega)⟩ ⟨⟨⟨_, rfl, rfl⟩, ⟨_, rfl, rfl⟩, ⟨_, rfl, rfl⟩, ⟨_, rfl, rfl⟩, trivial⟩, trivial⟩ ?_
  intro k hI
  obtain ⟨hk, hks⟩ := hI
  refine AW.seq ?_
  refine AW.region ?_
  refine ARun.pure (PureOp.intOp rfl (.tmp rfl) (.tmp rfl) rfl) rfl rfl (Nat.le_of_ble_eq_true rfl) ?_
  refine ARun.nil ?_
  refine AW.seq ?_
  refine AW.cond (.tmp rfl) (fun hb1 => ?_) (fun hb1 => ?_)
  · have _u := True.intro
    replace hb1 := of_decide_eq_true hb1
    have hkl : k < l.length := by omega
    refine AW.skip ?_
    refine AW.seq ?_
    refine AW.block ?_
    refine AW.seq ?_
    refine AW.region ?_
    refine ARun.pure (PureOp.move rfl (.tmp rfl)) rfl rfl (Nat.le_of_ble_eq_true rfl) ?_
    refine ARun.pure (PureOp.indexLst (i := k) rfl (.tmp rfl) vhd_el_58_2 (.tmp rfl) rfl (by omega)) rfl rfl (Nat.le_of_ble_eq_true rfl) ?_
    refine ARun.pure (PureOp.loadRefAgg rfl (.tmp rfl) vhd_ag_53_2 (Nat.le_of_ble_eq_true rfl)) rfl rfl (Nat.le_of_ble_eq_true rfl) ?_
    refine ARun.alloc (id := 0) (l := [.int .i64 0, .int .i64 0]) (z := (.agg #[.int .i64 0, .int .i64 0])) rfl (by kernel_rfl) (fun _ _ _ => ⟨_, _, rfl, rfl, ⟨_, _, rfl, rfl, rfl⟩⟩) ⟨rfl, (by repeat first | exact trivial | refine ⟨by decide, by first | rfl | exact trivial | (intro i j; first | rfl | exact getD_no rfl | (dsimp only; split <;> first | rfl | exact getD_no rfl) | exact scl_no (by apply_assumption) _), ?_⟩)⟩ rfl rfl rfl (Nat.le_of_ble_eq_true rfl) ?_
    refine ARun.pure (PureOp.assign rfl (.tmp rfl)) rfl rfl (Nat.le_of_ble_eq_true rfl) ?_
    refine ARun.store rfl (.tmp rfl) (.tmp rfl) (SV.cells_of (by exact ⟨trivial, trivial, trivial⟩)) rfl (Nat.le_of_ble_eq_true rfl) vhd_sz_53_2 rfl rfl ?_
    refine ARun.nil ?_
    refine AW.seq ?_
    refine AW.any (by kernel_rfl) (by kernel_rfl) ?_
    refine AD.pure (PureOp.loadPtrAgg rfl (.tmp rfl) vhd_ag_53_2 rfl rfl (Nat.le_of_ble_eq_true rfl) (Nat.le_of_ble_eq_true rfl)) rfl rfl (Nat.le_of_ble_eq_true rfl) ?_
    refine AD.pure (PureOp.call rfl (v_isSample (l.getD k (default : GSample))) ⟨⟨_, (.tmp rfl), ⟨.int, .int, trivial⟩⟩, trivial⟩ vhd_ca_30 trivial) rfl rfl (Nat.le_of_ble_eq_true rfl) ?_
    refine AD.pure (PureOp.not rfl (.tmp rfl)) rfl rfl (Nat.le_of_ble_eq_true rfl) ?_
    refine AD.pure (PureOp.move rfl (.tmp rfl)) rfl rfl (Nat.le_of_ble_eq_true rfl) ?_
    refine AD.gpure (want := false) (.tf rfl) (fun hg2 => PureOp.move rfl (.tmp rfl)) rfl rfl rfl (Nat.le_of_ble_eq_true rfl) ?_
    refine AD.gpure (want := false) (.tf rfl) (fun hg3 => PureOp.intOp rfl (.gtmp rfl hg3) .int rfl) rfl rfl rfl (Nat.le_of_ble_eq_true rfl) ?_
    refine AD.gpure (want := false) (.tf rfl) (fun hg4 => PureOp.move rfl (.gtmp rfl hg4)) rfl rfl rfl (Nat.le_of_ble_eq_true rfl) ?_
    refine AD.gpure (want := true) (.gt rfl) (fun hg5 => PureOp.move rfl (.tmp rfl)) rfl rfl rfl (Nat.le_of_ble_eq_true rfl) ?_
    refine AD.gpure (want := true) (.gt rfl) (fun hg6 => PureOp.move rfl (.tmp rfl)) rfl rfl rfl (Nat.le_of_ble_eq_true rfl) ?_
    refine AD.gpure (want := true) (.gt rfl) (fun hg7 => PureOp.sub (c := (((k - 1) : Nat) : Int)) rfl (.gtmp rfl hg7) .int (by have q := hg7; simp only [Bool.cond_true_left, Bool.cond_false_right, Bool.not_eq_true', Bool.or_eq_false_iff, Bool.not_eq_false', Bool.and_eq_true, Bool.not_not, decide_eq_true_eq, decide_eq_false_iff_not, inB] at q; rw [wrap_id (by omega) (by omega)]; omega)) rfl rfl rfl (Nat.le_of_ble_eq_true rfl) ?_
    refine AD.gpure (want := true) (.gt rfl) (fun hg8 => PureOp.indexLst (i := (k - 1)) rfl (.gtmp rfl hg8) vhd_el_58_2 (.gtmp rfl hg8) rfl (by have q := hg8; simp only [Bool.cond_true_left, Bool.cond_false_right, Bool.not_eq_true', Bool.or_eq_false_iff, Bool.not_eq_false', Bool.and_eq_true, Bool.not_not, decide_eq_true_eq, decide_eq_false_iff_not, inB] at q; omega)) rfl rfl rfl (Nat.le_of_ble_eq_true rfl) ?_
    refine AD.gpure (want := true) (.gt rfl) (fun hg9 => PureOp.fieldRef rfl (.gtmp rfl hg9) vhd_fi_53_0_0 (Nat.le_of_ble_eq_true rfl)) rfl rfl rfl (Nat.le_of_ble_eq_true rfl) ?_
    refine AD.gpure (want := true) (.gt rfl) (fun hg10 => PureOp.loadRef rfl (.gtmp rfl hg10) vhd_pl_3 (Nat.le_of_ble_eq_true rfl)) rfl rfl rfl (Nat.le_of_ble_eq_true rfl) ?_
    refine AD.gpure (want := true) (.gt rfl) (fun hg11 => PureOp.fieldPtr rfl (.tmp rfl) vhd_fi_53_0_0) rfl rfl rfl (Nat.le_of_ble_eq_true rfl) ?_
    refine AD.gpure (want := true) (.gt rfl) (fun hg12 => PureOp.loadPtr rfl (.gtmp rfl hg12) vhd_pl_3 rfl rfl (Nat.le_of_ble_eq_true rfl) (Nat.le_of_ble_eq_true rfl)) rfl rfl rfl (Nat.le_of_ble_eq_true rfl) ?_
    refine AD.gpure (want := true) (.gt rfl) (fun hg13 => PureOp.intOp rfl (.gtmp rfl hg13) (.gtmp rfl hg13) rfl) rfl rfl rfl (Nat.le_of_ble_eq_true rfl) ?_
    refine AD.gpure (want := false) (.tf rfl) (fun hg14 => PureOp.pick rfl (.gtmp rfl hg14) (fun hp15 => .gtmp rfl (and_mk hg14 hp15)) (fun _ => .bool)) rfl rfl rfl (Nat.le_of_ble_eq_true rfl) ?_
    refine AD.pure (PureOp.pick rfl (.tmp rfl) (fun _ => .bool) (fun hp18 => .gtmp rfl (not_of hp18))) rfl rfl (Nat.le_of_ble_eq_true rfl) ?_
    refine AD.nil ?_
    refine AW.cond (.tmp rfl) (fun hb19 => ?_) (fun hb19 => ?_)
    · have _u := True.intro
      have hbd : saBad l k = true := (saBad_eq l k).trans hb19
      refine AW.seq ?_
      refine AW.region ?_
      refine ARun.pure (PureOp.assign rfl .bool) rfl rfl (Nat.le_of_ble_eq_true rfl) ?_
      refine ARun.nil ?_
      refine AW.ret (show ResL _ _ [.tmp 2] _ from resB rfl ?_)
      have hno : (List.range l.length).all (fun j => !saBad l j) = false := rng_no hkl (by rw [hbd]; rfl)
      unfold samplesB; rw [hno]; rfl
    · have _u := True.intro
      have hbd : saBad l k = false := (saBad_eq l k).trans hb19
      refine AW.skip ?_
      refine AW.region ?_
      refine ARun.pure (PureOp.add (c := ((k + 1 : Nat) : Int)) rfl (.tmp rfl) .int (by rw [wrap_id (by omega) (by omega)]; omega)) rfl rfl (Nat.le_of_ble_eq_true rfl) ?_
      refine ARun.pure (PureOp.move rfl (.tmp rfl)) rfl rfl (Nat.le_of_ble_eq_true rfl) ?_
      refine ARun.nil ?_
      exact ⟨k + 1, ⟨by omega, rng_succ (p := fun j => saBad l j = false) hks hbd⟩, by dsimp only; omega, ⟨⟨⟨_, rfl, rfl⟩, ⟨_, rfl, rfl⟩, ⟨_, rfl, rfl⟩, ⟨_, rfl, rfl⟩, trivial⟩, trivial⟩⟩
  · have _u := True.intro
    replace hb1 := of_decide_eq_false hb1
    have hkl : ¬ k < l.length := by omega
    have hall : (List.range l.length).all (fun j => !saBad l j) = true := rng_yes (fun j hj => by rw [hks j (by omega)]; rfl)
    refine AW.exit ?_
    refine AW.seq ?_
    refine AW.region ?_
    refine ARun.pure (PureOp.move rfl (.tmp rfl)) rfl rfl (Nat.le_of_ble_eq_true rfl) ?_
    refine ARun.pure (PureOp.lenLst rfl (.tmp rfl) vhd_sl_58) rfl rfl (Nat.le_of_ble_eq_true rfl) ?_
    refine ARun.pure (PureOp.intOp rfl (.tmp rfl) .int rfl) rfl rfl (Nat.le_of_ble_eq_true rfl) ?_
    refine ARun.pure (PureOp.assign rfl (.tmp rfl)) rfl rfl (Nat.le_of_ble_eq_true rfl) ?_
    refine ARun.nil ?_
    refine AW.ret (show ResL _ _ [.tmp 2] _ from resB rfl ?_)
    unfold samplesB; rw [hall]; rfl

def rowBad (h : GHead) (k : Nat) : Bool :=
  cond (cond (cond (!(nameB ((h.rows.getD k (default : GRow)).name) false)) true (decide (((((h.rows.getD k (default : GRow)).samples).length : Nat) : Int) = 0))) true (!(samplesB ((h.rows.getD k (default : GRow)).samples)))) true (cond (decide (0 < (k : Int))) (!Op.bytesLess ((h.rows.getD (k - 1) (default : GRow)).name).toList ((h.rows.getD k (default : GRow)).name).toList) false)
def goodHead (h : GHead) : Bool := (List.range h.rows.length).all (fun j => !rowBad h j) && cond (decide ((h.rows.length : Int) ≤ 8)) (inB 0 1000 h.offset) false
theorem v_specGoodHead (h : GHead) : Fn Tryd.prog 19 [.agg [.lst 2 h.rows.length (fun i0 j0 => ([.str ((h.rows.getD i0 (default : GRow)).name), .lst 2 (((h.rows.getD i0 (default : GRow)).samples).length) (fun i1 j1 => ([.int .i64 ((((h.rows.getD i0 (default : GRow)).samples).getD i1 (default : GSample)).at_), .int .i64 ((((h.rows.getD i0 (default : GRow)).samples).getD i1 (default : GSample)).value)] : List AV).getD j1 (.con undef))] : List AV).getD j0 (.con undef)), .int .i64 h.offset]] (.one (.bool (goodHead h))) := by
  refine Fn.of_body (fn := Tryd.f19) Tryd.func19 rfl (Nat.le_of_ble_eq_true rfl) trivial ?_
  intro w0
  show AW _ 55 _ _ _ _
  refine AW.boundAL (t := 0) (j := 0) rfl rfl fun hx => ?_
  refine AW.seq ?_
  refine AW.region ?_
  refine ARun.box (id := 0) rfl (.tmp rfl) (SV.cells_of (by exact ⟨trivial, trivial, trivial⟩)) ⟨rfl, (by repeat first | exact trivial | refine ⟨by decide, by first | rfl | exact trivial | (intro i j; first | rfl | exact getD_no rfl | (dsimp only; split <;> first | rfl | exact getD_no rfl) | exact scl_no (by apply_assumption) _), ?_⟩)⟩ rfl rfl rfl (Nat.le_of_ble_eq_true rfl) ?_
  refine ARun.pure (PureOp.assign rfl .bool) rfl rfl (Nat.le_of_ble_eq_true rfl) ?_
  refine ARun.nil ?_
  refine AW.seq ?_
  refine AW.seq ?_
  refine AW.region ?_
  refine ARun.pure (PureOp.fieldPtr rfl (.tmp rfl) vhd_fi_37_0_0) rfl rfl (Nat.le_of_ble_eq_true rfl) ?_
  refine ARun.pure (PureOp.loadPtr rfl (.tmp rfl) vhd_pl_35 rfl rfl (Nat.le_of_ble_eq_true rfl) (Nat.le_of_ble_eq_true rfl)) rfl rfl (Nat.le_of_ble_eq_true rfl) ?_
  refine ARun.pure (PureOp.lenLst rfl (.tmp rfl) vhd_sl_35) rfl rfl (Nat.le_of_ble_eq_true rfl) ?_
  refine ARun.pure (PureOp.move rfl .int) rfl rfl (Nat.le_of_ble_eq_true rfl) ?_
  refine ARun.nil ?_
  refine AW.block ?_
  refine AW.loop (ι := Nat) (fun k => ⟨[(1, .one (.ptr 0 2 0 0)), (6, .one (.lst 2 h.rows.length (fun i0 j0 => ([.str ((h.rows.getD i0 (default : GRow)).name), .lst 2 (((h.rows.getD i0 (default : GRow)).samples).length) (fun i1 j1 => ([.int .i64 ((((h.rows.getD i0 (default : GRow)).samples).getD i1 (default : GSample)).at_), .int .i64 ((((h.rows.getD i0 (default : GRow)).samples).getD i1 (default : GSample)).value)] : List AV).getD j1 (.con undef))] : List AV).getD j0 (.con undef)))), (7, .one (.int .i64 (h.rows.length : Int))), (8, .one (.int .i64 (k : Int)))], [(0, .cells [.lst 2 h.rows.length (fun i0 j0 => ([.str ((h.rows.getD i0 (default : GRow)).name), .lst 2 (((h.rows.getD i0 (default : GRow)).samples).length) (fun i1 j1 => ([.int .i64 ((((h.rows.getD i0 (default : GRow)).samples).getD i1 (default : GSample)).at_), .int .i64 ((((h.rows.getD i0 (default : GRow)).samples).getD i1 (default : GSample)).value)] : List AV).getD j1 (.con undef))] : List AV).getD j0 (.con undef)), .int .i64 h.offset])]⟩) (fun k => k ≤ h.rows.length ∧ ∀ j, j < k → rowBad h j = false) (fun k => h.rows.length - k) 0 ⟨Nat.zero_le _, fun j hj => absurd hj (by omega)⟩ ⟨⟨⟨_, rfl, rfl⟩, ⟨_, rfl, rfl⟩, ⟨_, rfl, rfl⟩, ⟨_, rfl, rfl⟩, trivial⟩, HeapLe.one rfl trivial⟩ ?_
  intro k hI
  obtain ⟨hk, hks⟩ := hI
  refine AW.seq ?_
  refine AW.region ?_
  refine ARun.pure (PureOp.intOp rfl (.tmp rfl) (.tmp rfl) rfl) rfl rfl (Nat.le_of_ble_eq_true rfl) ?_
  refine ARun.nil ?_
  refine AW.seq ?_
  refine AW.cond (.tmp rfl) (fun hb1 => ?_) (fun hb1 => ?_)
  · have _u := True.intro
    replace hb1 := of_decide_eq_true hb1
    have hkl : k < h.rows.length := by omega
    refine AW.skip ?_
    refine AW.seq ?_
    refine AW.block ?_
    refine AW.seq ?_
    refine AW.region ?_
    refine ARun.pure (PureOp.move rfl (.tmp rfl)) rfl rfl (Nat.le_of_ble_eq_true rfl) ?_
    refine ARun.pure (PureOp.indexLst (i := k) rfl (.tmp rfl) vhd_el_35_2 (.tmp rfl) rfl (by omega)) rfl rfl (Nat.le_of_ble_eq_true rfl) ?_
    refine ARun.pure (PureOp.loadRefAgg rfl (.tmp rfl) vhd_ag_60_2 (Nat.le_of_ble_eq_true rfl)) rfl rfl (Nat.le_of_ble_eq_true rfl) ?_
    refine ARun.alloc (id := 1) (l := [.str ByteArray.empty, .lst 2 0 (fun _ _ => .con undef)]) (z := (.agg #[.string ByteArray.empty, .slice none 0 0])) rfl (by kernel_rfl) (fun _ _ _ => ⟨_, _, rfl, ⟨rfl, by decide⟩, ⟨_, _, rfl, ⟨none, 0, rfl, Nat.le_refl _, by decide, fun _ => rfl, fun i hi => absurd hi (by omega)⟩, rfl⟩⟩) ⟨rfl, (by repeat first | exact trivial | refine ⟨by decide, by first | rfl | exact trivial | (intro i j; first | rfl | exact getD_no rfl | (dsimp only; split <;> first | rfl | exact getD_no rfl) | exact scl_no (by apply_assumption) _), ?_⟩)⟩ rfl rfl rfl (Nat.le_of_ble_eq_true rfl) ?_
    refine ARun.pure (PureOp.assign rfl (.tmp rfl)) rfl rfl (Nat.le_of_ble_eq_true rfl) ?_
    refine ARun.store rfl (.tmp rfl) (.tmp rfl) (SV.cells_of (by exact ⟨trivial, trivial, trivial⟩)) rfl (Nat.le_of_ble_eq_true rfl) vhd_sz_60_2 rfl rfl ?_
    refine ARun.nil ?_
    refine AW.seq ?_
    refine AW.any (by kernel_rfl) (by kernel_rfl) ?_
    refine AD.pure (PureOp.fieldPtr rfl (.tmp rfl) vhd_fi_60_0_0) rfl rfl (Nat.le_of_ble_eq_true rfl) ?_
    refine AD.pure (PureOp.loadPtr rfl (.tmp rfl) vhd_pl_9 rfl rfl (Nat.le_of_ble_eq_true rfl) (Nat.le_of_ble_eq_true rfl)) rfl rfl (Nat.le_of_ble_eq_true rfl) ?_
    refine AD.pure (PureOp.call rfl (v_l3Name ((h.rows.getD k (default : GRow)).name) false) ⟨⟨_, (.tmp rfl), .str⟩, ⟨_, .bool, .bool⟩, trivial⟩ vhd_ca_25 trivial) rfl rfl (Nat.le_of_ble_eq_true rfl) ?_
    refine AD.pure (PureOp.not rfl (.tmp rfl)) rfl rfl (Nat.le_of_ble_eq_true rfl) ?_
    refine AD.pure (PureOp.move rfl (.tmp rfl)) rfl rfl (Nat.le_of_ble_eq_true rfl) ?_
    refine AD.gpure (want := false) (.tf rfl) (fun hg2 => PureOp.fieldPtr rfl (.tmp rfl) vhd_fi_60_1_1) rfl rfl rfl (Nat.le_of_ble_eq_true rfl) ?_
    refine AD.gpure (want := false) (.tf rfl) (fun hg3 => PureOp.loadPtr rfl (.gtmp rfl hg3) vhd_pl_58 rfl rfl (Nat.le_of_ble_eq_true rfl) (Nat.le_of_ble_eq_true rfl)) rfl rfl rfl (Nat.le_of_ble_eq_true rfl) ?_
    refine AD.gpure (want := false) (.tf rfl) (fun hg4 => PureOp.lenLst rfl (.gtmp rfl hg4) vhd_sl_58) rfl rfl rfl (Nat.le_of_ble_eq_true rfl) ?_
    refine AD.gpure (want := false) (.tf rfl) (fun hg5 => PureOp.intOp rfl (.gtmp rfl hg5) .int rfl) rfl rfl rfl (Nat.le_of_ble_eq_true rfl) ?_
    refine AD.pure (PureOp.pick rfl (.tmp rfl) (fun _ => .bool) (fun hp7 => .gtmp rfl (not_of hp7))) rfl rfl (Nat.le_of_ble_eq_true rfl) ?_
    refine AD.pure (PureOp.move rfl (.tmp rfl)) rfl rfl (Nat.le_of_ble_eq_true rfl) ?_
    refine AD.gpure (want := false) (.tf rfl) (fun hg8 => PureOp.fieldPtr rfl (.tmp rfl) vhd_fi_60_1_1) rfl rfl rfl (Nat.le_of_ble_eq_true rfl) ?_
    refine AD.gpure (want := false) (.tf rfl) (fun hg9 => PureOp.loadPtr rfl (.gtmp rfl hg9) vhd_pl_58 rfl rfl (Nat.le_of_ble_eq_true rfl) (Nat.le_of_ble_eq_true rfl)) rfl rfl rfl (Nat.le_of_ble_eq_true rfl) ?_
    refine AD.gpure (want := false) (.tf rfl) (fun hg10 => PureOp.call rfl (v_GoodSamples ((h.rows.getD k (default : GRow)).samples)) ⟨⟨_, (.gtmp rfl hg10), .lst⟩, trivial⟩ vhd_ca_33 trivial) rfl rfl rfl (Nat.le_of_ble_eq_true rfl) ?_
    refine AD.gpure (want := false) (.tf rfl) (fun hg11 => PureOp.not rfl (.gtmp rfl hg11)) rfl rfl rfl (Nat.le_of_ble_eq_true rfl) ?_
    refine AD.pure (PureOp.pick rfl (.tmp rfl) (fun _ => .bool) (fun hp13 => .gtmp rfl (not_of hp13))) rfl rfl (Nat.le_of_ble_eq_true rfl) ?_
    refine AD.pure (PureOp.move rfl (.tmp rfl)) rfl rfl (Nat.le_of_ble_eq_true rfl) ?_
    refine AD.gpure (want := false) (.tf rfl) (fun hg14 => PureOp.move rfl (.tmp rfl)) rfl rfl rfl (Nat.le_of_ble_eq_true rfl) ?_
    refine AD.gpure (want := false) (.tf rfl) (fun hg15 => PureOp.intOp rfl (.gtmp rfl hg15) .int rfl) rfl rfl rfl (Nat.le_of_ble_eq_true rfl) ?_
    refine AD.gpure (want := false) (.tf rfl) (fun hg16 => PureOp.move rfl (.gtmp rfl hg16)) rfl rfl rfl (Nat.le_of_ble_eq_true rfl) ?_
    refine AD.gpure (want := true) (.gt rfl) (fun hg17 => PureOp.fieldPtr rfl (.tmp rfl) vhd_fi_37_0_0) rfl rfl rfl (Nat.le_of_ble_eq_true rfl) ?_
    refine AD.gpure (want := true) (.gt rfl) (fun hg18 => PureOp.loadPtr rfl (.gtmp rfl hg18) vhd_pl_35 rfl rfl (Nat.le_of_ble_eq_true rfl) (Nat.le_of_ble_eq_true rfl)) rfl rfl rfl (Nat.le_of_ble_eq_true rfl) ?_
    refine AD.gpure (want := true) (.gt rfl) (fun hg19 => PureOp.move rfl (.tmp rfl)) rfl rfl rfl (Nat.le_of_ble_eq_true rfl) ?_
    refine AD.gpure (want := true) (.gt rfl) (fun hg20 => PureOp.sub (c := (((k - 1) : Nat) : Int)) rfl (.gtmp rfl hg20) .int (by have q := hg20; simp only [Bool.cond_true_left, Bool.cond_false_right, Bool.not_eq_true', Bool.or_eq_false_iff, Bool.not_eq_false', Bool.and_eq_true, Bool.not_not, decide_eq_true_eq, decide_eq_false_iff_not, inB] at q; rw [wrap_id (by omega) (by omega)]; omega)) rfl rfl rfl (Nat.le_of_ble_eq_true rfl) ?_
    refine AD.gpure (want := true) (.gt rfl) (fun hg21 => PureOp.indexLst (i := (k - 1)) rfl (.gtmp rfl hg21) vhd_el_35_2 (.gtmp rfl hg21) rfl (by have q := hg21; simp only [Bool.cond_true_left, Bool.cond_false_right, Bool.not_eq_true', Bool.or_eq_false_iff, Bool.not_eq_false', Bool.and_eq_true, Bool.not_not, decide_eq_true_eq, decide_eq_false_iff_not, inB] at q; omega)) rfl rfl rfl (Nat.le_of_ble_eq_true rfl) ?_
    refine AD.gpure (want := true) (.gt rfl) (fun hg22 => PureOp.fieldRef rfl (.gtmp rfl hg22) vhd_fi_60_0_0 (Nat.le_of_ble_eq_true rfl)) rfl rfl rfl (Nat.le_of_ble_eq_true rfl) ?_
    refine AD.gpure (want := true) (.gt rfl) (fun hg23 => PureOp.loadRef rfl (.gtmp rfl hg23) vhd_pl_9 (Nat.le_of_ble_eq_true rfl)) rfl rfl rfl (Nat.le_of_ble_eq_true rfl) ?_
    refine AD.gpure (want := true) (.gt rfl) (fun hg24 => PureOp.fieldPtr rfl (.tmp rfl) vhd_fi_60_0_0) rfl rfl rfl (Nat.le_of_ble_eq_true rfl) ?_
    refine AD.gpure (want := true) (.gt rfl) (fun hg25 => PureOp.loadPtr rfl (.gtmp rfl hg25) vhd_pl_9 rfl rfl (Nat.le_of_ble_eq_true rfl) (Nat.le_of_ble_eq_true rfl)) rfl rfl rfl (Nat.le_of_ble_eq_true rfl) ?_
    refine AD.gpure (want := true) (.gt rfl) (fun hg26 => PureOp.strOp rfl (.gtmp rfl hg26) (.gtmp rfl hg26) rfl) rfl rfl rfl (Nat.le_of_ble_eq_true rfl) ?_
    refine AD.gpure (want := false) (.tf rfl) (fun hg27 => PureOp.pick rfl (.gtmp rfl hg27) (fun hp28 => .gtmp rfl (and_mk hg27 hp28)) (fun _ => .bool)) rfl rfl rfl (Nat.le_of_ble_eq_true rfl) ?_
    refine AD.pure (PureOp.pick rfl (.tmp rfl) (fun _ => .bool) (fun hp31 => .gtmp rfl (not_of hp31))) rfl rfl (Nat.le_of_ble_eq_true rfl) ?_
    refine AD.nil ?_
    refine AW.cond (.tmp rfl) (fun hb32 => ?_) (fun hb32 => ?_)
    · have _u := True.intro
      have hbd : rowBad h k = true := hb32
      refine AW.seq ?_
      refine AW.region ?_
      refine ARun.pure (PureOp.assign rfl .bool) rfl rfl (Nat.le_of_ble_eq_true rfl) ?_
      refine ARun.nil ?_
      refine AW.ret (show ResL _ _ [.tmp 2] _ from resB rfl ?_)
      have hno : (List.range h.rows.length).all (fun j => !rowBad h j) = false := rng_no hkl (by rw [hbd]; rfl)
      unfold goodHead; rw [hno]; rfl
    · have _u := True.intro
      have hbd : rowBad h k = false := hb32
      refine AW.skip ?_
      refine AW.region ?_
      refine ARun.pure (PureOp.add (c := ((k + 1 : Nat) : Int)) rfl (.tmp rfl) .int (by rw [wrap_id (by omega) (by omega)]; omega)) rfl rfl (Nat.le_of_ble_eq_true rfl) ?_
      refine ARun.pure (PureOp.move rfl (.tmp rfl)) rfl rfl (Nat.le_of_ble_eq_true rfl) ?_
      refine ARun.nil ?_
      exact ⟨k + 1, ⟨by omega, rng_succ (p := fun j => rowBad h j = false) hks hbd⟩, by dsimp only; omega, ⟨⟨⟨_, rfl, rfl⟩, ⟨_, rfl, rfl⟩, ⟨_, rfl, rfl⟩, ⟨_, rfl, rfl⟩, trivial⟩, HeapLe.one rfl trivial⟩⟩
  · have _u := True.intro
    replace hb1 := of_decide_eq_false hb1
    have hkl : ¬ k < h.rows.length := by omega
    have hall : (List.range h.rows.length).all (fun j => !rowBad h j) = true := rng_yes (fun j hj => by rw [hks j (by omega)]; rfl)
    refine AW.exit ?_
    refine AW.seq ?_
    refine AW.region ?_
    refine ARun.pure (PureOp.fieldPtr rfl (.tmp rfl) vhd_fi_37_0_0) rfl rfl (Nat.le_of_ble_eq_true rfl) ?_
    refine ARun.pure (PureOp.loadPtr rfl (.tmp rfl) vhd_pl_35 rfl rfl (Nat.le_of_ble_eq_true rfl) (Nat.le_of_ble_eq_true rfl)) rfl rfl (Nat.le_of_ble_eq_true rfl) ?_
    refine ARun.pure (PureOp.lenLst rfl (.tmp rfl) vhd_sl_35) rfl rfl (Nat.le_of_ble_eq_true rfl) ?_
    refine ARun.pure (PureOp.intOp rfl (.tmp rfl) .int rfl) rfl rfl (Nat.le_of_ble_eq_true rfl) ?_
    refine ARun.pure (PureOp.move rfl (.tmp rfl)) rfl rfl (Nat.le_of_ble_eq_true rfl) ?_
    refine ARun.gpure (want := true) (.tt rfl) (fun hg33 => PureOp.fieldPtr rfl (.tmp rfl) vhd_fi_37_1_1) rfl rfl (Nat.le_of_ble_eq_true rfl) rfl (Nat.le_of_ble_eq_true rfl) ?_
    refine ARun.gpure (want := true) (.tt rfl) (fun hg34 => PureOp.loadPtr rfl (.gtmp rfl hg34) vhd_pl_3 rfl rfl (Nat.le_of_ble_eq_true rfl) (Nat.le_of_ble_eq_true rfl)) rfl rfl (Nat.le_of_ble_eq_true rfl) rfl (Nat.le_of_ble_eq_true rfl) ?_
    refine ARun.gpure (want := true) (.tt rfl) (fun hg35 => PureOp.call rfl (v_l1In h.offset 0 1000) ⟨⟨_, (.gtmp rfl hg35), .int⟩, ⟨_, .int, .int⟩, ⟨_, .int, .int⟩, trivial⟩ vhd_ca_26 trivial) rfl rfl (Nat.le_of_ble_eq_true rfl) rfl (Nat.le_of_ble_eq_true rfl) ?_
    refine ARun.pure (PureOp.pick rfl (.tmp rfl) (fun hp36 => .gtmp rfl hp36) (fun _ => .bool)) rfl rfl (Nat.le_of_ble_eq_true rfl) ?_
    refine ARun.pure (PureOp.assign rfl (.tmp rfl)) rfl rfl (Nat.le_of_ble_eq_true rfl) ?_
    refine ARun.nil ?_
    refine AW.ret (show ResL _ _ [.tmp 2] _ from resB rfl ?_)
    unfold goodHead; rw [hall]; rfl

def rowBadI (h : GHead) (k : Nat) : Bool :=
  cond (cond (cond (!(nameB ((h.rows.getD k (default : GRow)).name) false)) true (cond (decide (0 < (k : Int))) (!Op.bytesLess ((h.rows.getD (k - 1) (default : GRow)).name).toList ((h.rows.getD k (default : GRow)).name).toList) false)) true (decide (((((h.rows.getD k (default : GRow)).samples).length : Nat) : Int) = 0))) true (!(samplesB ((h.rows.getD k (default : GRow)).samples)))
theorem rowBad_eq (h : GHead) (k : Nat) : rowBad h k = rowBadI h k := by
  unfold rowBad rowBadI
  generalize nameB _ false = a1
  generalize samplesB _ = a2
  generalize decide ((_ : Int) = 0) = a3
  generalize cond (decide ((0 : Int) < (k : Int))) _ false = a4
  revert a1 a2 a3 a4; decide
theorem v_isHead (h : GHead) : Fn Tryd.prog 22 [.agg [.lst 2 h.rows.length (fun i0 j0 => ([.str ((h.rows.getD i0 (default : GRow)).name), .lst 2 (((h.rows.getD i0 (default : GRow)).samples).length) (fun i1 j1 => ([.int .i64 ((((h.rows.getD i0 (default : GRow)).samples).getD i1 (default : GSample)).at_), .int .i64 ((((h.rows.getD i0 (default : GRow)).samples).getD i1 (default : GSample)).value)] : List AV).getD j1 (.con undef))] : List AV).getD j0 (.con undef)), .int .i64 h.offset]] (.one (.bool (goodHead h))) := by
  refine Fn.of_body (fn := Tryd.f22) Tryd.func22 rfl (Nat.le_of_ble_eq_true rfl) trivial ?_
  intro w0
  show AW _ 55 _ _ _ _
  refine AW.boundAL (t := 0) (j := 0) rfl rfl fun hx => ?_
  refine AW.seq ?_
  refine AW.region ?_
  refine ARun.box (id := 0) rfl (.tmp rfl) (SV.cells_of (by exact ⟨trivial, trivial, trivial⟩)) ⟨rfl, (by repeat first | exact trivial | refine ⟨by decide, by first | rfl | exact trivial | (intro i j; first | rfl | exact getD_no rfl | (dsimp only; split <;> first | rfl | exact getD_no rfl) | exact scl_no (by apply_assumption) _), ?_⟩)⟩ rfl rfl rfl (Nat.le_of_ble_eq_true rfl) ?_
  refine ARun.pure (PureOp.assign rfl .bool) rfl rfl (Nat.le_of_ble_eq_true rfl) ?_
  refine ARun.nil ?_
  refine AW.seq ?_
  refine AW.seq ?_
  refine AW.region ?_
  refine ARun.pure (PureOp.fieldPtr rfl (.tmp rfl) vhd_fi_37_0_0) rfl rfl (Nat.le_of_ble_eq_true rfl) ?_
  refine ARun.pure (PureOp.loadPtr rfl (.tmp rfl) vhd_pl_35 rfl rfl (Nat.le_of_ble_eq_true rfl) (Nat.le_of_ble_eq_true rfl)) rfl rfl (Nat.le_of_ble_eq_true rfl) ?_
  refine ARun.pure (PureOp.lenLst rfl (.tmp rfl) vhd_sl_35) rfl rfl (Nat.le_of_ble_eq_true rfl) ?_
  refine ARun.pure (PureOp.move rfl .int) rfl rfl (Nat.le_of_ble_eq_true rfl) ?_
  refine ARun.nil ?_
  refine AW.block ?_
  refine AW.loop (ι := Nat) (fun k => ⟨[(1, .one (.ptr 0 2 0 0)), (6, .one (.lst 2 h.rows.length (fun i0 j0 => ([.str ((h.rows.getD i0 (default : GRow)).name), .lst 2 (((h.rows.getD i0 (default : GRow)).samples).length) (fun i1 j1 => ([.int .i64 ((((h.rows.getD i0 (default : GRow)).samples).getD i1 (default : GSample)).at_), .int .i64 ((((h.rows.getD i0 (default : GRow)).samples).getD i1 (default : GSample)).value)] : List AV).getD j1 (.con undef))] : List AV).getD j0 (.con undef)))), (7, .one (.int .i64 (h.rows.length : Int))), (8, .one (.int .i64 (k : Int)))], [(0, .cells [.lst 2 h.rows.length (fun i0 j0 => ([.str ((h.rows.getD i0 (default : GRow)).name), .lst 2 (((h.rows.getD i0 (default : GRow)).samples).length) (fun i1 j1 => ([.int .i64 ((((h.rows.getD i0 (default : GRow)).samples).getD i1 (default : GSample)).at_), .int .i64 ((((h.rows.getD i0 (default : GRow)).samples).getD i1 (default : GSample)).value)] : List AV).getD j1 (.con undef))] : List AV).getD j0 (.con undef)), .int .i64 h.offset])]⟩) (fun k => k ≤ h.rows.length ∧ ∀ j, j < k → rowBad h j = false) (fun k => h.rows.length - k) 0 ⟨Nat.zero_le _, fun j hj => absurd hj (by omega)⟩ ⟨⟨⟨_, rfl, rfl⟩, ⟨_, rfl, rfl⟩, ⟨_, rfl, rfl⟩, ⟨_, rfl, rfl⟩, trivial⟩, HeapLe.one rfl trivial⟩ ?_
  intro k hI
  obtain ⟨hk, hks⟩ := hI
  refine AW.seq ?_
  refine AW.region ?_
  refine ARun.pure (PureOp.intOp rfl (.tmp rfl) (.tmp rfl) rfl) rfl rfl (Nat.le_of_ble_eq_true rfl) ?_
  refine ARun.nil ?_
  refine AW.seq ?_
  refine AW.cond (.tmp rfl) (fun hb1 => ?_) (fun hb1 => ?_)
  · have _u := True.intro
    replace hb1 := of_decide_eq_true hb1
    have hkl : k < h.rows.length := by omega
    refine AW.skip ?_
    refine AW.seq ?_
    refine AW.block ?_
    refine AW.seq ?_
    refine AW.region ?_
    refine ARun.pure (PureOp.move rfl (.tmp rfl)) rfl rfl (Nat.le_of_ble_eq_true rfl) ?_
    refine ARun.pure (PureOp.indexLst (i := k) rfl (.tmp rfl) vhd_el_35_2 (.tmp rfl) rfl (by omega)) rfl rfl (Nat.le_of_ble_eq_true rfl) ?_
    refine ARun.pure (PureOp.loadRefAgg rfl (.tmp rfl) vhd_ag_60_2 (Nat.le_of_ble_eq_true rfl)) rfl rfl (Nat.le_of_ble_eq_true rfl) ?_
    refine ARun.alloc (id := 1) (l := [.str ByteArray.empty, .lst 2 0 (fun _ _ => .con undef)]) (z := (.agg #[.string ByteArray.empty, .slice none 0 0])) rfl (by kernel_rfl) (fun _ _ _ => ⟨_, _, rfl, ⟨rfl, by decide⟩, ⟨_, _, rfl, ⟨none, 0, rfl, Nat.le_refl _, by decide, fun _ => rfl, fun i hi => absurd hi (by omega)⟩, rfl⟩⟩) ⟨rfl, (by repeat first | exact trivial | refine ⟨by decide, by first | rfl | exact trivial | (intro i j; first | rfl | exact getD_no rfl | (dsimp only; split <;> first | rfl | exact getD_no rfl) | exact scl_no (by apply_assumption) _), ?_⟩)⟩ rfl rfl rfl (Nat.le_of_ble_eq_true rfl) ?_
    refine ARun.pure (PureOp.assign rfl (.tmp rfl)) rfl rfl (Nat.le_of_ble_eq_true rfl) ?_
    refine ARun.store rfl (.tmp rfl) (.tmp rfl) (SV.cells_of (by exact ⟨trivial, trivial, trivial⟩)) rfl (Nat.le_of_ble_eq_true rfl) vhd_sz_60_2 rfl rfl ?_
    refine ARun.nil ?_
    refine AW.seq ?_
    refine AW.any (by kernel_rfl) (by kernel_rfl) ?_
    refine AD.pure (PureOp.fieldPtr rfl (.tmp rfl) vhd_fi_60_0_0) rfl rfl (Nat.le_of_ble_eq_true rfl) ?_
    refine AD.pure (PureOp.loadPtr rfl (.tmp rfl) vhd_pl_9 rfl rfl (Nat.le_of_ble_eq_true rfl) (Nat.le_of_ble_eq_true rfl)) rfl rfl (Nat.le_of_ble_eq_true rfl) ?_
    refine AD.pure (PureOp.call rfl (v_isWord ((h.rows.getD k (default : GRow)).name) false) ⟨⟨_, (.tmp rfl), .str⟩, ⟨_, .bool, .bool⟩, trivial⟩ vhd_ca_29 trivial) rfl rfl (Nat.le_of_ble_eq_true rfl) ?_
    refine AD.pure (PureOp.not rfl (.tmp rfl)) rfl rfl (Nat.le_of_ble_eq_true rfl) ?_
    refine AD.pure (PureOp.move rfl (.tmp rfl)) rfl rfl (Nat.le_of_ble_eq_true rfl) ?_
    refine AD.gpure (want := false) (.tf rfl) (fun hg2 => PureOp.move rfl (.tmp rfl)) rfl rfl rfl (Nat.le_of_ble_eq_true rfl) ?_
    refine AD.gpure (want := false) (.tf rfl) (fun hg3 => PureOp.intOp rfl (.gtmp rfl hg3) .int rfl) rfl rfl rfl (Nat.le_of_ble_eq_true rfl) ?_
    refine AD.gpure (want := false) (.tf rfl) (fun hg4 => PureOp.move rfl (.gtmp rfl hg4)) rfl rfl rfl (Nat.le_of_ble_eq_true rfl) ?_
    refine AD.gpure (want := true) (.gt rfl) (fun hg5 => PureOp.fieldPtr rfl (.tmp rfl) vhd_fi_37_0_0) rfl rfl rfl (Nat.le_of_ble_eq_true rfl) ?_
    refine AD.gpure (want := true) (.gt rfl) (fun hg6 => PureOp.loadPtr rfl (.gtmp rfl hg6) vhd_pl_35 rfl rfl (Nat.le_of_ble_eq_true rfl) (Nat.le_of_ble_eq_true rfl)) rfl rfl rfl (Nat.le_of_ble_eq_true rfl) ?_
    refine AD.gpure (want := true) (.gt rfl) (fun hg7 => PureOp.move rfl (.tmp rfl)) rfl rfl rfl (Nat.le_of_ble_eq_true rfl) ?_
    refine AD.gpure (want := true) (.gt rfl) (fun hg8 => PureOp.sub (c := (((k - 1) : Nat) : Int)) rfl (.gtmp rfl hg8) .int (by have q := hg8; simp only [Bool.cond_true_left, Bool.cond_false_right, Bool.not_eq_true', Bool.or_eq_false_iff, Bool.not_eq_false', Bool.and_eq_true, Bool.not_not, decide_eq_true_eq, decide_eq_false_iff_not, inB] at q; rw [wrap_id (by omega) (by omega)]; omega)) rfl rfl rfl (Nat.le_of_ble_eq_true rfl) ?_
    refine AD.gpure (want := true) (.gt rfl) (fun hg9 => PureOp.indexLst (i := (k - 1)) rfl (.gtmp rfl hg9) vhd_el_35_2 (.gtmp rfl hg9) rfl (by have q := hg9; simp only [Bool.cond_true_left, Bool.cond_false_right, Bool.not_eq_true', Bool.or_eq_false_iff, Bool.not_eq_false', Bool.and_eq_true, Bool.not_not, decide_eq_true_eq, decide_eq_false_iff_not, inB] at q; omega)) rfl rfl rfl (Nat.le_of_ble_eq_true rfl) ?_
    refine AD.gpure (want := true) (.gt rfl) (fun hg10 => PureOp.fieldRef rfl (.gtmp rfl hg10) vhd_fi_60_0_0 (Nat.le_of_ble_eq_true rfl)) rfl rfl rfl (Nat.le_of_ble_eq_true rfl) ?_
    refine AD.gpure (want := true) (.gt rfl) (fun hg11 => PureOp.loadRef rfl (.gtmp rfl hg11) vhd_pl_9 (Nat.le_of_ble_eq_true rfl)) rfl rfl rfl (Nat.le_of_ble_eq_true rfl) ?_
    refine AD.gpure (want := true) (.gt rfl) (fun hg12 => PureOp.fieldPtr rfl (.tmp rfl) vhd_fi_60_0_0) rfl rfl rfl (Nat.le_of_ble_eq_true rfl) ?_
    refine AD.gpure (want := true) (.gt rfl) (fun hg13 => PureOp.loadPtr rfl (.gtmp rfl hg13) vhd_pl_9 rfl rfl (Nat.le_of_ble_eq_true rfl) (Nat.le_of_ble_eq_true rfl)) rfl rfl rfl (Nat.le_of_ble_eq_true rfl) ?_
    refine AD.gpure (want := true) (.gt rfl) (fun hg14 => PureOp.strOp rfl (.gtmp rfl hg14) (.gtmp rfl hg14) rfl) rfl rfl rfl (Nat.le_of_ble_eq_true rfl) ?_
    refine AD.gpure (want := false) (.tf rfl) (fun hg15 => PureOp.pick rfl (.gtmp rfl hg15) (fun hp16 => .gtmp rfl (and_mk hg15 hp16)) (fun _ => .bool)) rfl rfl rfl (Nat.le_of_ble_eq_true rfl) ?_
    refine AD.pure (PureOp.pick rfl (.tmp rfl) (fun _ => .bool) (fun hp19 => .gtmp rfl (not_of hp19))) rfl rfl (Nat.le_of_ble_eq_true rfl) ?_
    refine AD.pure (PureOp.move rfl (.tmp rfl)) rfl rfl (Nat.le_of_ble_eq_true rfl) ?_
    refine AD.gpure (want := false) (.tf rfl) (fun hg20 => PureOp.fieldPtr rfl (.tmp rfl) vhd_fi_60_1_1) rfl rfl rfl (Nat.le_of_ble_eq_true rfl) ?_
    refine AD.gpure (want := false) (.tf rfl) (fun hg21 => PureOp.loadPtr rfl (.gtmp rfl hg21) vhd_pl_58 rfl rfl (Nat.le_of_ble_eq_true rfl) (Nat.le_of_ble_eq_true rfl)) rfl rfl rfl (Nat.le_of_ble_eq_true rfl) ?_
    refine AD.gpure (want := false) (.tf rfl) (fun hg22 => PureOp.lenLst rfl (.gtmp rfl hg22) vhd_sl_58) rfl rfl rfl (Nat.le_of_ble_eq_true rfl) ?_
    refine AD.gpure (want := false) (.tf rfl) (fun hg23 => PureOp.intOp rfl (.gtmp rfl hg23) .int rfl) rfl rfl rfl (Nat.le_of_ble_eq_true rfl) ?_
    refine AD.pure (PureOp.pick rfl (.tmp rfl) (fun _ => .bool) (fun hp25 => .gtmp rfl (not_of hp25))) rfl rfl (Nat.le_of_ble_eq_true rfl) ?_
    refine AD.pure (PureOp.move rfl (.tmp rfl)) rfl rfl (Nat.le_of_ble_eq_true rfl) ?_
    refine AD.gpure (want := false) (.tf rfl) (fun hg26 => PureOp.fieldPtr rfl (.tmp rfl) vhd_fi_60_1_1) rfl rfl rfl (Nat.le_of_ble_eq_true rfl) ?_
    refine AD.gpure (want := false) (.tf rfl) (fun hg27 => PureOp.loadPtr rfl (.gtmp rfl hg27) vhd_pl_58 rfl rfl (Nat.le_of_ble_eq_true rfl) (Nat.le_of_ble_eq_true rfl)) rfl rfl rfl (Nat.le_of_ble_eq_true rfl) ?_
    refine AD.gpure (want := false) (.tf rfl) (fun hg28 => PureOp.call rfl (v_areSamples ((h.rows.getD k (default : GRow)).samples)) ⟨⟨_, (.gtmp rfl hg28), .lst⟩, trivial⟩ vhd_ca_35 trivial) rfl rfl rfl (Nat.le_of_ble_eq_true rfl) ?_
    refine AD.gpure (want := false) (.tf rfl) (fun hg29 => PureOp.not rfl (.gtmp rfl hg29)) rfl rfl rfl (Nat.le_of_ble_eq_true rfl) ?_
    refine AD.pure (PureOp.pick rfl (.tmp rfl) (fun _ => .bool) (fun hp31 => .gtmp rfl (not_of hp31))) rfl rfl (Nat.le_of_ble_eq_true rfl) ?_
    refine AD.nil ?_
    refine AW.cond (.tmp rfl) (fun hb32 => ?_) (fun hb32 => ?_)
    · have _u := True.intro
      have hbd : rowBad h k = true := (rowBad_eq h k).trans hb32
      refine AW.seq ?_
      refine AW.region ?_
      refine ARun.pure (PureOp.assign rfl .bool) rfl rfl (Nat.le_of_ble_eq_true rfl) ?_
      refine ARun.nil ?_
      refine AW.ret (show ResL _ _ [.tmp 2] _ from resB rfl ?_)
      have hno : (List.range h.rows.length).all (fun j => !rowBad h j) = false := rng_no hkl (by rw [hbd]; rfl)
      unfold goodHead; rw [hno]; rfl
    · have _u := True.intro
      have hbd : rowBad h k = false := (rowBad_eq h k).trans hb32
      refine AW.skip ?_
      refine AW.region ?_
      refine ARun.pure (PureOp.add (c := ((k + 1 : Nat) : Int)) rfl (.tmp rfl) .int (by rw [wrap_id (by omega) (by omega)]; omega)) rfl rfl (Nat.le_of_ble_eq_true rfl) ?_
      refine ARun.pure (PureOp.move rfl (.tmp rfl)) rfl rfl (Nat.le_of_ble_eq_true rfl) ?_
      refine ARun.nil ?_
      exact ⟨k + 1, ⟨by omega, rng_succ (p := fun j => rowBad h j = false) hks hbd⟩, by dsimp only; omega, ⟨⟨⟨_, rfl, rfl⟩, ⟨_, rfl, rfl⟩, ⟨_, rfl, rfl⟩, ⟨_, rfl, rfl⟩, trivial⟩, HeapLe.one rfl trivial⟩⟩
  · have _u := True.intro
    replace hb1 := of_decide_eq_false hb1
    have hkl : ¬ k < h.rows.length := by omega
    have hall : (List.range h.rows.length).all (fun j => !rowBad h j) = true := rng_yes (fun j hj => by rw [hks j (by omega)]; rfl)
    refine AW.exit ?_
    refine AW.seq ?_
    refine AW.region ?_
    refine ARun.pure (PureOp.fieldPtr rfl (.tmp rfl) vhd_fi_37_0_0) rfl rfl (Nat.le_of_ble_eq_true rfl) ?_
    refine ARun.pure (PureOp.loadPtr rfl (.tmp rfl) vhd_pl_35 rfl rfl (Nat.le_of_ble_eq_true rfl) (Nat.le_of_ble_eq_true rfl)) rfl rfl (Nat.le_of_ble_eq_true rfl) ?_
    refine ARun.pure (PureOp.lenLst rfl (.tmp rfl) vhd_sl_35) rfl rfl (Nat.le_of_ble_eq_true rfl) ?_
    refine ARun.pure (PureOp.intOp rfl (.tmp rfl) .int rfl) rfl rfl (Nat.le_of_ble_eq_true rfl) ?_
    refine ARun.pure (PureOp.move rfl (.tmp rfl)) rfl rfl (Nat.le_of_ble_eq_true rfl) ?_
    refine ARun.gpure (want := true) (.tt rfl) (fun hg33 => PureOp.fieldPtr rfl (.tmp rfl) vhd_fi_37_1_1) rfl rfl (Nat.le_of_ble_eq_true rfl) rfl (Nat.le_of_ble_eq_true rfl) ?_
    refine ARun.gpure (want := true) (.tt rfl) (fun hg34 => PureOp.loadPtr rfl (.gtmp rfl hg34) vhd_pl_3 rfl rfl (Nat.le_of_ble_eq_true rfl) (Nat.le_of_ble_eq_true rfl)) rfl rfl (Nat.le_of_ble_eq_true rfl) rfl (Nat.le_of_ble_eq_true rfl) ?_
    refine ARun.gpure (want := true) (.tt rfl) (fun hg35 => PureOp.call rfl (v_within h.offset 0 1000) ⟨⟨_, (.gtmp rfl hg35), .int⟩, ⟨_, .int, .int⟩, ⟨_, .int, .int⟩, trivial⟩ vhd_ca_36 trivial) rfl rfl (Nat.le_of_ble_eq_true rfl) rfl (Nat.le_of_ble_eq_true rfl) ?_
    refine ARun.pure (PureOp.pick rfl (.tmp rfl) (fun hp36 => .gtmp rfl hp36) (fun _ => .bool)) rfl rfl (Nat.le_of_ble_eq_true rfl) ?_
    refine ARun.pure (PureOp.assign rfl (.tmp rfl)) rfl rfl (Nat.le_of_ble_eq_true rfl) ?_
    refine ARun.nil ?_
    refine AW.ret (show ResL _ _ [.tmp 2] _ from resB rfl ?_)
    unfold goodHead; rw [hall]; rfl
end Go.Proofs.YtmfkmifkkplidaaDoor


/-
  HeadText: the reference and the program write the same.
-/
namespace Go.Proofs.YtmfkmifkkplidaaDoor
open Go.ChangeShapes Go.WideShapes Go.ChangeAt Go.RowKit Go.BigFrame Go.Deep
set_option linter.unusedVariables false
set_option linter.unusedSimpArgs false
theorem vhy_ag_37_2 : aggB Tryd.prog 37 2 = true := by kernel_rfl
theorem vhy_ag_53_2 : aggB Tryd.prog 53 2 = true := by kernel_rfl
theorem vhy_ag_60_2 : aggB Tryd.prog 60 2 = true := by kernel_rfl
theorem vhy_ca_15 : callB Tryd.prog 15 = true := by kernel_rfl
theorem vhy_ca_19 : callB Tryd.prog 19 = true := by kernel_rfl
theorem vhy_ca_20 : callB Tryd.prog 20 = true := by kernel_rfl
theorem vhy_ca_22 : callB Tryd.prog 22 = true := by kernel_rfl
theorem vhy_ca_23 : callB Tryd.prog 23 = true := by kernel_rfl
theorem vhy_ca_27 : callB Tryd.prog 27 = true := by kernel_rfl
theorem vhy_el_35_2 : elemB Tryd.prog 35 2 = true := by kernel_rfl
theorem vhy_el_58_2 : elemB Tryd.prog 58 2 = true := by kernel_rfl
theorem vhy_fi_37_0_0 : fieldB Tryd.prog 37 0 0 = true := by kernel_rfl
theorem vhy_fi_37_1_1 : fieldB Tryd.prog 37 1 1 = true := by kernel_rfl
theorem vhy_fi_53_0_0 : fieldB Tryd.prog 53 0 0 = true := by kernel_rfl
theorem vhy_fi_53_1_1 : fieldB Tryd.prog 53 1 1 = true := by kernel_rfl
theorem vhy_fi_60_0_0 : fieldB Tryd.prog 60 0 0 = true := by kernel_rfl
theorem vhy_fi_60_1_1 : fieldB Tryd.prog 60 1 1 = true := by kernel_rfl
theorem vhy_pl_3 : plainB Tryd.prog 3 = true := by kernel_rfl
theorem vhy_pl_35 : plainB Tryd.prog 35 = true := by kernel_rfl
theorem vhy_pl_58 : plainB Tryd.prog 58 = true := by kernel_rfl
theorem vhy_pl_9 : plainB Tryd.prog 9 = true := by kernel_rfl
theorem vhy_sl_35 : sliceB Tryd.prog 35 = true := by kernel_rfl
theorem vhy_sl_58 : sliceB Tryd.prog 58 = true := by kernel_rfl
theorem vhy_sz_53_2 : sizeB Tryd.prog 53 2 = true := by kernel_rfl
theorem vhy_sz_60_2 : sizeB Tryd.prog 60 2 = true := by kernel_rfl
def headV (h : GHead) : ByteArray × Bool := if goodHead h = true then (headT h, true) else (⟨#[]⟩, false)
theorem samples_ok {l : List GSample} (hg : samplesB l = true) : l.length ≤ 40 ∧ ∀ j, j < l.length → inB 0 1000000000 (l.getD j default).at_ = true ∧ inB (-1000000000) 1000000000 (l.getD j default).value = true := by
  unfold samplesB at hg
  rw [Bool.and_eq_true] at hg
  have h0 := of_decide_eq_true hg.2
  refine ⟨by omega, fun j hj => ?_⟩
  have h4 := List.all_eq_true.1 hg.1 j (List.mem_range.2 hj)
  rw [Bool.not_eq_true'] at h4
  unfold saBad at h4
  revert h4
  generalize inB 0 _ _ = a1
  generalize inB (-1000000000) _ _ = a2
  generalize cond (decide ((0 : Int) < (j : Int))) _ false = a3
  revert a1 a2 a3; decide
theorem good_rows {h : GHead} (hg : goodHead h = true) (i : Nat) (hi : i < h.rows.length) : nameB (h.rows.getD i default).name false = true ∧ samplesB (h.rows.getD i default).samples = true := by
  unfold goodHead at hg
  rw [Bool.and_eq_true] at hg
  have h4 := List.all_eq_true.1 hg.1 i (List.mem_range.2 hi)
  rw [Bool.not_eq_true'] at h4
  unfold rowBad at h4
  revert h4
  generalize nameB _ false = a1
  generalize samplesB _ = a2
  generalize decide ((_ : Int) = 0) = a3
  generalize cond (decide ((0 : Int) < (i : Int))) _ false = a4
  revert a1 a2 a3 a4; decide
theorem good_ok {h : GHead} (hg : goodHead h = true) : HeadOk h := by
  have hr := good_rows hg
  unfold goodHead at hg
  simp only [Bool.cond_false_right, Bool.and_eq_true] at hg
  obtain ⟨h1, h2, h3⟩ := hg
  obtain ⟨c1, c2⟩ := inB_true h3
  have h2' := of_decide_eq_true h2
  refine ⟨by omega, by omega, by omega, fun i hi => (samples_ok (hr i hi).2).1, fun i j hi hj => ?_⟩
  obtain ⟨n1, n2⟩ := hr i hi
  have n3 : (h.rows.getD i default).name.size ≤ 8 := by
    unfold nameB at n1
    rw [Bool.and_eq_true] at n1
    have := (inB_true n1.2).2
    omega
  obtain ⟨m1, m2⟩ := (samples_ok n2).2 j hj
  have e1 := inB_true m1
  have e2 := inB_true m2
  exact ⟨by dsimp only; omega, e1.1, by dsimp only; omega, by dsimp only; omega, by dsimp only; omega⟩
theorem headV_plain (h : GHead) : (headV h).1.size ≤ maxLen := by
  unfold headV
  by_cases hg : goodHead h = true
  · rw [if_pos hg]; exact headT_plain (good_ok hg)
  · rw [if_neg hg]; exact Nat.zero_le _

theorem v_l13HeadText (h : GHead) (hok : HeadOk h) : Fn Tryd.prog 20 [.agg [.lst 2 h.rows.length (fun i0 j0 => ([.str ((h.rows.getD i0 (default : GRow)).name), .lst 2 (((h.rows.getD i0 (default : GRow)).samples).length) (fun i1 j1 => ([.int .i64 ((((h.rows.getD i0 (default : GRow)).samples).getD i1 (default : GSample)).at_), .int .i64 ((((h.rows.getD i0 (default : GRow)).samples).getD i1 (default : GSample)).value)] : List AV).getD j1 (.con undef))] : List AV).getD j0 (.con undef)), .int .i64 h.offset]] (.one (.str (headT h))) := by
  have hN := hok.n
  have o0 := hok.o0
  have o1 := hok.o1
  have hnl : (⟨#[10]⟩ : ByteArray).size = 1 := rfl
  have hso : (itoaB h.offset).size ≤ 21 := itoaB_size (by omega) (by omega)
  refine Fn.of_body (fn := Tryd.f20) Tryd.func20 rfl (Nat.le_of_ble_eq_true rfl) (headT_plain hok) ?_
  intro w0
  show AW _ 40 _ _ _ _
  refine AW.boundAL (t := 0) (j := 0) rfl rfl fun hx => ?_
  refine AW.seq ?_
  refine AW.region ?_
  refine ARun.box (id := 0) rfl (.tmp rfl) (SV.cells_of (by exact ⟨trivial, trivial, trivial⟩)) ⟨rfl, (by repeat first | exact trivial | refine ⟨by decide, by first | rfl | exact trivial | (intro i j; first | rfl | exact getD_no rfl | (dsimp only; split <;> first | rfl | exact getD_no rfl) | exact scl_no (by apply_assumption) _), ?_⟩)⟩ rfl rfl rfl (Nat.le_of_ble_eq_true rfl) ?_
  refine ARun.pure (PureOp.assign rfl (.str (by decide))) rfl rfl (Nat.le_of_ble_eq_true rfl) ?_
  refine ARun.nil ?_
  refine AW.seq ?_
  refine AW.region ?_
  refine ARun.pure (PureOp.fieldPtr rfl (.tmp rfl) vhy_fi_37_1_1) rfl rfl (Nat.le_of_ble_eq_true rfl) ?_
  refine ARun.pure (PureOp.loadPtr rfl (.tmp rfl) vhy_pl_3 rfl rfl (Nat.le_of_ble_eq_true rfl) (Nat.le_of_ble_eq_true rfl)) rfl rfl (Nat.le_of_ble_eq_true rfl) ?_
  refine ARun.pure (PureOp.call rfl (v_NumI h.offset (by omega) (by omega)) ⟨⟨_, (.tmp rfl), .int⟩, trivial⟩ vhy_ca_27 (itoaB_plain (by omega) (by omega))) rfl rfl (Nat.le_of_ble_eq_true rfl) ?_
  refine ARun.pure (PureOp.strAdd rfl (.tmp rfl) (.str (by decide)) (by skip; (try simp only [ByteArray.size_append]); omega)) rfl rfl (Nat.le_of_ble_eq_true rfl) ?_
  refine ARun.pure (PureOp.assign rfl (.tmp rfl)) rfl rfl (Nat.le_of_ble_eq_true rfl) ?_
  refine ARun.nil ?_
  refine AW.seq ?_
  refine AW.seq ?_
  refine AW.region ?_
  refine ARun.pure (PureOp.fieldPtr rfl (.tmp rfl) vhy_fi_37_0_0) rfl rfl (Nat.le_of_ble_eq_true rfl) ?_
  refine ARun.pure (PureOp.loadPtr rfl (.tmp rfl) vhy_pl_35 rfl rfl (Nat.le_of_ble_eq_true rfl) (Nat.le_of_ble_eq_true rfl)) rfl rfl (Nat.le_of_ble_eq_true rfl) ?_
  refine ARun.pure (PureOp.lenLst rfl (.tmp rfl) vhy_sl_35) rfl rfl (Nat.le_of_ble_eq_true rfl) ?_
  refine ARun.pure (PureOp.move rfl .int) rfl rfl (Nat.le_of_ble_eq_true rfl) ?_
  refine ARun.nil ?_
  refine AW.block ?_
  refine AW.loop (ι := Nat) (fun k => ⟨[(3, .one (.str (accH h k))), (13, .one (.lst 2 h.rows.length (fun i0 j0 => ([.str ((h.rows.getD i0 (default : GRow)).name), .lst 2 (((h.rows.getD i0 (default : GRow)).samples).length) (fun i1 j1 => ([.int .i64 ((((h.rows.getD i0 (default : GRow)).samples).getD i1 (default : GSample)).at_), .int .i64 ((((h.rows.getD i0 (default : GRow)).samples).getD i1 (default : GSample)).value)] : List AV).getD j1 (.con undef))] : List AV).getD j0 (.con undef)))), (14, .one (.int .i64 (h.rows.length : Int))), (15, .one (.int .i64 (k : Int)))], []⟩) (fun k => k ≤ h.rows.length) (fun k => h.rows.length - k) 0 (Nat.zero_le _) ⟨⟨⟨_, rfl, rfl⟩, ⟨_, rfl, rfl⟩, ⟨_, rfl, rfl⟩, ⟨_, rfl, rfl⟩, trivial⟩, trivial⟩ ?_
  intro k hk
  have hTk := accH_size hok k hk
  refine AW.seq ?_
  refine AW.region ?_
  refine ARun.pure (PureOp.intOp rfl (.tmp rfl) (.tmp rfl) rfl) rfl rfl (Nat.le_of_ble_eq_true rfl) ?_
  refine ARun.nil ?_
  refine AW.seq ?_
  refine AW.cond (.tmp rfl) (fun hb1 => ?_) (fun hb1 => ?_)
  · have _u := True.intro
    replace hb1 := of_decide_eq_true hb1
    have hkl : k < h.rows.length := by omega
    have hM := hok.m k hkl
    refine AW.skip ?_
    refine AW.seq ?_
    refine AW.block ?_
    refine AW.seq ?_
    refine AW.region ?_
    refine ARun.pure (PureOp.indexLst (i := k) rfl (.tmp rfl) vhy_el_35_2 (.tmp rfl) rfl (by omega)) rfl rfl (Nat.le_of_ble_eq_true rfl) ?_
    refine ARun.pure (PureOp.loadRefAgg rfl (.tmp rfl) vhy_ag_60_2 (Nat.le_of_ble_eq_true rfl)) rfl rfl (Nat.le_of_ble_eq_true rfl) ?_
    refine ARun.alloc (id := 1) (l := [.str ByteArray.empty, .lst 2 0 (fun _ _ => .con undef)]) (z := (.agg #[.string ByteArray.empty, .slice none 0 0])) rfl (by kernel_rfl) (fun _ _ _ => ⟨_, _, rfl, ⟨rfl, by decide⟩, ⟨_, _, rfl, ⟨none, 0, rfl, Nat.le_refl _, by decide, fun _ => rfl, fun i hi => absurd hi (by omega)⟩, rfl⟩⟩) ⟨rfl, (by repeat first | exact trivial | refine ⟨by decide, by first | rfl | exact trivial | (intro i j; first | rfl | exact getD_no rfl | (dsimp only; split <;> first | rfl | exact getD_no rfl) | exact scl_no (by apply_assumption) _), ?_⟩)⟩ rfl rfl rfl (Nat.le_of_ble_eq_true rfl) ?_
    refine ARun.store rfl (.tmp rfl) (.tmp rfl) (SV.cells_of (by exact ⟨trivial, trivial, trivial⟩)) rfl (Nat.le_of_ble_eq_true rfl) vhy_sz_60_2 rfl rfl ?_
    refine ARun.nil ?_
    refine AW.seq ?_
    refine AW.region ?_
    refine ARun.pure (PureOp.fieldPtr rfl (.tmp rfl) vhy_fi_60_1_1) rfl rfl (Nat.le_of_ble_eq_true rfl) ?_
    refine ARun.pure (PureOp.loadPtr rfl (.tmp rfl) vhy_pl_58 rfl rfl (Nat.le_of_ble_eq_true rfl) (Nat.le_of_ble_eq_true rfl)) rfl rfl (Nat.le_of_ble_eq_true rfl) ?_
    refine ARun.pure (PureOp.lenLst rfl (.tmp rfl) vhy_sl_58) rfl rfl (Nat.le_of_ble_eq_true rfl) ?_
    refine ARun.pure (PureOp.move rfl .int) rfl rfl (Nat.le_of_ble_eq_true rfl) ?_
    refine ARun.nil ?_
    refine AW.block ?_
    refine AW.loop (ι := Nat) (fun j => ⟨[(3, .one (.str (accS (accH h k) (h.rows.getD k (default : GRow)).name (h.rows.getD k (default : GRow)).samples j))), (5, .one (.ptr 1 2 0 0)), (13, .one (.lst 2 h.rows.length (fun i0 j0 => ([.str ((h.rows.getD i0 (default : GRow)).name), .lst 2 (((h.rows.getD i0 (default : GRow)).samples).length) (fun i1 j1 => ([.int .i64 ((((h.rows.getD i0 (default : GRow)).samples).getD i1 (default : GSample)).at_), .int .i64 ((((h.rows.getD i0 (default : GRow)).samples).getD i1 (default : GSample)).value)] : List AV).getD j1 (.con undef))] : List AV).getD j0 (.con undef)))), (14, .one (.int .i64 (h.rows.length : Int))), (15, .one (.int .i64 (k : Int))), (20, .one (.lst 2 (((h.rows.getD k (default : GRow)).samples).length) (fun i0 j0 => ([.int .i64 ((((h.rows.getD k (default : GRow)).samples).getD i0 (default : GSample)).at_), .int .i64 ((((h.rows.getD k (default : GRow)).samples).getD i0 (default : GSample)).value)] : List AV).getD j0 (.con undef)))), (21, .one (.int .i64 ((((h.rows.getD k (default : GRow)).samples).length : Nat) : Int))), (22, .one (.int .i64 (j : Int)))], [(1, .cells [.str ((h.rows.getD k (default : GRow)).name), .lst 2 (((h.rows.getD k (default : GRow)).samples).length) (fun i0 j0 => ([.int .i64 ((((h.rows.getD k (default : GRow)).samples).getD i0 (default : GSample)).at_), .int .i64 ((((h.rows.getD k (default : GRow)).samples).getD i0 (default : GSample)).value)] : List AV).getD j0 (.con undef))])]⟩) (fun j => j ≤ (h.rows.getD k (default : GRow)).samples.length) (fun j => (h.rows.getD k (default : GRow)).samples.length - j) 0 (Nat.zero_le _) ⟨⟨⟨_, rfl, rfl⟩, ⟨_, rfl, rfl⟩, ⟨_, rfl, rfl⟩, ⟨_, rfl, rfl⟩, ⟨_, rfl, rfl⟩, ⟨_, rfl, rfl⟩, ⟨_, rfl, rfl⟩, ⟨_, rfl, rfl⟩, trivial⟩, HeapLe.one rfl trivial⟩ ?_
    intro j hj
    have hTj := accS_size (t := accH h k) (fun j hj => hok.say k j hkl hj) j hj
    refine AW.seq ?_
    refine AW.region ?_
    refine ARun.pure (PureOp.intOp rfl (.tmp rfl) (.tmp rfl) rfl) rfl rfl (Nat.le_of_ble_eq_true rfl) ?_
    refine ARun.nil ?_
    refine AW.seq ?_
    refine AW.cond (.tmp rfl) (fun hb2 => ?_) (fun hb2 => ?_)
    · have _u := True.intro
      replace hb2 := of_decide_eq_true hb2
      have hjl : j < (h.rows.getD k (default : GRow)).samples.length := by omega
      have hSy := hok.say k j hkl hjl
      have hs1 := sayT_size hSy
      have hs2 := hSy.name
      dsimp only at hs1 hs2
      refine AW.skip ?_
      refine AW.seq ?_
      refine AW.block ?_
      refine AW.seq ?_
      refine AW.region ?_
      refine ARun.pure (PureOp.indexLst (i := j) rfl (.tmp rfl) vhy_el_58_2 (.tmp rfl) rfl (by omega)) rfl rfl (Nat.le_of_ble_eq_true rfl) ?_
      refine ARun.pure (PureOp.loadRefAgg rfl (.tmp rfl) vhy_ag_53_2 (Nat.le_of_ble_eq_true rfl)) rfl rfl (Nat.le_of_ble_eq_true rfl) ?_
      refine ARun.alloc (id := 2) (l := [.int .i64 0, .int .i64 0]) (z := (.agg #[.int .i64 0, .int .i64 0])) rfl (by kernel_rfl) (fun _ _ _ => ⟨_, _, rfl, rfl, ⟨_, _, rfl, rfl, rfl⟩⟩) ⟨rfl, (by repeat first | exact trivial | refine ⟨by decide, by first | rfl | exact trivial | (intro i j; first | rfl | exact getD_no rfl | (dsimp only; split <;> first | rfl | exact getD_no rfl) | exact scl_no (by apply_assumption) _), ?_⟩)⟩ rfl rfl rfl (Nat.le_of_ble_eq_true rfl) ?_
      refine ARun.store rfl (.tmp rfl) (.tmp rfl) (SV.cells_of (by exact ⟨trivial, trivial, trivial⟩)) rfl (Nat.le_of_ble_eq_true rfl) vhy_sz_53_2 rfl rfl ?_
      refine ARun.nil ?_
      refine AW.region ?_
      refine ARun.pure (PureOp.move rfl (.tmp rfl)) rfl rfl (Nat.le_of_ble_eq_true rfl) ?_
      refine ARun.pure (PureOp.fieldPtr rfl (.tmp rfl) vhy_fi_60_0_0) rfl rfl (Nat.le_of_ble_eq_true rfl) ?_
      refine ARun.pure (PureOp.loadPtr rfl (.tmp rfl) vhy_pl_9 rfl rfl (Nat.le_of_ble_eq_true rfl) (Nat.le_of_ble_eq_true rfl)) rfl rfl (Nat.le_of_ble_eq_true rfl) ?_
      refine ARun.pure (PureOp.fieldPtr rfl (.tmp rfl) vhy_fi_53_0_0) rfl rfl (Nat.le_of_ble_eq_true rfl) ?_
      refine ARun.pure (PureOp.loadPtr rfl (.tmp rfl) vhy_pl_3 rfl rfl (Nat.le_of_ble_eq_true rfl) (Nat.le_of_ble_eq_true rfl)) rfl rfl (Nat.le_of_ble_eq_true rfl) ?_
      refine ARun.pure (PureOp.fieldPtr rfl (.tmp rfl) vhy_fi_53_1_1) rfl rfl (Nat.le_of_ble_eq_true rfl) ?_
      refine ARun.pure (PureOp.loadPtr rfl (.tmp rfl) vhy_pl_3 rfl rfl (Nat.le_of_ble_eq_true rfl) (Nat.le_of_ble_eq_true rfl)) rfl rfl (Nat.le_of_ble_eq_true rfl) ?_
      refine ARun.pure (PureOp.build (ys := [.str ((h.rows.getD k (default : GRow)).name), .int .i64 ((((h.rows.getD k (default : GRow)).samples).getD j (default : GSample)).at_), .int .i64 ((((h.rows.getD k (default : GRow)).samples).getD j (default : GSample)).value)]) (l := [.str ByteArray.empty, .int .i64 0, .int .i64 0]) (pl := [(0, 1), (1, 1), (2, 1)]) (z := (.agg #[.string ByteArray.empty, .int .i64 0, .int .i64 0])) rfl (by kernel_rfl) (by kernel_rfl) (fun _ _ _ => ⟨_, _, rfl, ⟨rfl, by decide⟩, ⟨_, _, rfl, rfl, ⟨_, _, rfl, rfl, rfl⟩⟩⟩) ⟨(.tmp rfl), trivial, rfl, ⟨(.tmp rfl), trivial, rfl, ⟨(.tmp rfl), trivial, rfl, trivial⟩⟩⟩ rfl) rfl rfl (Nat.le_of_ble_eq_true rfl) ?_
      refine ARun.pure (PureOp.call rfl (v_l13Text (⟨(h.rows.getD k (default : GRow)).name, (((h.rows.getD k (default : GRow)).samples).getD j (default : GSample)).at_, (((h.rows.getD k (default : GRow)).samples).getD j (default : GSample)).value⟩ : GSay) (hok.say k j hkl hjl)) ⟨⟨_, (.tmp rfl), ⟨.str, .int, .int, trivial⟩⟩, trivial⟩ vhy_ca_15 (sayT_plain (hok.say k j hkl hjl))) rfl rfl (Nat.le_of_ble_eq_true rfl) ?_
      refine ARun.pure (PureOp.strAdd rfl (.tmp rfl) (.str (by decide)) (by skip; (try simp only [ByteArray.size_append]); omega)) rfl rfl (Nat.le_of_ble_eq_true rfl) ?_
      refine ARun.pure (PureOp.strAdd rfl (.tmp rfl) (.tmp rfl) (by skip; (try simp only [ByteArray.size_append]); omega)) rfl rfl (Nat.le_of_ble_eq_true rfl) ?_
      refine ARun.pure (PureOp.assign rfl (.tmp rfl)) rfl rfl (Nat.le_of_ble_eq_true rfl) ?_
      refine ARun.nil ?_
      refine AW.region ?_
      refine ARun.pure (PureOp.add (c := ((j + 1 : Nat) : Int)) rfl (.tmp rfl) .int (by rw [wrap_id (by omega) (by omega)]; omega)) rfl rfl (Nat.le_of_ble_eq_true rfl) ?_
      refine ARun.pure (PureOp.move rfl (.tmp rfl)) rfl rfl (Nat.le_of_ble_eq_true rfl) ?_
      refine ARun.nil ?_
      exact ⟨j + 1, by omega, by dsimp only; omega, ⟨⟨⟨_, rfl, rfl⟩, ⟨_, rfl, rfl⟩, ⟨_, rfl, rfl⟩, ⟨_, rfl, rfl⟩, ⟨_, rfl, rfl⟩, ⟨_, rfl, rfl⟩, ⟨_, rfl, rfl⟩, ⟨_, rfl, rfl⟩, trivial⟩, HeapLe.one rfl trivial⟩⟩
    · have _u := True.intro
      replace hb2 := of_decide_eq_false hb2
      have hjn : j = (h.rows.getD k (default : GRow)).samples.length := by omega
      refine AW.exit ?_
      refine AW.region ?_
      refine ARun.pure (PureOp.add (c := ((k + 1 : Nat) : Int)) rfl (.tmp rfl) .int (by rw [wrap_id (by omega) (by omega)]; omega)) rfl rfl (Nat.le_of_ble_eq_true rfl) ?_
      refine ARun.pure (PureOp.move rfl (.tmp rfl)) rfl rfl (Nat.le_of_ble_eq_true rfl) ?_
      refine ARun.nil ?_
      exact ⟨k + 1, by omega, by dsimp only; omega, ⟨⟨⟨_, rfl, (congrArg (fun z => SV.one (.str (accS (accH h k) (h.rows.getD k (default : GRow)).name (h.rows.getD k (default : GRow)).samples z))) hjn)⟩, ⟨_, rfl, rfl⟩, ⟨_, rfl, rfl⟩, ⟨_, rfl, rfl⟩, trivial⟩, trivial⟩⟩
  · have _u := True.intro
    replace hb1 := of_decide_eq_false hb1
    have hkn : k = h.rows.length := by omega
    refine AW.exit ?_
    refine AW.seq ?_
    refine AW.region ?_
    refine ARun.pure (PureOp.move rfl (.tmp rfl)) rfl rfl (Nat.le_of_ble_eq_true rfl) ?_
    refine ARun.pure (PureOp.assign rfl (.tmp rfl)) rfl rfl (Nat.le_of_ble_eq_true rfl) ?_
    refine ARun.nil ?_
    refine AW.ret (show ResL _ _ [.tmp 2] _ from resS rfl ?_)
    exact congrArg (accH h) hkn

theorem v_sHeadText (h : GHead) : Fn Tryd.prog 10 [.agg [.lst 2 h.rows.length (fun i0 j0 => ([.str ((h.rows.getD i0 (default : GRow)).name), .lst 2 (((h.rows.getD i0 (default : GRow)).samples).length) (fun i1 j1 => ([.int .i64 ((((h.rows.getD i0 (default : GRow)).samples).getD i1 (default : GSample)).at_), .int .i64 ((((h.rows.getD i0 (default : GRow)).samples).getD i1 (default : GSample)).value)] : List AV).getD j1 (.con undef))] : List AV).getD j0 (.con undef)), .int .i64 h.offset]] (.tup2 (.one (.str ((headV h).1))) (.one (.bool ((headV h).2)))) := by
  refine Fn.of_body (fn := Tryd.f10) Tryd.func10 rfl (Nat.le_of_ble_eq_true rfl) ⟨headV_plain h, trivial⟩ ?_
  intro w0
  show AW _ 9 _ _ _ _
  refine AW.seq ?_
  refine AW.region ?_
  refine ARun.box (id := 0) rfl (.tmp rfl) (SV.cells_of (by exact ⟨trivial, trivial, trivial⟩)) ⟨rfl, (by repeat first | exact trivial | refine ⟨by decide, by first | rfl | exact trivial | (intro i j; first | rfl | exact getD_no rfl | (dsimp only; split <;> first | rfl | exact getD_no rfl) | exact scl_no (by apply_assumption) _), ?_⟩)⟩ rfl rfl rfl (Nat.le_of_ble_eq_true rfl) ?_
  refine ARun.pure (PureOp.assign rfl (.str (by decide))) rfl rfl (Nat.le_of_ble_eq_true rfl) ?_
  refine ARun.pure (PureOp.assign rfl .bool) rfl rfl (Nat.le_of_ble_eq_true rfl) ?_
  refine ARun.nil ?_
  refine AW.seq ?_
  refine AW.seq ?_
  refine AW.region ?_
  refine ARun.pure (PureOp.loadPtrAgg rfl (.tmp rfl) vhy_ag_37_2 rfl rfl (Nat.le_of_ble_eq_true rfl) (Nat.le_of_ble_eq_true rfl)) rfl rfl (Nat.le_of_ble_eq_true rfl) ?_
  refine ARun.pure (PureOp.call rfl (v_specGoodHead h) ⟨⟨_, (.tmp rfl), ⟨.lst, .int, trivial⟩⟩, trivial⟩ vhy_ca_19 trivial) rfl rfl (Nat.le_of_ble_eq_true rfl) ?_
  refine ARun.pure (PureOp.not rfl (.tmp rfl)) rfl rfl (Nat.le_of_ble_eq_true rfl) ?_
  refine ARun.nil ?_
  refine AW.cond (.tmp rfl) (fun hb1 => ?_) (fun hb1 => ?_)
  · have _u := True.intro
    have hsb : goodHead h = false := by revert hb1; cases goodHead h <;> decide
    refine AW.seq ?_
    refine AW.region ?_
    refine ARun.pure (PureOp.assign rfl (.str (by decide))) rfl rfl (Nat.le_of_ble_eq_true rfl) ?_
    refine ARun.pure (PureOp.assign rfl .bool) rfl rfl (Nat.le_of_ble_eq_true rfl) ?_
    refine ARun.nil ?_
    refine AW.ret (show ResL _ _ [.tmp 2, .tmp 3] _ from res2S rfl rfl ?_)
    unfold headV; rw [if_neg (by rw [hsb]; decide)]; exact ⟨rfl, rfl⟩
  · have _u := True.intro
    have hsb : goodHead h = true := by revert hb1; cases goodHead h <;> decide
    refine AW.skip ?_
    refine AW.seq ?_
    refine AW.region ?_
    refine ARun.pure (PureOp.loadPtrAgg rfl (.tmp rfl) vhy_ag_37_2 rfl rfl (Nat.le_of_ble_eq_true rfl) (Nat.le_of_ble_eq_true rfl)) rfl rfl (Nat.le_of_ble_eq_true rfl) ?_
    refine ARun.pure (PureOp.call rfl (v_l13HeadText h (good_ok (by assumption))) ⟨⟨_, (.tmp rfl), ⟨.lst, .int, trivial⟩⟩, trivial⟩ vhy_ca_20 (headT_plain (good_ok (by assumption)))) rfl rfl (Nat.le_of_ble_eq_true rfl) ?_
    refine ARun.pure (PureOp.assign rfl (.tmp rfl)) rfl rfl (Nat.le_of_ble_eq_true rfl) ?_
    refine ARun.pure (PureOp.assign rfl .bool) rfl rfl (Nat.le_of_ble_eq_true rfl) ?_
    refine ARun.nil ?_
    refine AW.ret (show ResL _ _ [.tmp 2, .tmp 3] _ from res2S rfl rfl ?_)
    unfold headV; rw [if_pos hsb]; exact ⟨rfl, rfl⟩

theorem v_iHeadText (h : GHead) : Fn Tryd.prog 12 [.agg [.lst 2 h.rows.length (fun i0 j0 => ([.str ((h.rows.getD i0 (default : GRow)).name), .lst 2 (((h.rows.getD i0 (default : GRow)).samples).length) (fun i1 j1 => ([.int .i64 ((((h.rows.getD i0 (default : GRow)).samples).getD i1 (default : GSample)).at_), .int .i64 ((((h.rows.getD i0 (default : GRow)).samples).getD i1 (default : GSample)).value)] : List AV).getD j1 (.con undef))] : List AV).getD j0 (.con undef)), .int .i64 h.offset]] (.tup2 (.one (.str ((headV h).1))) (.one (.bool ((headV h).2)))) := by
  refine Fn.of_body (fn := Tryd.f12) Tryd.func12 rfl (Nat.le_of_ble_eq_true rfl) ⟨headV_plain h, trivial⟩ ?_
  intro w0
  show AW _ 9 _ _ _ _
  refine AW.seq ?_
  refine AW.region ?_
  refine ARun.box (id := 0) rfl (.tmp rfl) (SV.cells_of (by exact ⟨trivial, trivial, trivial⟩)) ⟨rfl, (by repeat first | exact trivial | refine ⟨by decide, by first | rfl | exact trivial | (intro i j; first | rfl | exact getD_no rfl | (dsimp only; split <;> first | rfl | exact getD_no rfl) | exact scl_no (by apply_assumption) _), ?_⟩)⟩ rfl rfl rfl (Nat.le_of_ble_eq_true rfl) ?_
  refine ARun.pure (PureOp.assign rfl (.str (by decide))) rfl rfl (Nat.le_of_ble_eq_true rfl) ?_
  refine ARun.pure (PureOp.assign rfl .bool) rfl rfl (Nat.le_of_ble_eq_true rfl) ?_
  refine ARun.nil ?_
  refine AW.seq ?_
  refine AW.seq ?_
  refine AW.region ?_
  refine ARun.pure (PureOp.loadPtrAgg rfl (.tmp rfl) vhy_ag_37_2 rfl rfl (Nat.le_of_ble_eq_true rfl) (Nat.le_of_ble_eq_true rfl)) rfl rfl (Nat.le_of_ble_eq_true rfl) ?_
  refine ARun.pure (PureOp.call rfl (v_isHead h) ⟨⟨_, (.tmp rfl), ⟨.lst, .int, trivial⟩⟩, trivial⟩ vhy_ca_22 trivial) rfl rfl (Nat.le_of_ble_eq_true rfl) ?_
  refine ARun.pure (PureOp.not rfl (.tmp rfl)) rfl rfl (Nat.le_of_ble_eq_true rfl) ?_
  refine ARun.nil ?_
  refine AW.cond (.tmp rfl) (fun hb1 => ?_) (fun hb1 => ?_)
  · have _u := True.intro
    have hsb : goodHead h = false := by revert hb1; cases goodHead h <;> decide
    refine AW.seq ?_
    refine AW.region ?_
    refine ARun.pure (PureOp.assign rfl (.str (by decide))) rfl rfl (Nat.le_of_ble_eq_true rfl) ?_
    refine ARun.pure (PureOp.assign rfl .bool) rfl rfl (Nat.le_of_ble_eq_true rfl) ?_
    refine ARun.nil ?_
    refine AW.ret (show ResL _ _ [.tmp 2, .tmp 3] _ from res2S rfl rfl ?_)
    unfold headV; rw [if_neg (by rw [hsb]; decide)]; exact ⟨rfl, rfl⟩
  · have _u := True.intro
    have hsb : goodHead h = true := by revert hb1; cases goodHead h <;> decide
    refine AW.skip ?_
    refine AW.seq ?_
    refine AW.region ?_
    refine ARun.pure (PureOp.loadPtrAgg rfl (.tmp rfl) vhy_ag_37_2 rfl rfl (Nat.le_of_ble_eq_true rfl) (Nat.le_of_ble_eq_true rfl)) rfl rfl (Nat.le_of_ble_eq_true rfl) ?_
    refine ARun.pure (PureOp.call rfl (v_headText h (good_ok (by assumption))) ⟨⟨_, (.tmp rfl), ⟨.lst, .int, trivial⟩⟩, trivial⟩ vhy_ca_23 (headT_plain (good_ok (by assumption)))) rfl rfl (Nat.le_of_ble_eq_true rfl) ?_
    refine ARun.pure (PureOp.assign rfl (.tmp rfl)) rfl rfl (Nat.le_of_ble_eq_true rfl) ?_
    refine ARun.pure (PureOp.assign rfl .bool) rfl rfl (Nat.le_of_ble_eq_true rfl) ?_
    refine ARun.nil ?_
    refine AW.ret (show ResL _ _ [.tmp 2, .tmp 3] _ from res2S rfl rfl ?_)
    unfold headV; rw [if_pos hsb]; exact ⟨rfl, rfl⟩
end Go.Proofs.YtmfkmifkkplidaaDoor


/-
  The laws' own budgets (sz) over the data of this seat.
-/
namespace Go.Proofs.YtmfkmifkkplidaaDoor
open Go.ChangeShapes Go.WideShapes Go.ChangeAt Go.RowKit Go.BigFrame Go.Deep
set_option linter.unusedVariables false
set_option linter.unusedSimpArgs false
theorem vz_ag_57_2 : aggB Tryd.prog 57 2 = true := by kernel_rfl
theorem vz_ca_18 : callB Tryd.prog 18 = true := by kernel_rfl
theorem vz_ca_32 : callB Tryd.prog 32 = true := by kernel_rfl
theorem vz_ca_41 : callB Tryd.prog 41 = true := by kernel_rfl
theorem vz_el_30_2 : elemB Tryd.prog 30 2 = true := by kernel_rfl
theorem vz_fi_32_0_0 : fieldB Tryd.prog 32 0 0 = true := by kernel_rfl
theorem vz_fi_57_0_0 : fieldB Tryd.prog 57 0 0 = true := by kernel_rfl
theorem vz_fi_57_1_1 : fieldB Tryd.prog 57 1 1 = true := by kernel_rfl
theorem vz_pl_30 : plainB Tryd.prog 30 = true := by kernel_rfl
theorem vz_pl_55 : plainB Tryd.prog 55 = true := by kernel_rfl
theorem vz_pl_9 : plainB Tryd.prog 9 = true := by kernel_rfl
theorem vz_sl_30 : sliceB Tryd.prog 30 = true := by kernel_rfl
theorem vz_sl_55 : sliceB Tryd.prog 55 = true := by kernel_rfl
theorem vz_st_9 : stringB Tryd.prog 9 = true := by kernel_rfl
theorem v_szSampleS (x : List GSample) (left : Int) (hl : 0 ≤ left ∧ left ≤ 1048576) : Fn Tryd.prog 41 [.one (.lst 2 x.length (fun i0 j0 => ([.int .i64 ((x.getD i0 (default : GSample)).at_), .int .i64 ((x.getD i0 (default : GSample)).value)] : List AV).getD j0 (.con undef))), .one (.int .i64 left)] (.one (.int .i64 (szR left (x.length)))) := by
  obtain ⟨h0, h1⟩ := hl
  refine Fn.of_body (fn := Tryd.f41) Tryd.func41 rfl (Nat.le_of_ble_eq_true rfl) trivial ?_
  intro w0
  show AW _ 12 _ _ _ _
  refine AW.bound (t := 0) rfl fun hx => ?_
  refine AW.seq ?_
  refine AW.region ?_
  refine ARun.pure (PureOp.assign rfl .int) rfl rfl (Nat.le_of_ble_eq_true rfl) ?_
  refine ARun.nil ?_
  refine AW.seq ?_
  refine AW.region ?_
  refine ARun.pure (PureOp.move rfl (.tmp rfl)) rfl rfl (Nat.le_of_ble_eq_true rfl) ?_
  refine ARun.pure (PureOp.move rfl (.tmp rfl)) rfl rfl (Nat.le_of_ble_eq_true rfl) ?_
  refine ARun.pure (PureOp.lenLst rfl (.tmp rfl) vz_sl_55) rfl rfl (Nat.le_of_ble_eq_true rfl) ?_
  refine ARun.pure (PureOp.sub (c := left - (x.length : Int)) rfl (.tmp rfl) (.tmp rfl) (wrap_id (by omega) (by omega))) rfl rfl (Nat.le_of_ble_eq_true rfl) ?_
  refine ARun.pure (PureOp.assign rfl (.tmp rfl)) rfl rfl (Nat.le_of_ble_eq_true rfl) ?_
  refine ARun.nil ?_
  refine AW.seq ?_
  refine AW.seq ?_
  refine AW.region ?_
  refine ARun.pure (PureOp.move rfl (.tmp rfl)) rfl rfl (Nat.le_of_ble_eq_true rfl) ?_
  refine ARun.pure (PureOp.intOp rfl (.tmp rfl) .int rfl) rfl rfl (Nat.le_of_ble_eq_true rfl) ?_
  refine ARun.nil ?_
  refine AW.cond (.tmp rfl) (fun hb1 => ?_) (fun hb1 => ?_)
  · have _u := True.intro
    replace hb1 := of_decide_eq_true hb1
    refine AW.seq ?_
    refine AW.region ?_
    refine ARun.pure (PureOp.assign rfl .int) rfl rfl (Nat.le_of_ble_eq_true rfl) ?_
    refine ARun.nil ?_
    refine AW.ret (show ResL _ _ [.tmp 4] _ from resI rfl ?_)
    first | exact szF_big (by omega) | exact szF_ok (by omega)
  · have _u := True.intro
    replace hb1 := of_decide_eq_false hb1
    refine AW.skip ?_
    refine AW.seq ?_
    refine AW.region ?_
    refine ARun.pure (PureOp.move rfl (.tmp rfl)) rfl rfl (Nat.le_of_ble_eq_true rfl) ?_
    refine ARun.pure (PureOp.assign rfl (.tmp rfl)) rfl rfl (Nat.le_of_ble_eq_true rfl) ?_
    refine ARun.nil ?_
    refine AW.ret (show ResL _ _ [.tmp 4] _ from resI rfl ?_)
    first | exact szF_big (by omega) | exact szF_ok (by omega)

theorem v_szRow (x : GRow) (left : Int) (hl : 0 ≤ left ∧ left ≤ 1048576) : Fn Tryd.prog 32 [.agg [.str x.name, .lst 2 x.samples.length (fun i0 j0 => ([.int .i64 ((x.samples.getD i0 (default : GSample)).at_), .int .i64 ((x.samples.getD i0 (default : GSample)).value)] : List AV).getD j0 (.con undef))], .one (.int .i64 left)] (.one (.int .i64 (szR left (wtRow x)))) := by
  obtain ⟨h0, h1⟩ := hl
  have hU : ∀ (p : Int) (m : Nat), (szR p m < 0 ↔ p < m) := fun p m => by unfold szR; split <;> omega
  refine Fn.of_body (fn := Tryd.f32) Tryd.func32 rfl (Nat.le_of_ble_eq_true rfl) trivial ?_
  intro w0
  show AW _ 19 _ _ _ _
  refine AW.boundAS (t := 0) (j := 0) rfl rfl fun hbs0 => ?_
  refine AW.seq ?_
  refine AW.region ?_
  refine ARun.box (id := 0) rfl (.tmp rfl) (SV.cells_of (by exact ⟨trivial, trivial, trivial⟩)) ⟨rfl, (by repeat first | exact trivial | refine ⟨by decide, by first | rfl | exact trivial | (intro i j; first | rfl | exact getD_no rfl | (dsimp only; split <;> first | rfl | exact getD_no rfl) | exact scl_no (by apply_assumption) _), ?_⟩)⟩ rfl rfl rfl (Nat.le_of_ble_eq_true rfl) ?_
  refine ARun.pure (PureOp.assign rfl .int) rfl rfl (Nat.le_of_ble_eq_true rfl) ?_
  refine ARun.nil ?_
  refine AW.seq ?_
  refine AW.region ?_
  refine ARun.pure (PureOp.move rfl (.tmp rfl)) rfl rfl (Nat.le_of_ble_eq_true rfl) ?_
  refine ARun.pure (PureOp.fieldPtr rfl (.tmp rfl) vz_fi_57_0_0) rfl rfl (Nat.le_of_ble_eq_true rfl) ?_
  refine ARun.pure (PureOp.loadPtr rfl (.tmp rfl) vz_pl_9 rfl rfl (Nat.le_of_ble_eq_true rfl) (Nat.le_of_ble_eq_true rfl)) rfl rfl (Nat.le_of_ble_eq_true rfl) ?_
  refine ARun.pure (PureOp.lenStr rfl (.tmp rfl) vz_st_9) rfl rfl (Nat.le_of_ble_eq_true rfl) ?_
  refine ARun.pure (PureOp.sub (c := left - (x.name.size : Int)) rfl (.tmp rfl) (.tmp rfl) (wrap_id (by omega) (by omega))) rfl rfl (Nat.le_of_ble_eq_true rfl) ?_
  refine ARun.pure (PureOp.assign rfl (.tmp rfl)) rfl rfl (Nat.le_of_ble_eq_true rfl) ?_
  refine ARun.nil ?_
  refine AW.seq ?_
  refine AW.seq ?_
  refine AW.region ?_
  refine ARun.pure (PureOp.move rfl (.tmp rfl)) rfl rfl (Nat.le_of_ble_eq_true rfl) ?_
  refine ARun.pure (PureOp.intOp rfl (.tmp rfl) .int rfl) rfl rfl (Nat.le_of_ble_eq_true rfl) ?_
  refine ARun.nil ?_
  refine AW.cond (.tmp rfl) (fun hb1 => ?_) (fun hb1 => ?_)
  · have _u := True.intro
    replace hb1 := of_decide_eq_true hb1
    refine AW.seq ?_
    refine AW.region ?_
    refine ARun.pure (PureOp.assign rfl .int) rfl rfl (Nat.le_of_ble_eq_true rfl) ?_
    refine ARun.nil ?_
    refine AW.ret (show ResL _ _ [.tmp 4] _ from resI rfl ?_)
    unfold wtRow
    unfold szR at *; (repeat' split at *) <;> first | omega | (split <;> omega)
  · have _u := True.intro
    replace hb1 := of_decide_eq_false hb1
    refine AW.skip ?_
    refine AW.seq ?_
    refine AW.region ?_
    refine ARun.pure (PureOp.fieldPtr rfl (.tmp rfl) vz_fi_57_1_1) rfl rfl (Nat.le_of_ble_eq_true rfl) ?_
    refine ARun.pure (PureOp.loadPtr rfl (.tmp rfl) vz_pl_55 rfl rfl (Nat.le_of_ble_eq_true rfl) (Nat.le_of_ble_eq_true rfl)) rfl rfl (Nat.le_of_ble_eq_true rfl) ?_
    refine ARun.pure (PureOp.move rfl (.tmp rfl)) rfl rfl (Nat.le_of_ble_eq_true rfl) ?_
    refine ARun.pure (PureOp.call rfl (v_szSampleS x.samples (left - (x.name.size : Int)) (by first | omega | (unfold szR at *; split at * <;> omega))) ⟨⟨_, (.tmp rfl), .lst⟩, ⟨_, (.tmp rfl), .int⟩, trivial⟩ vz_ca_41 trivial) rfl rfl (Nat.le_of_ble_eq_true rfl) ?_
    refine ARun.pure (PureOp.assign rfl (.tmp rfl)) rfl rfl (Nat.le_of_ble_eq_true rfl) ?_
    refine ARun.nil ?_
    refine AW.seq ?_
    refine AW.seq ?_
    refine AW.region ?_
    refine ARun.pure (PureOp.move rfl (.tmp rfl)) rfl rfl (Nat.le_of_ble_eq_true rfl) ?_
    refine ARun.pure (PureOp.intOp rfl (.tmp rfl) .int rfl) rfl rfl (Nat.le_of_ble_eq_true rfl) ?_
    refine ARun.nil ?_
    refine AW.cond (.tmp rfl) (fun hb2 => ?_) (fun hb2 => ?_)
    · have _u := True.intro
      replace hb2 := of_decide_eq_true hb2
      refine AW.seq ?_
      refine AW.region ?_
      refine ARun.pure (PureOp.assign rfl .int) rfl rfl (Nat.le_of_ble_eq_true rfl) ?_
      refine ARun.nil ?_
      refine AW.ret (show ResL _ _ [.tmp 4] _ from resI rfl ?_)
      unfold wtRow
      unfold szR at *; (repeat' split at *) <;> first | omega | (split <;> omega)
    · have _u := True.intro
      replace hb2 := of_decide_eq_false hb2
      refine AW.skip ?_
      refine AW.seq ?_
      refine AW.region ?_
      refine ARun.pure (PureOp.move rfl (.tmp rfl)) rfl rfl (Nat.le_of_ble_eq_true rfl) ?_
      refine ARun.pure (PureOp.assign rfl (.tmp rfl)) rfl rfl (Nat.le_of_ble_eq_true rfl) ?_
      refine ARun.nil ?_
      refine AW.ret (show ResL _ _ [.tmp 4] _ from resI rfl ?_)
      unfold wtRow
      unfold szR at *; (repeat' split at *) <;> first | omega | (split <;> omega)

theorem v_szRowS (x : List GRow) (left : Int) (hl : 0 ≤ left ∧ left ≤ 1048576) : Fn Tryd.prog 18 [.one (.lst 2 x.length (fun i0 j0 => ([.str ((x.getD i0 (default : GRow)).name), .lst 2 (((x.getD i0 (default : GRow)).samples).length) (fun i1 j1 => ([.int .i64 ((((x.getD i0 (default : GRow)).samples).getD i1 (default : GSample)).at_), .int .i64 ((((x.getD i0 (default : GRow)).samples).getD i1 (default : GSample)).value)] : List AV).getD j1 (.con undef))] : List AV).getD j0 (.con undef))), .one (.int .i64 left)] (.one (.int .i64 (szR left (wtl wtRow x)))) := by
  obtain ⟨h0, h1⟩ := hl
  refine Fn.of_body (fn := Tryd.f18) Tryd.func18 rfl (Nat.le_of_ble_eq_true rfl) trivial ?_
  intro w0
  show AW _ 27 _ _ _ _
  refine AW.bound (t := 0) rfl fun hx => ?_
  refine AW.seq ?_
  refine AW.region ?_
  refine ARun.pure (PureOp.assign rfl .int) rfl rfl (Nat.le_of_ble_eq_true rfl) ?_
  refine ARun.nil ?_
  refine AW.seq ?_
  refine AW.region ?_
  refine ARun.pure (PureOp.move rfl (.tmp rfl)) rfl rfl (Nat.le_of_ble_eq_true rfl) ?_
  refine ARun.pure (PureOp.move rfl (.tmp rfl)) rfl rfl (Nat.le_of_ble_eq_true rfl) ?_
  refine ARun.pure (PureOp.lenLst rfl (.tmp rfl) vz_sl_30) rfl rfl (Nat.le_of_ble_eq_true rfl) ?_
  refine ARun.pure (PureOp.sub (c := left - (x.length : Int)) rfl (.tmp rfl) (.tmp rfl) (wrap_id (by omega) (by omega))) rfl rfl (Nat.le_of_ble_eq_true rfl) ?_
  refine ARun.pure (PureOp.assign rfl (.tmp rfl)) rfl rfl (Nat.le_of_ble_eq_true rfl) ?_
  refine ARun.nil ?_
  refine AW.seq ?_
  refine AW.seq ?_
  refine AW.region ?_
  refine ARun.pure (PureOp.move rfl (.tmp rfl)) rfl rfl (Nat.le_of_ble_eq_true rfl) ?_
  refine ARun.pure (PureOp.intOp rfl (.tmp rfl) .int rfl) rfl rfl (Nat.le_of_ble_eq_true rfl) ?_
  refine ARun.nil ?_
  refine AW.cond (.tmp rfl) (fun hb1 => ?_) (fun hb1 => ?_)
  · have _u := True.intro
    replace hb1 := of_decide_eq_true hb1
    refine AW.seq ?_
    refine AW.region ?_
    refine ARun.pure (PureOp.assign rfl .int) rfl rfl (Nat.le_of_ble_eq_true rfl) ?_
    refine ARun.nil ?_
    refine AW.ret (show ResL _ _ [.tmp 4] _ from resI rfl ?_)
    first | exact hfin | exact szL_end hlt hq | exact szL_big (by omega)
  · have _u := True.intro
    replace hb1 := of_decide_eq_false hb1
    refine AW.skip ?_
    refine AW.seq ?_
    refine AW.seq ?_
    refine AW.region ?_
    refine ARun.pure (PureOp.assign rfl .int) rfl rfl (Nat.le_of_ble_eq_true rfl) ?_
    refine ARun.nil ?_
    refine AW.block ?_
    refine AW.loop (ι := Nat) (fun k => ⟨[(0, .one (.lst 2 x.length (fun i0 j0 => ([.str ((x.getD i0 (default : GRow)).name), .lst 2 (((x.getD i0 (default : GRow)).samples).length) (fun i1 j1 => ([.int .i64 ((((x.getD i0 (default : GRow)).samples).getD i1 (default : GSample)).at_), .int .i64 ((((x.getD i0 (default : GRow)).samples).getD i1 (default : GSample)).value)] : List AV).getD j1 (.con undef))] : List AV).getD j0 (.con undef)))), (1, .one (.int .i64 (left - (x.length : Int) - ((((x.take k).map wtRow).sum : Nat) : Int)))), (5, .one (.int .i64 (k : Int)))], []⟩) (fun k => k ≤ x.length ∧ 0 ≤ left - (x.length : Int) - ((((x.take k).map wtRow).sum : Nat) : Int)) (fun k => x.length - k) 0 ⟨Nat.zero_le _, by simp; omega⟩ ⟨⟨⟨_, rfl, rfl⟩, ⟨_, rfl, by simp⟩, ⟨_, rfl, rfl⟩, trivial⟩, trivial⟩ ?_
    intro k hI
    obtain ⟨hk, hq⟩ := hI
    refine AW.seq ?_
    refine AW.seq ?_
    refine AW.region ?_
    refine ARun.pure (PureOp.move rfl (.tmp rfl)) rfl rfl (Nat.le_of_ble_eq_true rfl) ?_
    refine ARun.pure (PureOp.move rfl (.tmp rfl)) rfl rfl (Nat.le_of_ble_eq_true rfl) ?_
    refine ARun.pure (PureOp.lenLst rfl (.tmp rfl) vz_sl_30) rfl rfl (Nat.le_of_ble_eq_true rfl) ?_
    refine ARun.pure (PureOp.intOp rfl (.tmp rfl) (.tmp rfl) rfl) rfl rfl (Nat.le_of_ble_eq_true rfl) ?_
    refine ARun.nil ?_
    refine AW.cond (.tmp rfl) (fun hb2 => ?_) (fun hb2 => ?_)
    · have _u := True.intro
      replace hb2 := of_decide_eq_true hb2
      have hlt : k < x.length := by omega
      refine AW.skip ?_
      refine AW.seq ?_
      refine AW.block ?_
      refine AW.seq ?_
      refine AW.region ?_
      refine ARun.pure (PureOp.move rfl (.tmp rfl)) rfl rfl (Nat.le_of_ble_eq_true rfl) ?_
      refine ARun.pure (PureOp.move rfl (.tmp rfl)) rfl rfl (Nat.le_of_ble_eq_true rfl) ?_
      refine ARun.pure (PureOp.indexLst (i := k) rfl (.tmp rfl) vz_el_30_2 (.tmp rfl) rfl (by omega)) rfl rfl (Nat.le_of_ble_eq_true rfl) ?_
      refine ARun.pure (PureOp.loadRefAgg rfl (.tmp rfl) vz_ag_57_2 (Nat.le_of_ble_eq_true rfl)) rfl rfl (Nat.le_of_ble_eq_true rfl) ?_
      refine ARun.pure (PureOp.move rfl (.tmp rfl)) rfl rfl (Nat.le_of_ble_eq_true rfl) ?_
      refine ARun.pure (PureOp.call rfl (v_szRow (x.getD k (default : GRow)) (left - (x.length : Int) - ((((x.take k).map wtRow).sum : Nat) : Int)) (by first | omega | (unfold szR at *; split at * <;> omega))) ⟨⟨_, (.tmp rfl), ⟨.str, .lst, trivial⟩⟩, ⟨_, (.tmp rfl), .int⟩, trivial⟩ vz_ca_32 trivial) rfl rfl (Nat.le_of_ble_eq_true rfl) ?_
      refine ARun.pure (PureOp.assign rfl (.tmp rfl)) rfl rfl (Nat.le_of_ble_eq_true rfl) ?_
      refine ARun.nil ?_
      refine AW.seq ?_
      refine AW.region ?_
      refine ARun.pure (PureOp.move rfl (.tmp rfl)) rfl rfl (Nat.le_of_ble_eq_true rfl) ?_
      refine ARun.pure (PureOp.intOp rfl (.tmp rfl) .int rfl) rfl rfl (Nat.le_of_ble_eq_true rfl) ?_
      refine ARun.nil ?_
      refine AW.cond (.tmp rfl) (fun hb3 => ?_) (fun hb3 => ?_)
      · have _u := True.intro
        replace hb3 := of_decide_eq_true hb3
        have hfin := szL_neg (f := wtRow) (d := (default : GRow)) hlt hq hb3
        refine AW.seq ?_
        refine AW.region ?_
        refine ARun.pure (PureOp.assign rfl .int) rfl rfl (Nat.le_of_ble_eq_true rfl) ?_
        refine ARun.nil ?_
        refine AW.ret (show ResL _ _ [.tmp 4] _ from resI rfl ?_)
        first | exact hfin | exact szL_end hlt hq | exact szL_big (by omega)
      · have _u := True.intro
        replace hb3 := of_decide_eq_false hb3
        obtain ⟨hs1, hs2⟩ := szL_next (f := wtRow) (d := (default : GRow)) hlt hq hb3
        refine AW.skip ?_
        refine AW.region ?_
        refine ARun.pure (PureOp.move rfl (.tmp rfl)) rfl rfl (Nat.le_of_ble_eq_true rfl) ?_
        refine ARun.pure (PureOp.add (c := ((k + 1 : Nat) : Int)) rfl (.tmp rfl) .int (by rw [wrap_id (by omega) (by omega)]; omega)) rfl rfl (Nat.le_of_ble_eq_true rfl) ?_
        refine ARun.pure (PureOp.assign rfl (.tmp rfl)) rfl rfl (Nat.le_of_ble_eq_true rfl) ?_
        refine ARun.nil ?_
        exact ⟨k + 1, ⟨by omega, hs1⟩, by dsimp only; omega, ⟨⟨⟨_, rfl, rfl⟩, ⟨_, rfl, congrArg (fun z => SV.one (.int .i64 z)) hs2⟩, ⟨_, rfl, rfl⟩, trivial⟩, trivial⟩⟩
    · have _u := True.intro
      replace hb2 := of_decide_eq_false hb2
      have hlt : ¬ k < x.length := by omega
      refine AW.exit ?_
      refine AW.seq ?_
      refine AW.region ?_
      refine ARun.pure (PureOp.move rfl (.tmp rfl)) rfl rfl (Nat.le_of_ble_eq_true rfl) ?_
      refine ARun.pure (PureOp.assign rfl (.tmp rfl)) rfl rfl (Nat.le_of_ble_eq_true rfl) ?_
      refine ARun.nil ?_
      refine AW.ret (show ResL _ _ [.tmp 4] _ from resI rfl ?_)
      first | exact hfin | exact szL_end hlt hq | exact szL_big (by omega)

theorem v_szHead (x : GHead) (left : Int) (hl : 0 ≤ left ∧ left ≤ 1048576) : Fn Tryd.prog 9 [.agg [.lst 2 x.rows.length (fun i0 j0 => ([.str ((x.rows.getD i0 (default : GRow)).name), .lst 2 (((x.rows.getD i0 (default : GRow)).samples).length) (fun i1 j1 => ([.int .i64 ((((x.rows.getD i0 (default : GRow)).samples).getD i1 (default : GSample)).at_), .int .i64 ((((x.rows.getD i0 (default : GRow)).samples).getD i1 (default : GSample)).value)] : List AV).getD j1 (.con undef))] : List AV).getD j0 (.con undef)), .int .i64 x.offset], .one (.int .i64 left)] (.one (.int .i64 (szR left (wtHead x)))) := by
  obtain ⟨h0, h1⟩ := hl
  refine Fn.of_body (fn := Tryd.f9) Tryd.func9 rfl (Nat.le_of_ble_eq_true rfl) trivial ?_
  intro w0
  show AW _ 12 _ _ _ _
  refine AW.seq ?_
  refine AW.region ?_
  refine ARun.box (id := 0) rfl (.tmp rfl) (SV.cells_of (by exact ⟨trivial, trivial, trivial⟩)) ⟨rfl, (by repeat first | exact trivial | refine ⟨by decide, by first | rfl | exact trivial | (intro i j; first | rfl | exact getD_no rfl | (dsimp only; split <;> first | rfl | exact getD_no rfl) | exact scl_no (by apply_assumption) _), ?_⟩)⟩ rfl rfl rfl (Nat.le_of_ble_eq_true rfl) ?_
  refine ARun.pure (PureOp.assign rfl .int) rfl rfl (Nat.le_of_ble_eq_true rfl) ?_
  refine ARun.nil ?_
  refine AW.seq ?_
  refine AW.region ?_
  refine ARun.pure (PureOp.fieldPtr rfl (.tmp rfl) vz_fi_32_0_0) rfl rfl (Nat.le_of_ble_eq_true rfl) ?_
  refine ARun.pure (PureOp.loadPtr rfl (.tmp rfl) vz_pl_30 rfl rfl (Nat.le_of_ble_eq_true rfl) (Nat.le_of_ble_eq_true rfl)) rfl rfl (Nat.le_of_ble_eq_true rfl) ?_
  refine ARun.pure (PureOp.move rfl (.tmp rfl)) rfl rfl (Nat.le_of_ble_eq_true rfl) ?_
  refine ARun.pure (PureOp.call rfl (v_szRowS x.rows left (by first | omega | (unfold szR at *; split at * <;> omega))) ⟨⟨_, (.tmp rfl), .lst⟩, ⟨_, (.tmp rfl), .int⟩, trivial⟩ vz_ca_18 trivial) rfl rfl (Nat.le_of_ble_eq_true rfl) ?_
  refine ARun.pure (PureOp.assign rfl (.tmp rfl)) rfl rfl (Nat.le_of_ble_eq_true rfl) ?_
  refine ARun.nil ?_
  refine AW.seq ?_
  refine AW.seq ?_
  refine AW.region ?_
  refine ARun.pure (PureOp.move rfl (.tmp rfl)) rfl rfl (Nat.le_of_ble_eq_true rfl) ?_
  refine ARun.pure (PureOp.intOp rfl (.tmp rfl) .int rfl) rfl rfl (Nat.le_of_ble_eq_true rfl) ?_
  refine ARun.nil ?_
  refine AW.cond (.tmp rfl) (fun hb1 => ?_) (fun hb1 => ?_)
  · have _u := True.intro
    replace hb1 := of_decide_eq_true hb1
    refine AW.seq ?_
    refine AW.region ?_
    refine ARun.pure (PureOp.assign rfl .int) rfl rfl (Nat.le_of_ble_eq_true rfl) ?_
    refine ARun.nil ?_
    refine AW.ret (show ResL _ _ [.tmp 4] _ from resI rfl ?_)
    unfold wtHead
    exact (szR_neg0 (by omega) hb1).symm
  · have _u := True.intro
    replace hb1 := of_decide_eq_false hb1
    obtain ⟨hs2, hs2b, hs2c⟩ := szR_ok (by omega) hb1
    refine AW.skip ?_
    refine AW.seq ?_
    refine AW.region ?_
    refine ARun.pure (PureOp.move rfl (.tmp rfl)) rfl rfl (Nat.le_of_ble_eq_true rfl) ?_
    refine ARun.pure (PureOp.assign rfl (.tmp rfl)) rfl rfl (Nat.le_of_ble_eq_true rfl) ?_
    refine ARun.nil ?_
    refine AW.ret (show ResL _ _ [.tmp 4] _ from resI rfl ?_)
    rfl

end Go.Proofs.YtmfkmifkkplidaaDoor


/-
  The laws' own comparisons (eq) over the data of this seat.
-/
namespace Go.Proofs.YtmfkmifkkplidaaDoor
open Go.ChangeShapes Go.WideShapes Go.ChangeAt Go.RowKit Go.BigFrame Go.Deep
set_option linter.unusedVariables false
set_option linter.unusedSimpArgs false
theorem ve_ag_53_2 : aggB Tryd.prog 53 2 = true := by kernel_rfl
theorem ve_ag_60_2 : aggB Tryd.prog 60 2 = true := by kernel_rfl
theorem ve_ca_24 : callB Tryd.prog 24 = true := by kernel_rfl
theorem ve_ca_39 : callB Tryd.prog 39 = true := by kernel_rfl
theorem ve_ca_44 : callB Tryd.prog 44 = true := by kernel_rfl
theorem ve_ca_48 : callB Tryd.prog 48 = true := by kernel_rfl
theorem ve_el_35_2 : elemB Tryd.prog 35 2 = true := by kernel_rfl
theorem ve_el_58_2 : elemB Tryd.prog 58 2 = true := by kernel_rfl
theorem ve_fi_37_0_0 : fieldB Tryd.prog 37 0 0 = true := by kernel_rfl
theorem ve_fi_37_1_1 : fieldB Tryd.prog 37 1 1 = true := by kernel_rfl
theorem ve_fi_53_0_0 : fieldB Tryd.prog 53 0 0 = true := by kernel_rfl
theorem ve_fi_53_1_1 : fieldB Tryd.prog 53 1 1 = true := by kernel_rfl
theorem ve_fi_60_0_0 : fieldB Tryd.prog 60 0 0 = true := by kernel_rfl
theorem ve_fi_60_1_1 : fieldB Tryd.prog 60 1 1 = true := by kernel_rfl
theorem ve_pl_3 : plainB Tryd.prog 3 = true := by kernel_rfl
theorem ve_pl_35 : plainB Tryd.prog 35 = true := by kernel_rfl
theorem ve_pl_58 : plainB Tryd.prog 58 = true := by kernel_rfl
theorem ve_pl_9 : plainB Tryd.prog 9 = true := by kernel_rfl
theorem ve_sl_35 : sliceB Tryd.prog 35 = true := by kernel_rfl
theorem ve_sl_58 : sliceB Tryd.prog 58 = true := by kernel_rfl
theorem v_eqSample (x y : GSample) : Fn Tryd.prog 48 [.agg [.int .i64 x.at_, .int .i64 x.value], .agg [.int .i64 y.at_, .int .i64 y.value]] (.one (.bool (decide (x = y)))) := by
  refine Fn.of_body (fn := Tryd.f48) Tryd.func48 rfl (Nat.le_of_ble_eq_true rfl) trivial ?_
  intro w0
  show AW _ 15 _ _ _ _
  refine AW.seq ?_
  refine AW.region ?_
  refine ARun.box (id := 0) rfl (.tmp rfl) (SV.cells_of (by exact ⟨trivial, trivial, trivial⟩)) ⟨rfl, (by repeat first | exact trivial | refine ⟨by decide, by first | rfl | exact trivial | (intro i j; first | rfl | exact getD_no rfl | (dsimp only; split <;> first | rfl | exact getD_no rfl) | exact scl_no (by apply_assumption) _), ?_⟩)⟩ rfl rfl rfl (Nat.le_of_ble_eq_true rfl) ?_
  refine ARun.box (id := 1) rfl (.tmp rfl) (SV.cells_of (by exact ⟨trivial, trivial, trivial⟩)) ⟨rfl, (by repeat first | exact trivial | refine ⟨by decide, by first | rfl | exact trivial | (intro i j; first | rfl | exact getD_no rfl | (dsimp only; split <;> first | rfl | exact getD_no rfl) | exact scl_no (by apply_assumption) _), ?_⟩)⟩ rfl rfl rfl (Nat.le_of_ble_eq_true rfl) ?_
  refine ARun.pure (PureOp.assign rfl .bool) rfl rfl (Nat.le_of_ble_eq_true rfl) ?_
  refine ARun.nil ?_
  refine AW.seq ?_
  refine AW.seq ?_
  refine AW.region ?_
  refine ARun.pure (PureOp.fieldPtr rfl (.tmp rfl) ve_fi_53_0_0) rfl rfl (Nat.le_of_ble_eq_true rfl) ?_
  refine ARun.pure (PureOp.loadPtr rfl (.tmp rfl) ve_pl_3 rfl rfl (Nat.le_of_ble_eq_true rfl) (Nat.le_of_ble_eq_true rfl)) rfl rfl (Nat.le_of_ble_eq_true rfl) ?_
  refine ARun.pure (PureOp.fieldPtr rfl (.tmp rfl) ve_fi_53_0_0) rfl rfl (Nat.le_of_ble_eq_true rfl) ?_
  refine ARun.pure (PureOp.loadPtr rfl (.tmp rfl) ve_pl_3 rfl rfl (Nat.le_of_ble_eq_true rfl) (Nat.le_of_ble_eq_true rfl)) rfl rfl (Nat.le_of_ble_eq_true rfl) ?_
  refine ARun.pure (PureOp.intOp rfl (.tmp rfl) (.tmp rfl) rfl) rfl rfl (Nat.le_of_ble_eq_true rfl) ?_
  refine ARun.nil ?_
  refine AW.cond (.tmp rfl) (fun hb1 => ?_) (fun hb1 => ?_)
  · have _u := True.intro
    replace hb1 := of_decide_eq_false (of_not hb1)
    refine AW.seq ?_
    refine AW.region ?_
    refine ARun.pure (PureOp.assign rfl .bool) rfl rfl (Nat.le_of_ble_eq_true rfl) ?_
    refine ARun.nil ?_
    refine AW.ret (show ResL _ _ [.tmp 4] _ from resB rfl ?_)
    exact (decide_eq_false (fun e => hb1 (by rw [e]))).symm
  · have _u := True.intro
    replace hb1 := of_decide_eq_true (not_f hb1)
    refine AW.skip ?_
    refine AW.seq ?_
    refine AW.seq ?_
    refine AW.region ?_
    refine ARun.pure (PureOp.fieldPtr rfl (.tmp rfl) ve_fi_53_1_1) rfl rfl (Nat.le_of_ble_eq_true rfl) ?_
    refine ARun.pure (PureOp.loadPtr rfl (.tmp rfl) ve_pl_3 rfl rfl (Nat.le_of_ble_eq_true rfl) (Nat.le_of_ble_eq_true rfl)) rfl rfl (Nat.le_of_ble_eq_true rfl) ?_
    refine ARun.pure (PureOp.fieldPtr rfl (.tmp rfl) ve_fi_53_1_1) rfl rfl (Nat.le_of_ble_eq_true rfl) ?_
    refine ARun.pure (PureOp.loadPtr rfl (.tmp rfl) ve_pl_3 rfl rfl (Nat.le_of_ble_eq_true rfl) (Nat.le_of_ble_eq_true rfl)) rfl rfl (Nat.le_of_ble_eq_true rfl) ?_
    refine ARun.pure (PureOp.intOp rfl (.tmp rfl) (.tmp rfl) rfl) rfl rfl (Nat.le_of_ble_eq_true rfl) ?_
    refine ARun.nil ?_
    refine AW.cond (.tmp rfl) (fun hb2 => ?_) (fun hb2 => ?_)
    · have _u := True.intro
      replace hb2 := of_decide_eq_false (of_not hb2)
      refine AW.seq ?_
      refine AW.region ?_
      refine ARun.pure (PureOp.assign rfl .bool) rfl rfl (Nat.le_of_ble_eq_true rfl) ?_
      refine ARun.nil ?_
      refine AW.ret (show ResL _ _ [.tmp 4] _ from resB rfl ?_)
      exact (decide_eq_false (fun e => hb2 (by rw [e]))).symm
    · have _u := True.intro
      replace hb2 := of_decide_eq_true (not_f hb2)
      refine AW.skip ?_
      refine AW.seq ?_
      refine AW.region ?_
      refine ARun.pure (PureOp.assign rfl .bool) rfl rfl (Nat.le_of_ble_eq_true rfl) ?_
      refine ARun.nil ?_
      refine AW.ret (show ResL _ _ [.tmp 4] _ from resB rfl ?_)
      exact (decide_eq_true (by cases x; cases y; simp_all)).symm

theorem v_eqSampleS (x y : List GSample) : Fn Tryd.prog 44 [.one (.lst 2 x.length (fun i0 j0 => ([.int .i64 ((x.getD i0 (default : GSample)).at_), .int .i64 ((x.getD i0 (default : GSample)).value)] : List AV).getD j0 (.con undef))), .one (.lst 2 y.length (fun i0 j0 => ([.int .i64 ((y.getD i0 (default : GSample)).at_), .int .i64 ((y.getD i0 (default : GSample)).value)] : List AV).getD j0 (.con undef)))] (.one (.bool (decide (x = y)))) := by
  refine Fn.of_body (fn := Tryd.f44) Tryd.func44 rfl (Nat.le_of_ble_eq_true rfl) trivial ?_
  intro w0
  show AW _ 27 _ _ _ _
  refine AW.bound (t := 0) rfl fun hx => ?_
  refine AW.seq ?_
  refine AW.region ?_
  refine ARun.pure (PureOp.assign rfl .bool) rfl rfl (Nat.le_of_ble_eq_true rfl) ?_
  refine ARun.nil ?_
  refine AW.seq ?_
  refine AW.seq ?_
  refine AW.region ?_
  refine ARun.pure (PureOp.move rfl (.tmp rfl)) rfl rfl (Nat.le_of_ble_eq_true rfl) ?_
  refine ARun.pure (PureOp.lenLst rfl (.tmp rfl) ve_sl_58) rfl rfl (Nat.le_of_ble_eq_true rfl) ?_
  refine ARun.pure (PureOp.move rfl (.tmp rfl)) rfl rfl (Nat.le_of_ble_eq_true rfl) ?_
  refine ARun.pure (PureOp.lenLst rfl (.tmp rfl) ve_sl_58) rfl rfl (Nat.le_of_ble_eq_true rfl) ?_
  refine ARun.pure (PureOp.intOp rfl (.tmp rfl) (.tmp rfl) rfl) rfl rfl (Nat.le_of_ble_eq_true rfl) ?_
  refine ARun.nil ?_
  refine AW.cond (.tmp rfl) (fun hb1 => ?_) (fun hb1 => ?_)
  · have _u := True.intro
    replace hb1 := of_decide_eq_false (of_not hb1)
    refine AW.seq ?_
    refine AW.region ?_
    refine ARun.pure (PureOp.assign rfl .bool) rfl rfl (Nat.le_of_ble_eq_true rfl) ?_
    refine ARun.nil ?_
    refine AW.ret (show ResL _ _ [.tmp 4] _ from resB rfl ?_)
    exact (decide_eq_false (fun e => by rw [e] at hb1; omega)).symm
  · have _u := True.intro
    replace hb1 := of_decide_eq_true (not_f hb1)
    refine AW.skip ?_
    refine AW.seq ?_
    refine AW.seq ?_
    refine AW.region ?_
    refine ARun.pure (PureOp.assign rfl .int) rfl rfl (Nat.le_of_ble_eq_true rfl) ?_
    refine ARun.nil ?_
    refine AW.block ?_
    refine AW.loop (ι := Nat) (fun k => ⟨[(0, .one (.lst 2 x.length (fun i0 j0 => ([.int .i64 ((x.getD i0 (default : GSample)).at_), .int .i64 ((x.getD i0 (default : GSample)).value)] : List AV).getD j0 (.con undef)))), (1, .one (.lst 2 y.length (fun i0 j0 => ([.int .i64 ((y.getD i0 (default : GSample)).at_), .int .i64 ((y.getD i0 (default : GSample)).value)] : List AV).getD j0 (.con undef)))), (5, .one (.int .i64 (k : Int)))], []⟩) (fun k => k ≤ x.length ∧ x.take k = y.take k) (fun k => x.length - k) 0 ⟨Nat.zero_le _, rfl⟩ ⟨⟨⟨_, rfl, rfl⟩, ⟨_, rfl, rfl⟩, ⟨_, rfl, rfl⟩, trivial⟩, trivial⟩ ?_
    intro k hI
    obtain ⟨hk, hq⟩ := hI
    refine AW.seq ?_
    refine AW.seq ?_
    refine AW.region ?_
    refine ARun.pure (PureOp.move rfl (.tmp rfl)) rfl rfl (Nat.le_of_ble_eq_true rfl) ?_
    refine ARun.pure (PureOp.move rfl (.tmp rfl)) rfl rfl (Nat.le_of_ble_eq_true rfl) ?_
    refine ARun.pure (PureOp.lenLst rfl (.tmp rfl) ve_sl_58) rfl rfl (Nat.le_of_ble_eq_true rfl) ?_
    refine ARun.pure (PureOp.intOp rfl (.tmp rfl) (.tmp rfl) rfl) rfl rfl (Nat.le_of_ble_eq_true rfl) ?_
    refine ARun.nil ?_
    refine AW.cond (.tmp rfl) (fun hb2 => ?_) (fun hb2 => ?_)
    · have _u := True.intro
      replace hb2 := of_decide_eq_true hb2
      have hlt : k < x.length := by omega
      have hlt2 : k < y.length := by omega
      refine AW.skip ?_
      refine AW.seq ?_
      refine AW.block ?_
      refine AW.seq ?_
      refine AW.any (by kernel_rfl) (by kernel_rfl) ?_
      refine AD.pure (PureOp.move rfl (.tmp rfl)) rfl rfl (Nat.le_of_ble_eq_true rfl) ?_
      refine AD.pure (PureOp.move rfl (.tmp rfl)) rfl rfl (Nat.le_of_ble_eq_true rfl) ?_
      refine AD.pure (PureOp.indexLst (i := k) rfl (.tmp rfl) ve_el_58_2 (.tmp rfl) rfl (by omega)) rfl rfl (Nat.le_of_ble_eq_true rfl) ?_
      refine AD.pure (PureOp.loadRefAgg rfl (.tmp rfl) ve_ag_53_2 (Nat.le_of_ble_eq_true rfl)) rfl rfl (Nat.le_of_ble_eq_true rfl) ?_
      refine AD.pure (PureOp.move rfl (.tmp rfl)) rfl rfl (Nat.le_of_ble_eq_true rfl) ?_
      refine AD.pure (PureOp.move rfl (.tmp rfl)) rfl rfl (Nat.le_of_ble_eq_true rfl) ?_
      refine AD.pure (PureOp.indexLst (i := k) rfl (.tmp rfl) ve_el_58_2 (.tmp rfl) rfl (by omega)) rfl rfl (Nat.le_of_ble_eq_true rfl) ?_
      refine AD.pure (PureOp.loadRefAgg rfl (.tmp rfl) ve_ag_53_2 (Nat.le_of_ble_eq_true rfl)) rfl rfl (Nat.le_of_ble_eq_true rfl) ?_
      refine AD.pure (PureOp.call rfl (v_eqSample (x.getD k (default : GSample)) (y.getD k (default : GSample))) ⟨⟨_, (.tmp rfl), ⟨.int, .int, trivial⟩⟩, ⟨_, (.tmp rfl), ⟨.int, .int, trivial⟩⟩, trivial⟩ ve_ca_48 trivial) rfl rfl (Nat.le_of_ble_eq_true rfl) ?_
      refine AD.pure (PureOp.not rfl (.tmp rfl)) rfl rfl (Nat.le_of_ble_eq_true rfl) ?_
      refine AD.nil ?_
      refine AW.cond (.tmp rfl) (fun hb3 => ?_) (fun hb3 => ?_)
      · have _u := True.intro
        replace hb3 := of_decide_eq_false (of_not hb3)
        refine AW.seq ?_
        refine AW.region ?_
        refine ARun.pure (PureOp.assign rfl .bool) rfl rfl (Nat.le_of_ble_eq_true rfl) ?_
        refine ARun.nil ?_
        refine AW.ret (show ResL _ _ [.tmp 4] _ from resB rfl ?_)
        exact (decide_eq_false (fun e => hb3 (by rw [e]))).symm
      · have _u := True.intro
        replace hb3 := of_decide_eq_true (not_f hb3)
        refine AW.skip ?_
        refine AW.region ?_
        refine ARun.pure (PureOp.move rfl (.tmp rfl)) rfl rfl (Nat.le_of_ble_eq_true rfl) ?_
        refine ARun.pure (PureOp.add (c := ((k + 1 : Nat) : Int)) rfl (.tmp rfl) .int (by rw [wrap_id (by omega) (by omega)]; omega)) rfl rfl (Nat.le_of_ble_eq_true rfl) ?_
        refine ARun.pure (PureOp.assign rfl (.tmp rfl)) rfl rfl (Nat.le_of_ble_eq_true rfl) ?_
        refine ARun.nil ?_
        exact ⟨k + 1, ⟨by omega, take_next (default : GSample) hlt (by omega) hq hb3⟩, by dsimp only; omega, ⟨⟨⟨_, rfl, rfl⟩, ⟨_, rfl, rfl⟩, ⟨_, rfl, rfl⟩, trivial⟩, trivial⟩⟩
    · have _u := True.intro
      replace hb2 := of_decide_eq_false hb2
      have hlt : ¬ k < x.length := by omega
      refine AW.exit ?_
      refine AW.seq ?_
      refine AW.region ?_
      refine ARun.pure (PureOp.assign rfl .bool) rfl rfl (Nat.le_of_ble_eq_true rfl) ?_
      refine ARun.nil ?_
      refine AW.ret (show ResL _ _ [.tmp 4] _ from resB rfl ?_)
      exact (decide_eq_true (eqL_yes hlt (by omega) hq)).symm

theorem v_eqRow (x y : GRow) : Fn Tryd.prog 39 [.agg [.str x.name, .lst 2 x.samples.length (fun i0 j0 => ([.int .i64 ((x.samples.getD i0 (default : GSample)).at_), .int .i64 ((x.samples.getD i0 (default : GSample)).value)] : List AV).getD j0 (.con undef))], .agg [.str y.name, .lst 2 y.samples.length (fun i0 j0 => ([.int .i64 ((y.samples.getD i0 (default : GSample)).at_), .int .i64 ((y.samples.getD i0 (default : GSample)).value)] : List AV).getD j0 (.con undef))]] (.one (.bool (decide (x = y)))) := by
  refine Fn.of_body (fn := Tryd.f39) Tryd.func39 rfl (Nat.le_of_ble_eq_true rfl) trivial ?_
  intro w0
  show AW _ 16 _ _ _ _
  refine AW.seq ?_
  refine AW.region ?_
  refine ARun.box (id := 0) rfl (.tmp rfl) (SV.cells_of (by exact ⟨trivial, trivial, trivial⟩)) ⟨rfl, (by repeat first | exact trivial | refine ⟨by decide, by first | rfl | exact trivial | (intro i j; first | rfl | exact getD_no rfl | (dsimp only; split <;> first | rfl | exact getD_no rfl) | exact scl_no (by apply_assumption) _), ?_⟩)⟩ rfl rfl rfl (Nat.le_of_ble_eq_true rfl) ?_
  refine ARun.box (id := 1) rfl (.tmp rfl) (SV.cells_of (by exact ⟨trivial, trivial, trivial⟩)) ⟨rfl, (by repeat first | exact trivial | refine ⟨by decide, by first | rfl | exact trivial | (intro i j; first | rfl | exact getD_no rfl | (dsimp only; split <;> first | rfl | exact getD_no rfl) | exact scl_no (by apply_assumption) _), ?_⟩)⟩ rfl rfl rfl (Nat.le_of_ble_eq_true rfl) ?_
  refine ARun.pure (PureOp.assign rfl .bool) rfl rfl (Nat.le_of_ble_eq_true rfl) ?_
  refine ARun.nil ?_
  refine AW.seq ?_
  refine AW.seq ?_
  refine AW.region ?_
  refine ARun.pure (PureOp.fieldPtr rfl (.tmp rfl) ve_fi_60_0_0) rfl rfl (Nat.le_of_ble_eq_true rfl) ?_
  refine ARun.pure (PureOp.loadPtr rfl (.tmp rfl) ve_pl_9 rfl rfl (Nat.le_of_ble_eq_true rfl) (Nat.le_of_ble_eq_true rfl)) rfl rfl (Nat.le_of_ble_eq_true rfl) ?_
  refine ARun.pure (PureOp.fieldPtr rfl (.tmp rfl) ve_fi_60_0_0) rfl rfl (Nat.le_of_ble_eq_true rfl) ?_
  refine ARun.pure (PureOp.loadPtr rfl (.tmp rfl) ve_pl_9 rfl rfl (Nat.le_of_ble_eq_true rfl) (Nat.le_of_ble_eq_true rfl)) rfl rfl (Nat.le_of_ble_eq_true rfl) ?_
  refine ARun.pure (PureOp.strOp rfl (.tmp rfl) (.tmp rfl) rfl) rfl rfl (Nat.le_of_ble_eq_true rfl) ?_
  refine ARun.nil ?_
  refine AW.cond (.tmp rfl) (fun hb1 => ?_) (fun hb1 => ?_)
  · have _u := True.intro
    replace hb1 := of_decide_eq_false (of_not hb1)
    refine AW.seq ?_
    refine AW.region ?_
    refine ARun.pure (PureOp.assign rfl .bool) rfl rfl (Nat.le_of_ble_eq_true rfl) ?_
    refine ARun.nil ?_
    refine AW.ret (show ResL _ _ [.tmp 4] _ from resB rfl ?_)
    exact (decide_eq_false (fun e => hb1 (by rw [e]))).symm
  · have _u := True.intro
    replace hb1 := of_decide_eq_true (not_f hb1)
    refine AW.skip ?_
    refine AW.seq ?_
    refine AW.seq ?_
    refine AW.region ?_
    refine ARun.pure (PureOp.fieldPtr rfl (.tmp rfl) ve_fi_60_1_1) rfl rfl (Nat.le_of_ble_eq_true rfl) ?_
    refine ARun.pure (PureOp.loadPtr rfl (.tmp rfl) ve_pl_58 rfl rfl (Nat.le_of_ble_eq_true rfl) (Nat.le_of_ble_eq_true rfl)) rfl rfl (Nat.le_of_ble_eq_true rfl) ?_
    refine ARun.pure (PureOp.fieldPtr rfl (.tmp rfl) ve_fi_60_1_1) rfl rfl (Nat.le_of_ble_eq_true rfl) ?_
    refine ARun.pure (PureOp.loadPtr rfl (.tmp rfl) ve_pl_58 rfl rfl (Nat.le_of_ble_eq_true rfl) (Nat.le_of_ble_eq_true rfl)) rfl rfl (Nat.le_of_ble_eq_true rfl) ?_
    refine ARun.pure (PureOp.call rfl (v_eqSampleS x.samples y.samples) ⟨⟨_, (.tmp rfl), .lst⟩, ⟨_, (.tmp rfl), .lst⟩, trivial⟩ ve_ca_44 trivial) rfl rfl (Nat.le_of_ble_eq_true rfl) ?_
    refine ARun.pure (PureOp.not rfl (.tmp rfl)) rfl rfl (Nat.le_of_ble_eq_true rfl) ?_
    refine ARun.nil ?_
    refine AW.cond (.tmp rfl) (fun hb2 => ?_) (fun hb2 => ?_)
    · have _u := True.intro
      replace hb2 := of_decide_eq_false (of_not hb2)
      refine AW.seq ?_
      refine AW.region ?_
      refine ARun.pure (PureOp.assign rfl .bool) rfl rfl (Nat.le_of_ble_eq_true rfl) ?_
      refine ARun.nil ?_
      refine AW.ret (show ResL _ _ [.tmp 4] _ from resB rfl ?_)
      exact (decide_eq_false (fun e => hb2 (by rw [e]))).symm
    · have _u := True.intro
      replace hb2 := of_decide_eq_true (not_f hb2)
      refine AW.skip ?_
      refine AW.seq ?_
      refine AW.region ?_
      refine ARun.pure (PureOp.assign rfl .bool) rfl rfl (Nat.le_of_ble_eq_true rfl) ?_
      refine ARun.nil ?_
      refine AW.ret (show ResL _ _ [.tmp 4] _ from resB rfl ?_)
      exact (decide_eq_true (by cases x; cases y; simp_all)).symm

theorem v_eqRowS (x y : List GRow) : Fn Tryd.prog 24 [.one (.lst 2 x.length (fun i0 j0 => ([.str ((x.getD i0 (default : GRow)).name), .lst 2 (((x.getD i0 (default : GRow)).samples).length) (fun i1 j1 => ([.int .i64 ((((x.getD i0 (default : GRow)).samples).getD i1 (default : GSample)).at_), .int .i64 ((((x.getD i0 (default : GRow)).samples).getD i1 (default : GSample)).value)] : List AV).getD j1 (.con undef))] : List AV).getD j0 (.con undef))), .one (.lst 2 y.length (fun i0 j0 => ([.str ((y.getD i0 (default : GRow)).name), .lst 2 (((y.getD i0 (default : GRow)).samples).length) (fun i1 j1 => ([.int .i64 ((((y.getD i0 (default : GRow)).samples).getD i1 (default : GSample)).at_), .int .i64 ((((y.getD i0 (default : GRow)).samples).getD i1 (default : GSample)).value)] : List AV).getD j1 (.con undef))] : List AV).getD j0 (.con undef)))] (.one (.bool (decide (x = y)))) := by
  refine Fn.of_body (fn := Tryd.f24) Tryd.func24 rfl (Nat.le_of_ble_eq_true rfl) trivial ?_
  intro w0
  show AW _ 27 _ _ _ _
  refine AW.bound (t := 0) rfl fun hx => ?_
  refine AW.seq ?_
  refine AW.region ?_
  refine ARun.pure (PureOp.assign rfl .bool) rfl rfl (Nat.le_of_ble_eq_true rfl) ?_
  refine ARun.nil ?_
  refine AW.seq ?_
  refine AW.seq ?_
  refine AW.region ?_
  refine ARun.pure (PureOp.move rfl (.tmp rfl)) rfl rfl (Nat.le_of_ble_eq_true rfl) ?_
  refine ARun.pure (PureOp.lenLst rfl (.tmp rfl) ve_sl_35) rfl rfl (Nat.le_of_ble_eq_true rfl) ?_
  refine ARun.pure (PureOp.move rfl (.tmp rfl)) rfl rfl (Nat.le_of_ble_eq_true rfl) ?_
  refine ARun.pure (PureOp.lenLst rfl (.tmp rfl) ve_sl_35) rfl rfl (Nat.le_of_ble_eq_true rfl) ?_
  refine ARun.pure (PureOp.intOp rfl (.tmp rfl) (.tmp rfl) rfl) rfl rfl (Nat.le_of_ble_eq_true rfl) ?_
  refine ARun.nil ?_
  refine AW.cond (.tmp rfl) (fun hb1 => ?_) (fun hb1 => ?_)
  · have _u := True.intro
    replace hb1 := of_decide_eq_false (of_not hb1)
    refine AW.seq ?_
    refine AW.region ?_
    refine ARun.pure (PureOp.assign rfl .bool) rfl rfl (Nat.le_of_ble_eq_true rfl) ?_
    refine ARun.nil ?_
    refine AW.ret (show ResL _ _ [.tmp 4] _ from resB rfl ?_)
    exact (decide_eq_false (fun e => by rw [e] at hb1; omega)).symm
  · have _u := True.intro
    replace hb1 := of_decide_eq_true (not_f hb1)
    refine AW.skip ?_
    refine AW.seq ?_
    refine AW.seq ?_
    refine AW.region ?_
    refine ARun.pure (PureOp.assign rfl .int) rfl rfl (Nat.le_of_ble_eq_true rfl) ?_
    refine ARun.nil ?_
    refine AW.block ?_
    refine AW.loop (ι := Nat) (fun k => ⟨[(0, .one (.lst 2 x.length (fun i0 j0 => ([.str ((x.getD i0 (default : GRow)).name), .lst 2 (((x.getD i0 (default : GRow)).samples).length) (fun i1 j1 => ([.int .i64 ((((x.getD i0 (default : GRow)).samples).getD i1 (default : GSample)).at_), .int .i64 ((((x.getD i0 (default : GRow)).samples).getD i1 (default : GSample)).value)] : List AV).getD j1 (.con undef))] : List AV).getD j0 (.con undef)))), (1, .one (.lst 2 y.length (fun i0 j0 => ([.str ((y.getD i0 (default : GRow)).name), .lst 2 (((y.getD i0 (default : GRow)).samples).length) (fun i1 j1 => ([.int .i64 ((((y.getD i0 (default : GRow)).samples).getD i1 (default : GSample)).at_), .int .i64 ((((y.getD i0 (default : GRow)).samples).getD i1 (default : GSample)).value)] : List AV).getD j1 (.con undef))] : List AV).getD j0 (.con undef)))), (5, .one (.int .i64 (k : Int)))], []⟩) (fun k => k ≤ x.length ∧ x.take k = y.take k) (fun k => x.length - k) 0 ⟨Nat.zero_le _, rfl⟩ ⟨⟨⟨_, rfl, rfl⟩, ⟨_, rfl, rfl⟩, ⟨_, rfl, rfl⟩, trivial⟩, trivial⟩ ?_
    intro k hI
    obtain ⟨hk, hq⟩ := hI
    refine AW.seq ?_
    refine AW.seq ?_
    refine AW.region ?_
    refine ARun.pure (PureOp.move rfl (.tmp rfl)) rfl rfl (Nat.le_of_ble_eq_true rfl) ?_
    refine ARun.pure (PureOp.move rfl (.tmp rfl)) rfl rfl (Nat.le_of_ble_eq_true rfl) ?_
    refine ARun.pure (PureOp.lenLst rfl (.tmp rfl) ve_sl_35) rfl rfl (Nat.le_of_ble_eq_true rfl) ?_
    refine ARun.pure (PureOp.intOp rfl (.tmp rfl) (.tmp rfl) rfl) rfl rfl (Nat.le_of_ble_eq_true rfl) ?_
    refine ARun.nil ?_
    refine AW.cond (.tmp rfl) (fun hb2 => ?_) (fun hb2 => ?_)
    · have _u := True.intro
      replace hb2 := of_decide_eq_true hb2
      have hlt : k < x.length := by omega
      have hlt2 : k < y.length := by omega
      refine AW.skip ?_
      refine AW.seq ?_
      refine AW.block ?_
      refine AW.seq ?_
      refine AW.any (by kernel_rfl) (by kernel_rfl) ?_
      refine AD.pure (PureOp.move rfl (.tmp rfl)) rfl rfl (Nat.le_of_ble_eq_true rfl) ?_
      refine AD.pure (PureOp.move rfl (.tmp rfl)) rfl rfl (Nat.le_of_ble_eq_true rfl) ?_
      refine AD.pure (PureOp.indexLst (i := k) rfl (.tmp rfl) ve_el_35_2 (.tmp rfl) rfl (by omega)) rfl rfl (Nat.le_of_ble_eq_true rfl) ?_
      refine AD.pure (PureOp.loadRefAgg rfl (.tmp rfl) ve_ag_60_2 (Nat.le_of_ble_eq_true rfl)) rfl rfl (Nat.le_of_ble_eq_true rfl) ?_
      refine AD.pure (PureOp.move rfl (.tmp rfl)) rfl rfl (Nat.le_of_ble_eq_true rfl) ?_
      refine AD.pure (PureOp.move rfl (.tmp rfl)) rfl rfl (Nat.le_of_ble_eq_true rfl) ?_
      refine AD.pure (PureOp.indexLst (i := k) rfl (.tmp rfl) ve_el_35_2 (.tmp rfl) rfl (by omega)) rfl rfl (Nat.le_of_ble_eq_true rfl) ?_
      refine AD.pure (PureOp.loadRefAgg rfl (.tmp rfl) ve_ag_60_2 (Nat.le_of_ble_eq_true rfl)) rfl rfl (Nat.le_of_ble_eq_true rfl) ?_
      refine AD.pure (PureOp.call rfl (v_eqRow (x.getD k (default : GRow)) (y.getD k (default : GRow))) ⟨⟨_, (.tmp rfl), ⟨.str, .lst, trivial⟩⟩, ⟨_, (.tmp rfl), ⟨.str, .lst, trivial⟩⟩, trivial⟩ ve_ca_39 trivial) rfl rfl (Nat.le_of_ble_eq_true rfl) ?_
      refine AD.pure (PureOp.not rfl (.tmp rfl)) rfl rfl (Nat.le_of_ble_eq_true rfl) ?_
      refine AD.nil ?_
      refine AW.cond (.tmp rfl) (fun hb3 => ?_) (fun hb3 => ?_)
      · have _u := True.intro
        replace hb3 := of_decide_eq_false (of_not hb3)
        refine AW.seq ?_
        refine AW.region ?_
        refine ARun.pure (PureOp.assign rfl .bool) rfl rfl (Nat.le_of_ble_eq_true rfl) ?_
        refine ARun.nil ?_
        refine AW.ret (show ResL _ _ [.tmp 4] _ from resB rfl ?_)
        exact (decide_eq_false (fun e => hb3 (by rw [e]))).symm
      · have _u := True.intro
        replace hb3 := of_decide_eq_true (not_f hb3)
        refine AW.skip ?_
        refine AW.region ?_
        refine ARun.pure (PureOp.move rfl (.tmp rfl)) rfl rfl (Nat.le_of_ble_eq_true rfl) ?_
        refine ARun.pure (PureOp.add (c := ((k + 1 : Nat) : Int)) rfl (.tmp rfl) .int (by rw [wrap_id (by omega) (by omega)]; omega)) rfl rfl (Nat.le_of_ble_eq_true rfl) ?_
        refine ARun.pure (PureOp.assign rfl (.tmp rfl)) rfl rfl (Nat.le_of_ble_eq_true rfl) ?_
        refine ARun.nil ?_
        exact ⟨k + 1, ⟨by omega, take_next (default : GRow) hlt (by omega) hq hb3⟩, by dsimp only; omega, ⟨⟨⟨_, rfl, rfl⟩, ⟨_, rfl, rfl⟩, ⟨_, rfl, rfl⟩, trivial⟩, trivial⟩⟩
    · have _u := True.intro
      replace hb2 := of_decide_eq_false hb2
      have hlt : ¬ k < x.length := by omega
      refine AW.exit ?_
      refine AW.seq ?_
      refine AW.region ?_
      refine ARun.pure (PureOp.assign rfl .bool) rfl rfl (Nat.le_of_ble_eq_true rfl) ?_
      refine ARun.nil ?_
      refine AW.ret (show ResL _ _ [.tmp 4] _ from resB rfl ?_)
      exact (decide_eq_true (eqL_yes hlt (by omega) hq)).symm

theorem v_eqHead (x y : GHead) : Fn Tryd.prog 13 [.agg [.lst 2 x.rows.length (fun i0 j0 => ([.str ((x.rows.getD i0 (default : GRow)).name), .lst 2 (((x.rows.getD i0 (default : GRow)).samples).length) (fun i1 j1 => ([.int .i64 ((((x.rows.getD i0 (default : GRow)).samples).getD i1 (default : GSample)).at_), .int .i64 ((((x.rows.getD i0 (default : GRow)).samples).getD i1 (default : GSample)).value)] : List AV).getD j1 (.con undef))] : List AV).getD j0 (.con undef)), .int .i64 x.offset], .agg [.lst 2 y.rows.length (fun i0 j0 => ([.str ((y.rows.getD i0 (default : GRow)).name), .lst 2 (((y.rows.getD i0 (default : GRow)).samples).length) (fun i1 j1 => ([.int .i64 ((((y.rows.getD i0 (default : GRow)).samples).getD i1 (default : GSample)).at_), .int .i64 ((((y.rows.getD i0 (default : GRow)).samples).getD i1 (default : GSample)).value)] : List AV).getD j1 (.con undef))] : List AV).getD j0 (.con undef)), .int .i64 y.offset]] (.one (.bool (decide (x = y)))) := by
  refine Fn.of_body (fn := Tryd.f13) Tryd.func13 rfl (Nat.le_of_ble_eq_true rfl) trivial ?_
  intro w0
  show AW _ 16 _ _ _ _
  refine AW.seq ?_
  refine AW.region ?_
  refine ARun.box (id := 0) rfl (.tmp rfl) (SV.cells_of (by exact ⟨trivial, trivial, trivial⟩)) ⟨rfl, (by repeat first | exact trivial | refine ⟨by decide, by first | rfl | exact trivial | (intro i j; first | rfl | exact getD_no rfl | (dsimp only; split <;> first | rfl | exact getD_no rfl) | exact scl_no (by apply_assumption) _), ?_⟩)⟩ rfl rfl rfl (Nat.le_of_ble_eq_true rfl) ?_
  refine ARun.box (id := 1) rfl (.tmp rfl) (SV.cells_of (by exact ⟨trivial, trivial, trivial⟩)) ⟨rfl, (by repeat first | exact trivial | refine ⟨by decide, by first | rfl | exact trivial | (intro i j; first | rfl | exact getD_no rfl | (dsimp only; split <;> first | rfl | exact getD_no rfl) | exact scl_no (by apply_assumption) _), ?_⟩)⟩ rfl rfl rfl (Nat.le_of_ble_eq_true rfl) ?_
  refine ARun.pure (PureOp.assign rfl .bool) rfl rfl (Nat.le_of_ble_eq_true rfl) ?_
  refine ARun.nil ?_
  refine AW.seq ?_
  refine AW.seq ?_
  refine AW.region ?_
  refine ARun.pure (PureOp.fieldPtr rfl (.tmp rfl) ve_fi_37_0_0) rfl rfl (Nat.le_of_ble_eq_true rfl) ?_
  refine ARun.pure (PureOp.loadPtr rfl (.tmp rfl) ve_pl_35 rfl rfl (Nat.le_of_ble_eq_true rfl) (Nat.le_of_ble_eq_true rfl)) rfl rfl (Nat.le_of_ble_eq_true rfl) ?_
  refine ARun.pure (PureOp.fieldPtr rfl (.tmp rfl) ve_fi_37_0_0) rfl rfl (Nat.le_of_ble_eq_true rfl) ?_
  refine ARun.pure (PureOp.loadPtr rfl (.tmp rfl) ve_pl_35 rfl rfl (Nat.le_of_ble_eq_true rfl) (Nat.le_of_ble_eq_true rfl)) rfl rfl (Nat.le_of_ble_eq_true rfl) ?_
  refine ARun.pure (PureOp.call rfl (v_eqRowS x.rows y.rows) ⟨⟨_, (.tmp rfl), .lst⟩, ⟨_, (.tmp rfl), .lst⟩, trivial⟩ ve_ca_24 trivial) rfl rfl (Nat.le_of_ble_eq_true rfl) ?_
  refine ARun.pure (PureOp.not rfl (.tmp rfl)) rfl rfl (Nat.le_of_ble_eq_true rfl) ?_
  refine ARun.nil ?_
  refine AW.cond (.tmp rfl) (fun hb1 => ?_) (fun hb1 => ?_)
  · have _u := True.intro
    replace hb1 := of_decide_eq_false (of_not hb1)
    refine AW.seq ?_
    refine AW.region ?_
    refine ARun.pure (PureOp.assign rfl .bool) rfl rfl (Nat.le_of_ble_eq_true rfl) ?_
    refine ARun.nil ?_
    refine AW.ret (show ResL _ _ [.tmp 4] _ from resB rfl ?_)
    exact (decide_eq_false (fun e => hb1 (by rw [e]))).symm
  · have _u := True.intro
    replace hb1 := of_decide_eq_true (not_f hb1)
    refine AW.skip ?_
    refine AW.seq ?_
    refine AW.seq ?_
    refine AW.region ?_
    refine ARun.pure (PureOp.fieldPtr rfl (.tmp rfl) ve_fi_37_1_1) rfl rfl (Nat.le_of_ble_eq_true rfl) ?_
    refine ARun.pure (PureOp.loadPtr rfl (.tmp rfl) ve_pl_3 rfl rfl (Nat.le_of_ble_eq_true rfl) (Nat.le_of_ble_eq_true rfl)) rfl rfl (Nat.le_of_ble_eq_true rfl) ?_
    refine ARun.pure (PureOp.fieldPtr rfl (.tmp rfl) ve_fi_37_1_1) rfl rfl (Nat.le_of_ble_eq_true rfl) ?_
    refine ARun.pure (PureOp.loadPtr rfl (.tmp rfl) ve_pl_3 rfl rfl (Nat.le_of_ble_eq_true rfl) (Nat.le_of_ble_eq_true rfl)) rfl rfl (Nat.le_of_ble_eq_true rfl) ?_
    refine ARun.pure (PureOp.intOp rfl (.tmp rfl) (.tmp rfl) rfl) rfl rfl (Nat.le_of_ble_eq_true rfl) ?_
    refine ARun.nil ?_
    refine AW.cond (.tmp rfl) (fun hb2 => ?_) (fun hb2 => ?_)
    · have _u := True.intro
      replace hb2 := of_decide_eq_false (of_not hb2)
      refine AW.seq ?_
      refine AW.region ?_
      refine ARun.pure (PureOp.assign rfl .bool) rfl rfl (Nat.le_of_ble_eq_true rfl) ?_
      refine ARun.nil ?_
      refine AW.ret (show ResL _ _ [.tmp 4] _ from resB rfl ?_)
      exact (decide_eq_false (fun e => hb2 (by rw [e]))).symm
    · have _u := True.intro
      replace hb2 := of_decide_eq_true (not_f hb2)
      refine AW.skip ?_
      refine AW.seq ?_
      refine AW.region ?_
      refine ARun.pure (PureOp.assign rfl .bool) rfl rfl (Nat.le_of_ble_eq_true rfl) ?_
      refine ARun.nil ?_
      refine AW.ret (show ResL _ _ [.tmp 4] _ from resB rfl ?_)
      exact (decide_eq_true (by cases x; cases y; simp_all)).symm
end Go.Proofs.YtmfkmifkkplidaaDoor


/-
  The laws' own copies (to) over the data of this seat.
-/
namespace Go.Proofs.YtmfkmifkkplidaaDoor
open Go.ChangeShapes Go.WideShapes Go.ChangeAt Go.RowKit Go.BigFrame Go.Deep
set_option linter.unusedVariables false
set_option linter.unusedSimpArgs false
theorem vo_ag_37_2 : aggB Tryd.prog 37 2 = true := by kernel_rfl
theorem vo_ag_53_2 : aggB Tryd.prog 53 2 = true := by kernel_rfl
theorem vo_ag_57_2 : aggB Tryd.prog 57 2 = true := by kernel_rfl
theorem vo_ag_60_2 : aggB Tryd.prog 60 2 = true := by kernel_rfl
theorem vo_ag_79_2 : aggB Tryd.prog 79 2 = true := by kernel_rfl
theorem vo_ca_21 : callB Tryd.prog 21 = true := by kernel_rfl
theorem vo_ca_34 : callB Tryd.prog 34 = true := by kernel_rfl
theorem vo_ca_42 : callB Tryd.prog 42 = true := by kernel_rfl
theorem vo_ca_46 : callB Tryd.prog 46 = true := by kernel_rfl
theorem vo_el_30_2 : elemB Tryd.prog 30 2 = true := by kernel_rfl
theorem vo_el_35_2 : elemB Tryd.prog 35 2 = true := by kernel_rfl
theorem vo_el_55_2 : elemB Tryd.prog 55 2 = true := by kernel_rfl
theorem vo_el_58_2 : elemB Tryd.prog 58 2 = true := by kernel_rfl
theorem vo_fi_32_0_0 : fieldB Tryd.prog 32 0 0 = true := by kernel_rfl
theorem vo_fi_32_1_1 : fieldB Tryd.prog 32 1 1 = true := by kernel_rfl
theorem vo_fi_37_0_0 : fieldB Tryd.prog 37 0 0 = true := by kernel_rfl
theorem vo_fi_37_1_1 : fieldB Tryd.prog 37 1 1 = true := by kernel_rfl
theorem vo_fi_53_0_0 : fieldB Tryd.prog 53 0 0 = true := by kernel_rfl
theorem vo_fi_53_1_1 : fieldB Tryd.prog 53 1 1 = true := by kernel_rfl
theorem vo_fi_57_0_0 : fieldB Tryd.prog 57 0 0 = true := by kernel_rfl
theorem vo_fi_57_1_1 : fieldB Tryd.prog 57 1 1 = true := by kernel_rfl
theorem vo_fi_60_0_0 : fieldB Tryd.prog 60 0 0 = true := by kernel_rfl
theorem vo_fi_60_1_1 : fieldB Tryd.prog 60 1 1 = true := by kernel_rfl
theorem vo_fi_79_0_0 : fieldB Tryd.prog 79 0 0 = true := by kernel_rfl
theorem vo_fi_79_1_1 : fieldB Tryd.prog 79 1 1 = true := by kernel_rfl
theorem vo_pl_3 : plainB Tryd.prog 3 = true := by kernel_rfl
theorem vo_pl_30 : plainB Tryd.prog 30 = true := by kernel_rfl
theorem vo_pl_55 : plainB Tryd.prog 55 = true := by kernel_rfl
theorem vo_pl_9 : plainB Tryd.prog 9 = true := by kernel_rfl
theorem vo_sl_30 : sliceB Tryd.prog 30 = true := by kernel_rfl
theorem vo_sl_55 : sliceB Tryd.prog 55 = true := by kernel_rfl
theorem vo_sz_35_1 : sizeB Tryd.prog 35 1 = true := by kernel_rfl
theorem vo_sz_37_2 : sizeB Tryd.prog 37 2 = true := by kernel_rfl
theorem vo_sz_3_1 : sizeB Tryd.prog 3 1 = true := by kernel_rfl
theorem vo_sz_53_2 : sizeB Tryd.prog 53 2 = true := by kernel_rfl
theorem vo_sz_58_1 : sizeB Tryd.prog 58 1 = true := by kernel_rfl
theorem vo_sz_60_2 : sizeB Tryd.prog 60 2 = true := by kernel_rfl
theorem vo_sz_9_1 : sizeB Tryd.prog 9 1 = true := by kernel_rfl
theorem v_toSample (x : GSample) : FnF Tryd.prog 46 [.agg [.int .i64 x.at_, .int .i64 x.value]] (.agg [.int .i64 x.at_, .int .i64 x.value]) := by
  refine FnF.of_body (fn := Tryd.f46) Tryd.func46 rfl (Nat.le_of_ble_eq_true rfl)  ?_
  intro w0
  show AW _ 11 _ _ _ _
  refine AW.seq ?_
  refine AW.region ?_
  refine ARun.box (id := 0) rfl (.tmp rfl) (SV.cells_of (by exact ⟨trivial, trivial, trivial⟩)) ⟨rfl, (by repeat first | exact trivial | refine ⟨by decide, by first | rfl | exact trivial | (intro i j; first | rfl | exact getD_no rfl | (dsimp only; split <;> first | rfl | exact getD_no rfl) | exact scl_no (by apply_assumption) _), ?_⟩)⟩ rfl rfl rfl (Nat.le_of_ble_eq_true rfl) ?_
  refine ARun.alloc (id := 1) (l := [.int .i64 0, .int .i64 0]) (z := (.agg #[.int .i64 0, .int .i64 0])) rfl (by kernel_rfl) (fun _ _ _ => ⟨_, _, rfl, rfl, ⟨_, _, rfl, rfl, rfl⟩⟩) ⟨rfl, (by repeat first | exact trivial | refine ⟨by decide, by first | rfl | exact trivial | (intro i j; first | rfl | exact getD_no rfl | (dsimp only; split <;> first | rfl | exact getD_no rfl) | exact scl_no (by apply_assumption) _), ?_⟩)⟩ rfl rfl rfl (Nat.le_of_ble_eq_true rfl) ?_
  refine ARun.nil ?_
  refine AW.seq ?_
  refine AW.region ?_
  refine ARun.alloc (id := 2) (l := [.int .i64 0, .int .i64 0]) (z := (.agg #[.int .i64 0, .int .i64 0])) rfl (by kernel_rfl) (fun _ _ _ => ⟨_, _, rfl, rfl, ⟨_, _, rfl, rfl, rfl⟩⟩) ⟨rfl, (by repeat first | exact trivial | refine ⟨by decide, by first | rfl | exact trivial | (intro i j; first | rfl | exact getD_no rfl | (dsimp only; split <;> first | rfl | exact getD_no rfl) | exact scl_no (by apply_assumption) _), ?_⟩)⟩ rfl rfl rfl (Nat.le_of_ble_eq_true rfl) ?_
  refine ARun.nil ?_
  refine AW.seq ?_
  refine AW.region ?_
  refine ARun.pure (PureOp.fieldPtr rfl (.tmp rfl) vo_fi_79_0_0) rfl rfl (Nat.le_of_ble_eq_true rfl) ?_
  refine ARun.pure (PureOp.loadPtr rfl (.tmp rfl) vo_pl_3 rfl rfl (Nat.le_of_ble_eq_true rfl) (Nat.le_of_ble_eq_true rfl)) rfl rfl (Nat.le_of_ble_eq_true rfl) ?_
  refine ARun.pure (PureOp.fieldPtr rfl (.tmp rfl) vo_fi_53_0_0) rfl rfl (Nat.le_of_ble_eq_true rfl) ?_
  refine ARun.store rfl (.tmp rfl) (.tmp rfl) trivial rfl (Nat.le_of_ble_eq_true rfl) vo_sz_3_1 rfl rfl ?_
  refine ARun.nil ?_
  refine AW.seq ?_
  refine AW.region ?_
  refine ARun.pure (PureOp.fieldPtr rfl (.tmp rfl) vo_fi_79_1_1) rfl rfl (Nat.le_of_ble_eq_true rfl) ?_
  refine ARun.pure (PureOp.loadPtr rfl (.tmp rfl) vo_pl_3 rfl rfl (Nat.le_of_ble_eq_true rfl) (Nat.le_of_ble_eq_true rfl)) rfl rfl (Nat.le_of_ble_eq_true rfl) ?_
  refine ARun.pure (PureOp.fieldPtr rfl (.tmp rfl) vo_fi_53_1_1) rfl rfl (Nat.le_of_ble_eq_true rfl) ?_
  refine ARun.store rfl (.tmp rfl) (.tmp rfl) trivial rfl (Nat.le_of_ble_eq_true rfl) vo_sz_3_1 rfl rfl ?_
  refine ARun.nil ?_
  refine AW.seq ?_
  refine AW.region ?_
  refine ARun.pure (PureOp.loadPtrAgg rfl (.tmp rfl) vo_ag_53_2 rfl rfl (Nat.le_of_ble_eq_true rfl) (Nat.le_of_ble_eq_true rfl)) rfl rfl (Nat.le_of_ble_eq_true rfl) ?_
  refine ARun.store rfl (.tmp rfl) (.tmp rfl) (SV.cells_of (by exact ⟨trivial, trivial, trivial⟩)) rfl (Nat.le_of_ble_eq_true rfl) vo_sz_53_2 rfl rfl ?_
  refine ARun.nil ?_
  exact AW.ret (show ∃ s, ResL _ _ [.cell 2 53] s ∧ FvS _ s _ from ⟨_, .inl ⟨_, rfl, .cells rfl vo_ag_53_2 rfl rfl (Nat.le_of_ble_eq_true rfl) (Nat.le_of_ble_eq_true rfl)⟩, ⟨.int, .int, trivial⟩⟩)

theorem v_toSampleS (x : List GSample) (hw : Small (x.length)) : FnF Tryd.prog 42 [.one (.lst 2 x.length (fun i0 j0 => ([.int .i64 ((x.getD i0 (default : GSample)).at_), .int .i64 ((x.getD i0 (default : GSample)).value)] : List AV).getD j0 (.con undef)))] (.one (.lst 2 x.length (fun i0 j0 => ([.int .i64 ((x.getD i0 (default : GSample)).at_), .int .i64 ((x.getD i0 (default : GSample)).value)] : List AV).getD j0 (.con undef)))) := by
  unfold Small at hw
  have hlen : x.length ≤ 1048576 := by omega
  refine FnF.of_body (fn := Tryd.f42) Tryd.func42 rfl (Nat.le_of_ble_eq_true rfl)  ?_
  intro w0
  show AW _ 23 _ _ _ _
  refine AW.seq ?_
  refine AW.region ?_
  refine ARun.pure (PureOp.assign rfl (.nil 1 (fun _ _ => .con undef))) rfl rfl (Nat.le_of_ble_eq_true rfl) ?_
  refine ARun.nil ?_
  refine AW.seq ?_
  refine AW.region ?_
  refine ARun.pure (PureOp.move rfl (.tmp rfl)) rfl rfl (Nat.le_of_ble_eq_true rfl) ?_
  refine ARun.pure (PureOp.lenLst rfl (.tmp rfl) vo_sl_55) rfl rfl (Nat.le_of_ble_eq_true rfl) ?_
  refine ARun.make (id := 0) (n := x.length) (l := [.int .i64 0, .int .i64 0]) (z := (.agg #[.int .i64 0, .int .i64 0])) (by_ := 16) rfl (by kernel_rfl) (fun _ _ _ => ⟨_, _, rfl, rfl, ⟨_, _, rfl, rfl, rfl⟩⟩) (.tmp rfl) (.tmp rfl) rfl rfl (by omega) (by omega) (by decide) ⟨rfl, (by repeat first | exact trivial | refine ⟨by decide, by first | rfl | exact trivial | (intro i j; first | rfl | exact getD_no rfl | (dsimp only; split <;> first | rfl | exact getD_no rfl) | exact scl_no (by apply_assumption) _), ?_⟩)⟩ rfl rfl rfl (Nat.le_of_ble_eq_true rfl) ?_
  refine ARun.pure (PureOp.assign rfl (.tmp rfl)) rfl rfl (Nat.le_of_ble_eq_true rfl) ?_
  refine ARun.nil ?_
  refine AW.seq ?_
  refine AW.seq ?_
  refine AW.region ?_
  refine ARun.pure (PureOp.assign rfl .int) rfl rfl (Nat.le_of_ble_eq_true rfl) ?_
  refine ARun.nil ?_
  refine AW.block ?_
  refine AW.loop (ι := Nat) (fun k => ⟨[(0, .one (.lst 2 x.length (fun i0 j0 => ([.int .i64 ((x.getD i0 (default : GSample)).at_), .int .i64 ((x.getD i0 (default : GSample)).value)] : List AV).getD j0 (.con undef)))), (3, .one (.own 0 2 x.length)), (4, .one (.int .i64 (k : Int)))], [(0, .arr 2 x.length (fun a b => if a < k then (fun i0 j0 => ([.int .i64 ((x.getD i0 (default : GSample)).at_), .int .i64 ((x.getD i0 (default : GSample)).value)] : List AV).getD j0 (.con undef)) a b else ([.int .i64 0, .int .i64 0] : List AV).getD b (.con undef)))]⟩) (fun k => k ≤ x.length) (fun k => x.length - k) 0 (Nat.zero_le _) ⟨⟨⟨_, rfl, rfl⟩, ⟨_, rfl, rfl⟩, ⟨_, rfl, rfl⟩, trivial⟩, ⟨⟨_, rfl, rfl, Nat.le_refl _, fun a b _ _ => by simp [AObj.f]⟩, trivial⟩⟩ ?_
  intro k hk
  refine AW.seq ?_
  refine AW.seq ?_
  refine AW.region ?_
  refine ARun.pure (PureOp.move rfl (.tmp rfl)) rfl rfl (Nat.le_of_ble_eq_true rfl) ?_
  refine ARun.pure (PureOp.move rfl (.tmp rfl)) rfl rfl (Nat.le_of_ble_eq_true rfl) ?_
  refine ARun.pure (PureOp.lenLst rfl (.tmp rfl) vo_sl_55) rfl rfl (Nat.le_of_ble_eq_true rfl) ?_
  refine ARun.pure (PureOp.intOp rfl (.tmp rfl) (.tmp rfl) rfl) rfl rfl (Nat.le_of_ble_eq_true rfl) ?_
  refine ARun.nil ?_
  refine AW.cond (.tmp rfl) (fun hb1 => ?_) (fun hb1 => ?_)
  · have _u := True.intro
    replace hb1 := of_decide_eq_true hb1
    have hlt : k < x.length := by omega
    refine AW.skip ?_
    refine AW.seq ?_
    refine AW.block ?_
    refine AW.region ?_
    refine ARun.pure (PureOp.move rfl (.tmp rfl)) rfl rfl (Nat.le_of_ble_eq_true rfl) ?_
    refine ARun.pure (PureOp.move rfl (.tmp rfl)) rfl rfl (Nat.le_of_ble_eq_true rfl) ?_
    refine ARun.pure (PureOp.move rfl (.tmp rfl)) rfl rfl (Nat.le_of_ble_eq_true rfl) ?_
    refine ARun.pure (PureOp.move rfl (.tmp rfl)) rfl rfl (Nat.le_of_ble_eq_true rfl) ?_
    refine ARun.pure (PureOp.indexLst (i := k) rfl (.tmp rfl) vo_el_55_2 (.tmp rfl) rfl (by omega)) rfl rfl (Nat.le_of_ble_eq_true rfl) ?_
    refine ARun.pure (PureOp.loadRefAgg rfl (.tmp rfl) vo_ag_79_2 (Nat.le_of_ble_eq_true rfl)) rfl rfl (Nat.le_of_ble_eq_true rfl) ?_
    refine ARun.fresh (FreshOp.callS rfl (v_toSample (x.getD k (default : GSample))) ⟨⟨_, (.tmp rfl), ⟨.int, .int, trivial⟩⟩, trivial⟩ vo_ca_46 rfl) rfl rfl (Nat.le_of_ble_eq_true rfl) ?_
    refine ARun.pure (PureOp.indexOwn (i := k) rfl (.tmp rfl) vo_el_58_2 (.tmp rfl) rfl (by omega)) rfl rfl (Nat.le_of_ble_eq_true rfl) ?_
    refine ARun.storeElem rfl (.tmp rfl) (.tmp rfl) (SV.cells_of (by exact ⟨trivial, trivial, trivial⟩)) rfl (by omega) rfl vo_sz_53_2 rfl rfl ?_
    refine ARun.nil ?_
    refine AW.region ?_
    refine ARun.pure (PureOp.move rfl (.tmp rfl)) rfl rfl (Nat.le_of_ble_eq_true rfl) ?_
    refine ARun.pure (PureOp.add (c := ((k + 1 : Nat) : Int)) rfl (.tmp rfl) .int (by rw [wrap_id (by omega) (by omega)]; omega)) rfl rfl (Nat.le_of_ble_eq_true rfl) ?_
    refine ARun.pure (PureOp.assign rfl (.tmp rfl)) rfl rfl (Nat.le_of_ble_eq_true rfl) ?_
    refine ARun.nil ?_
    exact ⟨k + 1, by omega, by dsimp only; omega, ⟨⟨⟨_, rfl, rfl⟩, ⟨_, rfl, rfl⟩, ⟨_, rfl, rfl⟩, trivial⟩, ⟨⟨_, rfl, rfl, Nat.le_refl _, fun a b _ hb => fill_next (sz := 2) (k := k) (g := fun i0 j0 => ([.int .i64 ((x.getD i0 (default : GSample)).at_), .int .i64 ((x.getD i0 (default : GSample)).value)] : List AV).getD j0 (.con undef)) (z := fun b => ([.int .i64 0, .int .i64 0] : List AV).getD b (.con undef)) (c := fun b => ([.int .i64 ((x.getD k (default : GSample)).at_), .int .i64 ((x.getD k (default : GSample)).value)] : List AV).getD b (.con undef)) (fun b hb => match b, hb with | 0, _ => rfl | 1, _ => rfl | _ + 2, h => absurd h (by omega)) a b hb⟩, trivial⟩⟩⟩
  · have _u := True.intro
    replace hb1 := of_decide_eq_false hb1
    have hlt : ¬ k < x.length := by omega
    refine AW.exit ?_
    refine AW.seq ?_
    refine AW.region ?_
    refine ARun.pure (PureOp.move rfl (.tmp rfl)) rfl rfl (Nat.le_of_ble_eq_true rfl) ?_
    refine ARun.pure (PureOp.assign rfl (.tmp rfl)) rfl rfl (Nat.le_of_ble_eq_true rfl) ?_
    refine ARun.nil ?_
    exact AW.ret (show ∃ s, ResL _ _ [.tmp 2] s ∧ FvS _ s _ from ⟨_, .inl ⟨_, rfl, .tmp rfl⟩, (.own rfl rfl (Nat.le_refl _) (fun i j hi hj => Fv.ite (show i < k by omega) (match j, hj with | 0, _ => .int | 1, _ => .int | _ + 2, h => absurd h (by omega))))⟩)

theorem v_toRow (x : GRow) (hw : Small (wtRow x)) : FnF Tryd.prog 34 [.agg [.str x.name, .lst 2 x.samples.length (fun i0 j0 => ([.int .i64 ((x.samples.getD i0 (default : GSample)).at_), .int .i64 ((x.samples.getD i0 (default : GSample)).value)] : List AV).getD j0 (.con undef))]] (.agg [.str x.name, .lst 2 x.samples.length (fun i0 j0 => ([.int .i64 ((x.samples.getD i0 (default : GSample)).at_), .int .i64 ((x.samples.getD i0 (default : GSample)).value)] : List AV).getD j0 (.con undef))]) := by
  unfold Small wtRow at hw
  refine FnF.of_body (fn := Tryd.f34) Tryd.func34 rfl (Nat.le_of_ble_eq_true rfl)  ?_
  intro w0
  show AW _ 12 _ _ _ _
  refine AW.seq ?_
  refine AW.region ?_
  refine ARun.box (id := 0) rfl (.tmp rfl) (SV.cells_of (by exact ⟨trivial, trivial, trivial⟩)) ⟨rfl, (by repeat first | exact trivial | refine ⟨by decide, by first | rfl | exact trivial | (intro i j; first | rfl | exact getD_no rfl | (dsimp only; split <;> first | rfl | exact getD_no rfl) | exact scl_no (by apply_assumption) _), ?_⟩)⟩ rfl rfl rfl (Nat.le_of_ble_eq_true rfl) ?_
  refine ARun.alloc (id := 1) (l := [.str ByteArray.empty, .lst 2 0 (fun _ _ => .con undef)]) (z := (.agg #[.string ByteArray.empty, .slice none 0 0])) rfl (by kernel_rfl) (fun _ _ _ => ⟨_, _, rfl, ⟨rfl, by decide⟩, ⟨_, _, rfl, ⟨none, 0, rfl, Nat.le_refl _, by decide, fun _ => rfl, fun i hi => absurd hi (by omega)⟩, rfl⟩⟩) ⟨rfl, (by repeat first | exact trivial | refine ⟨by decide, by first | rfl | exact trivial | (intro i j; first | rfl | exact getD_no rfl | (dsimp only; split <;> first | rfl | exact getD_no rfl) | exact scl_no (by apply_assumption) _), ?_⟩)⟩ rfl rfl rfl (Nat.le_of_ble_eq_true rfl) ?_
  refine ARun.nil ?_
  refine AW.seq ?_
  refine AW.region ?_
  refine ARun.alloc (id := 2) (l := [.str ByteArray.empty, .lst 2 0 (fun _ _ => .con undef)]) (z := (.agg #[.string ByteArray.empty, .slice none 0 0])) rfl (by kernel_rfl) (fun _ _ _ => ⟨_, _, rfl, ⟨rfl, by decide⟩, ⟨_, _, rfl, ⟨none, 0, rfl, Nat.le_refl _, by decide, fun _ => rfl, fun i hi => absurd hi (by omega)⟩, rfl⟩⟩) ⟨rfl, (by repeat first | exact trivial | refine ⟨by decide, by first | rfl | exact trivial | (intro i j; first | rfl | exact getD_no rfl | (dsimp only; split <;> first | rfl | exact getD_no rfl) | exact scl_no (by apply_assumption) _), ?_⟩)⟩ rfl rfl rfl (Nat.le_of_ble_eq_true rfl) ?_
  refine ARun.nil ?_
  refine AW.seq ?_
  refine AW.region ?_
  refine ARun.pure (PureOp.fieldPtr rfl (.tmp rfl) vo_fi_57_0_0) rfl rfl (Nat.le_of_ble_eq_true rfl) ?_
  refine ARun.pure (PureOp.loadPtr rfl (.tmp rfl) vo_pl_9 rfl rfl (Nat.le_of_ble_eq_true rfl) (Nat.le_of_ble_eq_true rfl)) rfl rfl (Nat.le_of_ble_eq_true rfl) ?_
  refine ARun.pure (PureOp.fieldPtr rfl (.tmp rfl) vo_fi_60_0_0) rfl rfl (Nat.le_of_ble_eq_true rfl) ?_
  refine ARun.store rfl (.tmp rfl) (.tmp rfl) trivial rfl (Nat.le_of_ble_eq_true rfl) vo_sz_9_1 rfl rfl ?_
  refine ARun.nil ?_
  refine AW.seq ?_
  refine AW.region ?_
  refine ARun.pure (PureOp.fieldPtr rfl (.tmp rfl) vo_fi_57_1_1) rfl rfl (Nat.le_of_ble_eq_true rfl) ?_
  refine ARun.pure (PureOp.loadPtr rfl (.tmp rfl) vo_pl_55 rfl rfl (Nat.le_of_ble_eq_true rfl) (Nat.le_of_ble_eq_true rfl)) rfl rfl (Nat.le_of_ble_eq_true rfl) ?_
  refine ARun.fresh (FreshOp.callS rfl (v_toSampleS x.samples (Small.mk (by omega))) ⟨⟨_, (.tmp rfl), .lst⟩, trivial⟩ vo_ca_42 rfl) rfl rfl (Nat.le_of_ble_eq_true rfl) ?_
  refine ARun.pure (PureOp.fieldPtr rfl (.tmp rfl) vo_fi_60_1_1) rfl rfl (Nat.le_of_ble_eq_true rfl) ?_
  refine ARun.store rfl (.tmp rfl) (.tmp rfl) trivial rfl (Nat.le_of_ble_eq_true rfl) vo_sz_58_1 rfl rfl ?_
  refine ARun.nil ?_
  refine AW.seq ?_
  refine AW.region ?_
  refine ARun.pure (PureOp.loadPtrAgg rfl (.tmp rfl) vo_ag_60_2 rfl rfl (Nat.le_of_ble_eq_true rfl) (Nat.le_of_ble_eq_true rfl)) rfl rfl (Nat.le_of_ble_eq_true rfl) ?_
  refine ARun.store rfl (.tmp rfl) (.tmp rfl) (SV.cells_of (by exact ⟨trivial, trivial, trivial⟩)) rfl (Nat.le_of_ble_eq_true rfl) vo_sz_60_2 rfl rfl ?_
  refine ARun.nil ?_
  exact AW.ret (show ∃ s, ResL _ _ [.cell 2 60] s ∧ FvS _ s _ from ⟨_, .inl ⟨_, rfl, .cells rfl vo_ag_60_2 rfl rfl (Nat.le_of_ble_eq_true rfl) (Nat.le_of_ble_eq_true rfl)⟩, ⟨.str, .frs, trivial⟩⟩)

theorem v_toRowS (x : List GRow) (hw : Small (wtl wtRow x)) : FnF Tryd.prog 21 [.one (.lst 2 x.length (fun i0 j0 => ([.str ((x.getD i0 (default : GRow)).name), .lst 2 (((x.getD i0 (default : GRow)).samples).length) (fun i1 j1 => ([.int .i64 ((((x.getD i0 (default : GRow)).samples).getD i1 (default : GSample)).at_), .int .i64 ((((x.getD i0 (default : GRow)).samples).getD i1 (default : GSample)).value)] : List AV).getD j1 (.con undef))] : List AV).getD j0 (.con undef)))] (.one (.lst 2 x.length (fun i0 j0 => ([.str ((x.getD i0 (default : GRow)).name), .lst 2 (((x.getD i0 (default : GRow)).samples).length) (fun i1 j1 => ([.int .i64 ((((x.getD i0 (default : GRow)).samples).getD i1 (default : GSample)).at_), .int .i64 ((((x.getD i0 (default : GRow)).samples).getD i1 (default : GSample)).value)] : List AV).getD j1 (.con undef))] : List AV).getD j0 (.con undef)))) := by
  unfold Small at hw
  replace hw : x.length + (x.map wtRow).sum ≤ 1048576 := hw
  have hlen : x.length ≤ 1048576 := by omega
  refine FnF.of_body (fn := Tryd.f21) Tryd.func21 rfl (Nat.le_of_ble_eq_true rfl)  ?_
  intro w0
  show AW _ 23 _ _ _ _
  refine AW.seq ?_
  refine AW.region ?_
  refine ARun.pure (PureOp.assign rfl (.nil 1 (fun _ _ => .con undef))) rfl rfl (Nat.le_of_ble_eq_true rfl) ?_
  refine ARun.nil ?_
  refine AW.seq ?_
  refine AW.region ?_
  refine ARun.pure (PureOp.move rfl (.tmp rfl)) rfl rfl (Nat.le_of_ble_eq_true rfl) ?_
  refine ARun.pure (PureOp.lenLst rfl (.tmp rfl) vo_sl_30) rfl rfl (Nat.le_of_ble_eq_true rfl) ?_
  refine ARun.make (id := 0) (n := x.length) (l := [.str ByteArray.empty, .lst 2 0 (fun _ _ => .con undef)]) (z := (.agg #[.string ByteArray.empty, .slice none 0 0])) (by_ := 40) rfl (by kernel_rfl) (fun _ _ _ => ⟨_, _, rfl, ⟨rfl, by decide⟩, ⟨_, _, rfl, ⟨none, 0, rfl, Nat.le_refl _, by decide, fun _ => rfl, fun i hi => absurd hi (by omega)⟩, rfl⟩⟩) (.tmp rfl) (.tmp rfl) rfl rfl (by omega) (by omega) (by decide) ⟨rfl, (by repeat first | exact trivial | refine ⟨by decide, by first | rfl | exact trivial | (intro i j; first | rfl | exact getD_no rfl | (dsimp only; split <;> first | rfl | exact getD_no rfl) | exact scl_no (by apply_assumption) _), ?_⟩)⟩ rfl rfl rfl (Nat.le_of_ble_eq_true rfl) ?_
  refine ARun.pure (PureOp.assign rfl (.tmp rfl)) rfl rfl (Nat.le_of_ble_eq_true rfl) ?_
  refine ARun.nil ?_
  refine AW.seq ?_
  refine AW.seq ?_
  refine AW.region ?_
  refine ARun.pure (PureOp.assign rfl .int) rfl rfl (Nat.le_of_ble_eq_true rfl) ?_
  refine ARun.nil ?_
  refine AW.block ?_
  refine AW.loop (ι := Nat) (fun k => ⟨[(0, .one (.lst 2 x.length (fun i0 j0 => ([.str ((x.getD i0 (default : GRow)).name), .lst 2 (((x.getD i0 (default : GRow)).samples).length) (fun i1 j1 => ([.int .i64 ((((x.getD i0 (default : GRow)).samples).getD i1 (default : GSample)).at_), .int .i64 ((((x.getD i0 (default : GRow)).samples).getD i1 (default : GSample)).value)] : List AV).getD j1 (.con undef))] : List AV).getD j0 (.con undef)))), (3, .one (.own 0 2 x.length)), (4, .one (.int .i64 (k : Int)))], [(0, .arr 2 x.length (fun a b => if a < k then (fun i0 j0 => ([.str ((x.getD i0 (default : GRow)).name), .frs (.lst 2 (((x.getD i0 (default : GRow)).samples).length) (fun i1 j1 => ([.int .i64 ((((x.getD i0 (default : GRow)).samples).getD i1 (default : GSample)).at_), .int .i64 ((((x.getD i0 (default : GRow)).samples).getD i1 (default : GSample)).value)] : List AV).getD j1 (.con undef)))] : List AV).getD j0 (.con undef)) a b else ([.str ByteArray.empty, .lst 2 0 (fun _ _ => .con undef)] : List AV).getD b (.con undef)))]⟩) (fun k => k ≤ x.length) (fun k => x.length - k) 0 (Nat.zero_le _) ⟨⟨⟨_, rfl, rfl⟩, ⟨_, rfl, rfl⟩, ⟨_, rfl, rfl⟩, trivial⟩, ⟨⟨_, rfl, rfl, Nat.le_refl _, fun a b _ _ => by simp [AObj.f]⟩, trivial⟩⟩ ?_
  intro k hk
  refine AW.seq ?_
  refine AW.seq ?_
  refine AW.region ?_
  refine ARun.pure (PureOp.move rfl (.tmp rfl)) rfl rfl (Nat.le_of_ble_eq_true rfl) ?_
  refine ARun.pure (PureOp.move rfl (.tmp rfl)) rfl rfl (Nat.le_of_ble_eq_true rfl) ?_
  refine ARun.pure (PureOp.lenLst rfl (.tmp rfl) vo_sl_30) rfl rfl (Nat.le_of_ble_eq_true rfl) ?_
  refine ARun.pure (PureOp.intOp rfl (.tmp rfl) (.tmp rfl) rfl) rfl rfl (Nat.le_of_ble_eq_true rfl) ?_
  refine ARun.nil ?_
  refine AW.cond (.tmp rfl) (fun hb1 => ?_) (fun hb1 => ?_)
  · have _u := True.intro
    replace hb1 := of_decide_eq_true hb1
    have hlt : k < x.length := by omega
    have hwk := wt_at (f := wtRow) (default : GRow) hlt
    refine AW.skip ?_
    refine AW.seq ?_
    refine AW.block ?_
    refine AW.region ?_
    refine ARun.pure (PureOp.move rfl (.tmp rfl)) rfl rfl (Nat.le_of_ble_eq_true rfl) ?_
    refine ARun.pure (PureOp.move rfl (.tmp rfl)) rfl rfl (Nat.le_of_ble_eq_true rfl) ?_
    refine ARun.pure (PureOp.move rfl (.tmp rfl)) rfl rfl (Nat.le_of_ble_eq_true rfl) ?_
    refine ARun.pure (PureOp.move rfl (.tmp rfl)) rfl rfl (Nat.le_of_ble_eq_true rfl) ?_
    refine ARun.pure (PureOp.indexLst (i := k) rfl (.tmp rfl) vo_el_30_2 (.tmp rfl) rfl (by omega)) rfl rfl (Nat.le_of_ble_eq_true rfl) ?_
    refine ARun.pure (PureOp.loadRefAgg rfl (.tmp rfl) vo_ag_57_2 (Nat.le_of_ble_eq_true rfl)) rfl rfl (Nat.le_of_ble_eq_true rfl) ?_
    refine ARun.fresh (FreshOp.callS rfl (v_toRow (x.getD k (default : GRow)) (Small.mk (by omega))) ⟨⟨_, (.tmp rfl), ⟨.str, .lst, trivial⟩⟩, trivial⟩ vo_ca_34 rfl) rfl rfl (Nat.le_of_ble_eq_true rfl) ?_
    refine ARun.pure (PureOp.indexOwn (i := k) rfl (.tmp rfl) vo_el_35_2 (.tmp rfl) rfl (by omega)) rfl rfl (Nat.le_of_ble_eq_true rfl) ?_
    refine ARun.storeElem rfl (.tmp rfl) (.tmp rfl) (SV.cells_of (by exact ⟨trivial, trivial, trivial⟩)) rfl (by omega) rfl vo_sz_60_2 rfl rfl ?_
    refine ARun.nil ?_
    refine AW.region ?_
    refine ARun.pure (PureOp.move rfl (.tmp rfl)) rfl rfl (Nat.le_of_ble_eq_true rfl) ?_
    refine ARun.pure (PureOp.add (c := ((k + 1 : Nat) : Int)) rfl (.tmp rfl) .int (by rw [wrap_id (by omega) (by omega)]; omega)) rfl rfl (Nat.le_of_ble_eq_true rfl) ?_
    refine ARun.pure (PureOp.assign rfl (.tmp rfl)) rfl rfl (Nat.le_of_ble_eq_true rfl) ?_
    refine ARun.nil ?_
    exact ⟨k + 1, by omega, by dsimp only; omega, ⟨⟨⟨_, rfl, rfl⟩, ⟨_, rfl, rfl⟩, ⟨_, rfl, rfl⟩, trivial⟩, ⟨⟨_, rfl, rfl, Nat.le_refl _, fun a b _ hb => fill_next (sz := 2) (k := k) (g := fun i0 j0 => ([.str ((x.getD i0 (default : GRow)).name), .frs (.lst 2 (((x.getD i0 (default : GRow)).samples).length) (fun i1 j1 => ([.int .i64 ((((x.getD i0 (default : GRow)).samples).getD i1 (default : GSample)).at_), .int .i64 ((((x.getD i0 (default : GRow)).samples).getD i1 (default : GSample)).value)] : List AV).getD j1 (.con undef)))] : List AV).getD j0 (.con undef)) (z := fun b => ([.str ByteArray.empty, .lst 2 0 (fun _ _ => .con undef)] : List AV).getD b (.con undef)) (c := fun b => ([.str ((x.getD k (default : GRow)).name), .frs (.lst 2 (((x.getD k (default : GRow)).samples).length) (fun i1 j1 => ([.int .i64 ((((x.getD k (default : GRow)).samples).getD i1 (default : GSample)).at_), .int .i64 ((((x.getD k (default : GRow)).samples).getD i1 (default : GSample)).value)] : List AV).getD j1 (.con undef)))] : List AV).getD b (.con undef)) (fun b hb => match b, hb with | 0, _ => rfl | 1, _ => rfl | _ + 2, h => absurd h (by omega)) a b hb⟩, trivial⟩⟩⟩
  · have _u := True.intro
    replace hb1 := of_decide_eq_false hb1
    have hlt : ¬ k < x.length := by omega
    refine AW.exit ?_
    refine AW.seq ?_
    refine AW.region ?_
    refine ARun.pure (PureOp.move rfl (.tmp rfl)) rfl rfl (Nat.le_of_ble_eq_true rfl) ?_
    refine ARun.pure (PureOp.assign rfl (.tmp rfl)) rfl rfl (Nat.le_of_ble_eq_true rfl) ?_
    refine ARun.nil ?_
    exact AW.ret (show ∃ s, ResL _ _ [.tmp 2] s ∧ FvS _ s _ from ⟨_, .inl ⟨_, rfl, .tmp rfl⟩, (.own rfl rfl (Nat.le_refl _) (fun i j hi hj => Fv.ite (show i < k by omega) (match j, hj with | 0, _ => .str | 1, _ => .frs | _ + 2, h => absurd h (by omega))))⟩)

theorem v_toHead (x : GHead) (hw : Small (wtHead x)) : FnF Tryd.prog 11 [.agg [.lst 2 x.rows.length (fun i0 j0 => ([.str ((x.rows.getD i0 (default : GRow)).name), .lst 2 (((x.rows.getD i0 (default : GRow)).samples).length) (fun i1 j1 => ([.int .i64 ((((x.rows.getD i0 (default : GRow)).samples).getD i1 (default : GSample)).at_), .int .i64 ((((x.rows.getD i0 (default : GRow)).samples).getD i1 (default : GSample)).value)] : List AV).getD j1 (.con undef))] : List AV).getD j0 (.con undef)), .int .i64 x.offset]] (.agg [.lst 2 x.rows.length (fun i0 j0 => ([.str ((x.rows.getD i0 (default : GRow)).name), .lst 2 (((x.rows.getD i0 (default : GRow)).samples).length) (fun i1 j1 => ([.int .i64 ((((x.rows.getD i0 (default : GRow)).samples).getD i1 (default : GSample)).at_), .int .i64 ((((x.rows.getD i0 (default : GRow)).samples).getD i1 (default : GSample)).value)] : List AV).getD j1 (.con undef))] : List AV).getD j0 (.con undef)), .int .i64 x.offset]) := by
  unfold Small wtHead at hw
  refine FnF.of_body (fn := Tryd.f11) Tryd.func11 rfl (Nat.le_of_ble_eq_true rfl)  ?_
  intro w0
  show AW _ 12 _ _ _ _
  refine AW.seq ?_
  refine AW.region ?_
  refine ARun.box (id := 0) rfl (.tmp rfl) (SV.cells_of (by exact ⟨trivial, trivial, trivial⟩)) ⟨rfl, (by repeat first | exact trivial | refine ⟨by decide, by first | rfl | exact trivial | (intro i j; first | rfl | exact getD_no rfl | (dsimp only; split <;> first | rfl | exact getD_no rfl) | exact scl_no (by apply_assumption) _), ?_⟩)⟩ rfl rfl rfl (Nat.le_of_ble_eq_true rfl) ?_
  refine ARun.alloc (id := 1) (l := [.lst 2 0 (fun _ _ => .con undef), .int .i64 0]) (z := (.agg #[.slice none 0 0, .int .i64 0])) rfl (by kernel_rfl) (fun _ _ _ => ⟨_, _, rfl, ⟨none, 0, rfl, Nat.le_refl _, by decide, fun _ => rfl, fun i hi => absurd hi (by omega)⟩, ⟨_, _, rfl, rfl, rfl⟩⟩) ⟨rfl, (by repeat first | exact trivial | refine ⟨by decide, by first | rfl | exact trivial | (intro i j; first | rfl | exact getD_no rfl | (dsimp only; split <;> first | rfl | exact getD_no rfl) | exact scl_no (by apply_assumption) _), ?_⟩)⟩ rfl rfl rfl (Nat.le_of_ble_eq_true rfl) ?_
  refine ARun.nil ?_
  refine AW.seq ?_
  refine AW.region ?_
  refine ARun.alloc (id := 2) (l := [.lst 2 0 (fun _ _ => .con undef), .int .i64 0]) (z := (.agg #[.slice none 0 0, .int .i64 0])) rfl (by kernel_rfl) (fun _ _ _ => ⟨_, _, rfl, ⟨none, 0, rfl, Nat.le_refl _, by decide, fun _ => rfl, fun i hi => absurd hi (by omega)⟩, ⟨_, _, rfl, rfl, rfl⟩⟩) ⟨rfl, (by repeat first | exact trivial | refine ⟨by decide, by first | rfl | exact trivial | (intro i j; first | rfl | exact getD_no rfl | (dsimp only; split <;> first | rfl | exact getD_no rfl) | exact scl_no (by apply_assumption) _), ?_⟩)⟩ rfl rfl rfl (Nat.le_of_ble_eq_true rfl) ?_
  refine ARun.nil ?_
  refine AW.seq ?_
  refine AW.region ?_
  refine ARun.pure (PureOp.fieldPtr rfl (.tmp rfl) vo_fi_32_0_0) rfl rfl (Nat.le_of_ble_eq_true rfl) ?_
  refine ARun.pure (PureOp.loadPtr rfl (.tmp rfl) vo_pl_30 rfl rfl (Nat.le_of_ble_eq_true rfl) (Nat.le_of_ble_eq_true rfl)) rfl rfl (Nat.le_of_ble_eq_true rfl) ?_
  refine ARun.fresh (FreshOp.callS rfl (v_toRowS x.rows (Small.mk (by omega))) ⟨⟨_, (.tmp rfl), .lst⟩, trivial⟩ vo_ca_21 rfl) rfl rfl (Nat.le_of_ble_eq_true rfl) ?_
  refine ARun.pure (PureOp.fieldPtr rfl (.tmp rfl) vo_fi_37_0_0) rfl rfl (Nat.le_of_ble_eq_true rfl) ?_
  refine ARun.store rfl (.tmp rfl) (.tmp rfl) trivial rfl (Nat.le_of_ble_eq_true rfl) vo_sz_35_1 rfl rfl ?_
  refine ARun.nil ?_
  refine AW.seq ?_
  refine AW.region ?_
  refine ARun.pure (PureOp.fieldPtr rfl (.tmp rfl) vo_fi_32_1_1) rfl rfl (Nat.le_of_ble_eq_true rfl) ?_
  refine ARun.pure (PureOp.loadPtr rfl (.tmp rfl) vo_pl_3 rfl rfl (Nat.le_of_ble_eq_true rfl) (Nat.le_of_ble_eq_true rfl)) rfl rfl (Nat.le_of_ble_eq_true rfl) ?_
  refine ARun.pure (PureOp.fieldPtr rfl (.tmp rfl) vo_fi_37_1_1) rfl rfl (Nat.le_of_ble_eq_true rfl) ?_
  refine ARun.store rfl (.tmp rfl) (.tmp rfl) trivial rfl (Nat.le_of_ble_eq_true rfl) vo_sz_3_1 rfl rfl ?_
  refine ARun.nil ?_
  refine AW.seq ?_
  refine AW.region ?_
  refine ARun.pure (PureOp.loadPtrAgg rfl (.tmp rfl) vo_ag_37_2 rfl rfl (Nat.le_of_ble_eq_true rfl) (Nat.le_of_ble_eq_true rfl)) rfl rfl (Nat.le_of_ble_eq_true rfl) ?_
  refine ARun.store rfl (.tmp rfl) (.tmp rfl) (SV.cells_of (by exact ⟨trivial, trivial, trivial⟩)) rfl (Nat.le_of_ble_eq_true rfl) vo_sz_37_2 rfl rfl ?_
  refine ARun.nil ?_
  exact AW.ret (show ∃ s, ResL _ _ [.cell 2 37] s ∧ FvS _ s _ from ⟨_, .inl ⟨_, rfl, .cells rfl vo_ag_37_2 rfl rfl (Nat.le_of_ble_eq_true rfl) (Nat.le_of_ble_eq_true rfl)⟩, ⟨.frs, .int, trivial⟩⟩)

end Go.Proofs.YtmfkmifkkplidaaDoor


/-
  How a law's statement follows from its walk: the arguments are opened to Lean values ('Opens'), and behind a call that leaves old memory alone each argument reads as before ('law_post').
-/
namespace Go.Proofs.YtmfkmifkkplidaaDoor
open Go.ChangeShapes Go.WideShapes Go.ChangeAt Go.RowKit Go.Deep
set_option linter.unusedVariables false

theorem own : ownKnob Tryd.prog.godebug = none := by kernel_rfl
theorem laidOut : laidOutB Tryd.prog = true := by kernel_rfl

section
variable {H : Type} {enc : TypeId × Value → H} {P : Program}
theorem trodAll_stays {W W' : World} {sp : Nat → Bool} (hl : laidOutB P = true) : ∀ {ts : List TypeId} {vs : List Value} {ds : List (DataW H)} {ps : List MemPlace}, (ts.all fun t => P.readableRec t && decide (t < P.types.size)) = true →
    DataW.TrodAll enc P W 0 (fun _ => true) true ts vs ds ps → (∀ p ∈ ps, W.sameAt W' p) → (∀ p ∈ ps, sp p.block = true) → DataW.TrodAll enc P W' 0 sp true ts vs ds ps := by
  intro ts
  induction ts with
  | nil =>
    intro vs ds ps _ h _ _
    cases vs <;> cases ds <;> first | exact h | exact h.elim
  | cons t ts ih =>
    intro vs ds ps ht h hs hsp
    cases vs with
    | nil => cases ds <;> exact h.elim
    | cons v vs =>
      cases ds with
      | nil => exact h.elim
      | cons d ds =>
        obtain ⟨p, q, h1, h2, rfl⟩ := h
        simp only [List.all_cons, Bool.and_eq_true, decide_eq_true_eq] at ht
        exact ⟨p, q, WideElems.Trod_stays hl ht.1.1 ht.1.2 h1 (fun x hx => hs x (List.mem_append_left _ hx)) (fun x hx => hsp x (List.mem_append_left _ hx)),
          ih ht.2 h2 (fun x hx => hs x (List.mem_append_right _ hx)) (fun x hx => hsp x (List.mem_append_right _ hx)), rfl⟩

/-- The row's last step: the call returned true and left old memory alone. -/
theorem law_post {f : Func} {s : ChangeSpec} {W W' : World} {args : Array Value} {ds gs : List (DataW H)} {before : List MemPlace} {tb : TypeId}
    (hW : DataW.Whole enc P f.params.toList s.vars false W args.toList ds gs before) (hvars : s.vars = []) (hl : laidOutB P = true) (hts : (f.params.toList.all fun t => P.readableRec t && decide (t < P.types.size)) = true)
    (hb : Below W.heap.size W W') (hfn : s.fn H (ds ++ gs) = { results := [.lit (.bool true)], args := ds }) (hrt : f.resultTypes = #[tb]) (hu : P.underlying tb = some .bool) :
    s.post enc P f false true false false W args (.bool true) W' := by
  have hlt : ∀ p ∈ before, p.block < W.heap.size := fun p hp => hW.lt p hp
  have hW' := hW
  obtain ⟨p, q, hA, hV, rfl, hz, hn⟩ := hW
  rw [hvars] at hV
  have hV' := hV
  obtain ⟨rfl, rfl⟩ := trodVars_none hV
  have hargs : ∀ sp : Nat → Bool, (∀ x ∈ p ++ [], sp x.block = true) → DataW.TrodAll enc P W' 0 sp true f.params.toList args.toList (s.fn H (ds ++ [])).args p := fun sp hsp => by
    rw [hfn]
    exact trodAll_stays hl hts hA (fun x hx => hb.same (hlt x (by simpa using hx))) (fun x hx => hsp x (by simpa using hx))
  have hvs : ∀ sp : Nat → Bool, DataW.TrodVars enc P W' sp s.vars (s.fn H (ds ++ [])).vars [] := fun sp => by
    rw [hvars, hfn]
    rfl
  have hres : ∀ (b : Nat) (sp : Nat → Bool) (hd : Bool), DataW.TrodAll enc P W' b sp hd f.resultTypes.toList ((Value.bool true).resultList f.resultTypes.size) (s.fn H (ds ++ [])).results [] := fun b sp hd => by
    rw [hfn, hrt]
    exact trodAll_cons_mk (shut_bool hu _) trodAll_mk0
  have hold : ∀ x ∈ p ++ [], (fun b => decide (b < W.heap.size)) x.block = true := fun x hx => by simpa using hlt x hx
  refine ⟨ds, [], p ++ [], [], p, [], hW', hres _ _ _, hargs _ hold, hvs _, World.keptBut_mono (fun x hx => ⟨hx, ?_⟩) (hb.frame (· ∈ p ++ [])), fun h => by cases h⟩
  exact Or.inr (by simpa using hx)

/-- A value of type t reads as an α. -/
def Opens (P : Program) (t : TypeId) (α : Type) [Rep α] : Prop :=
  ∀ (H : Type) (enc : TypeId × Value → H) (w : World) (fuel : Nat) (cs : List Value) (x : DataW H × List MemPlace), DataW.trod enc P w 0 (fun _ => true) true fuel t cs = some x → ∃ a : α, Rep.rep w (· < w.heap.size) a cs

theorem i64_of_wf {n : Int} (h : (Lit.int .i64 n).wf = true) : I64 n := by
  simpa [Lit.wf, IntKind.min, IntKind.max, IntKind.signed, IntKind.bits, I64] using h
theorem Opens.int {t : TypeId} (ht : P.underlying t = some (.int .i64)) : Opens P t Int := fun _ _ _ _ _ _ h => by
  obtain ⟨n, rfl, _, hw⟩ := DataW.trod_int ht h
  exact ⟨n, rfl, i64_of_wf hw⟩
theorem Opens.bool {t : TypeId} (ht : P.underlying t = some .bool) : Opens P t Bool := fun _ _ _ _ _ _ h => by
  obtain ⟨n, rfl, _⟩ := DataW.trod_bool ht h
  exact ⟨n, rfl, trivial⟩
theorem Opens.string {t : TypeId} (ht : P.underlying t = some .string) : Opens P t ByteArray := fun _ _ _ _ _ _ h => by
  obtain ⟨s, rfl, _, hs⟩ := DataW.trod_string ht h
  exact ⟨s, rfl, hs⟩
theorem list_of_fun {α : Type} (f : Nat → Option α) (len : Nat) (hf : ∀ i, i < len → ∃ y, f i = some y) : ∃ l : List α, l.length = len ∧ ∀ i (h : i < l.length), f i = some l[i] := by
  induction len with
  | zero => exact ⟨[], rfl, fun i h => absurd h (by simp)⟩
  | succ k ih =>
    obtain ⟨l, hl, hl2⟩ := ih (fun i hi => hf i (by omega))
    obtain ⟨y, hy⟩ := hf k (by omega)
    refine ⟨l ++ [y], by simp [hl], fun i h => ?_⟩
    by_cases hik : i < l.length
    · rw [List.getElem_append_left hik]; exact hl2 i hik
    · have : i = l.length := by simp at h; omega
      subst this
      rw [List.getElem_append_right (Nat.le_refl _)]
      simp [hl, hy]
theorem Opens.slice {α : Type} [Rep α] {t e : TypeId} (ht : P.underlying t = some (.slice e)) (hC : P.cellsOf e = Rep.size α) (hp : 0 < Rep.size α) (he : Opens P e α) : Opens P t (List α) := fun H enc w fuel cs x h => by
  rcases open_slice ht h with ⟨rfl, _⟩ | ⟨a, len, cap, m, n, D, Pl, rfl, _, hl, hm, hmm, _, hi⟩
  · exact ⟨[], none, 0, rfl, Nat.le_refl _, by simp [maxLen], fun _ => rfl, fun i hi => absurd hi (by simp)⟩
  · have hlm : len ≤ m := by rw [hmm]; simpa using hl
    have hx : ∀ i, i < len → ∃ (y : α) (xs : List Value), Rep.rep w (· < w.heap.size) y xs ∧ xs.length = Rep.size α ∧ ∀ j, j < Rep.size α → w.cell? (a.add (i * Rep.size α + j)) = xs[j]? := fun i hil => by
      obtain ⟨cs', hc, ht'⟩ := hi i (by omega)
      rw [hC] at hc
      obtain ⟨_, hcl, hat⟩ := World.cells?_some hc
      obtain ⟨y, hy⟩ := he H enc w n cs' _ ht'
      exact ⟨y, cs', hy, hcl, fun j hj => by rw [← hat j hj, add_add]⟩
    have hch : ∃ f : Nat → Option α, ∀ i, i < len → ∃ (y : α) (xs : List Value), f i = some y ∧ Rep.rep w (· < w.heap.size) y xs ∧ xs.length = Rep.size α ∧ ∀ j, j < Rep.size α → w.cell? (a.add (i * Rep.size α + j)) = xs[j]? := by
      classical
      refine ⟨fun i => if hil : i < len then some (hx i hil).choose else none, fun i hil => ⟨(hx i hil).choose, (hx i hil).choose_spec.choose, by simp [hil], (hx i hil).choose_spec.choose_spec⟩⟩
    obtain ⟨f, hf⟩ := hch
    have hlist := list_of_fun f len fun i hil => let ⟨y, _, hy, _⟩ := hf i hil; ⟨y, hy⟩
    obtain ⟨l, hl1, hl2⟩ := hlist
    subst hl1
    refine ⟨l, some a, cap, rfl, hl, hm, (fun e => by cases e), fun i hil => ?_⟩
    obtain ⟨y, xs, hy, hr, hxl, hc⟩ := hf i hil
    rw [hl2 i hil] at hy
    obtain rfl := Option.some.inj hy
    have hspot : a.spot = none := by
      obtain ⟨y, xs, _, _, hxl, hc⟩ := hf 0 (by omega)
      have h0 := hc 0 hp
      rw [List.getElem?_eq_getElem (by omega)] at h0
      simp only [Nat.zero_mul, Nat.add_zero] at h0
      have e : a.add 0 = a := rfl
      rw [e] at h0
      unfold World.cell? at h0
      split at h0
      · split at h0
        · cases h0
        · rename_i hs; simpa using hs
      · cases h0
    obtain ⟨b, off, sp⟩ := a
    obtain rfl : sp = none := hspot
    have h0 := hc 0 hp
    rw [List.getElem?_eq_getElem (by omega), Addr.add_lit] at h0
    refine ⟨b, off, xs, rfl, World.block_lt_of_cell? w _ h0, fun j u hu => ?_, hr⟩
    have hj : j < Rep.size α := by rw [← hxl]; exact (List.getElem?_eq_some_iff.1 hu).1
    rw [← hu, ← hc j hj, Addr.add_lit]

/-- An argument that is a slice. -/
theorem Opens.arg {α : Type} [Rep α] {t : TypeId} (h : Opens P t (List α)) {W : World} {v : Value} {d : DataW H} {p : List MemPlace} (hv : ∃ a n c, v = .slice a n c) (ht : DataW.Trod enc P W 0 (fun _ => true) true t v d p) :
    ∃ (l : List α) (A : Option Addr) (n c : Nat), v = .slice A n c ∧ RepL W (· < W.heap.size) l A n c := by
  obtain ⟨fuel, hf⟩ := ht
  obtain ⟨a, n, c, rfl⟩ := hv
  obtain ⟨l, hl⟩ := h H enc W fuel _ _ hf
  have hl' := hl
  obtain ⟨A, c', e, h1, h2, h4, h3⟩ := hl'
  simp only [Value.cells, List.cons.injEq, Value.slice.injEq, and_true] at e
  obtain ⟨rfl, rfl, rfl⟩ := e
  exact ⟨l, a, _, c, rfl, rfl, hl⟩
end
end Go.Proofs.YtmfkmifkkplidaaDoor


/-
  How the arguments of a law are opened to data of the calculus.
-/
namespace Go.Proofs.YtmfkmifkkplidaaDoor
open Go.ChangeShapes Go.WideShapes Go.ChangeAt Go.RowKit Go.BigFrame Go.Deep
set_option linter.unusedVariables false

set_option linter.unusedSimpArgs false
section
variable {P : Program}
/-- Cells of type t read as an α. -/
def OpensC (P : Program) (t : TypeId) {α : Type} (enc : α → List AV) : Prop :=
  ∀ (H : Type) (eh : TypeId × Value → H) (w : World) (fuel : Nat) (cs : List Value) (x : DataW H × List MemPlace), DataW.trod eh P w 0 (fun _ => true) true fuel t cs = some x → ∃ a : α, DL w (· < w.heap.size) (enc a) cs
theorem OpensC.int {t : TypeId} (ht : P.underlying t = some (.int .i64)) : OpensC P t (fun n : Int => [.int .i64 n]) := fun _ _ _ _ _ _ h => by
  obtain ⟨n, rfl, _, hw⟩ := DataW.trod_int ht h
  exact ⟨n, _, _, rfl, rfl, rfl⟩
theorem OpensC.bool {t : TypeId} (ht : P.underlying t = some .bool) : OpensC P t (fun b : Bool => [.bool b]) := fun _ _ _ _ _ _ h => by
  obtain ⟨n, rfl, _⟩ := DataW.trod_bool ht h
  exact ⟨n, _, _, rfl, rfl, rfl⟩
theorem OpensC.string {t : TypeId} (ht : P.underlying t = some .string) : OpensC P t (fun s : ByteArray => [.str s]) := fun _ _ _ _ _ _ h => by
  obtain ⟨s, rfl, _, hs⟩ := DataW.trod_string ht h
  exact ⟨s, _, _, rfl, ⟨rfl, hs⟩, rfl⟩
theorem DL.len {w : World} {S : Nat → Prop} : ∀ {l : List AV} {us : List Value}, DL w S l us → us.length = l.length
  | [], us, h => by rw [show us = [] from h]; rfl
  | _ :: _, _, ⟨_, _, e, _, h2⟩ => by rw [e]; simp [DL.len h2]
theorem DL.get {w : World} {S : Nat → Prop} : ∀ {l : List AV} {us : List Value}, DL w S l us → ∀ {j : Nat} {x : AV}, l[j]? = some x → ∃ u, us[j]? = some u ∧ D w S x u
  | [], _, _, j, x, hx => by simp at hx
  | y :: l, _, ⟨u, us, e, h1, h2⟩, j, x, hx => by
    subst e
    cases j with
    | zero => simp at hx; subst hx; exact ⟨u, rfl, h1⟩
    | succ j => simp at hx ⊢; exact DL.get h2 hx
theorem DL.append {w : World} {S : Nat → Prop} : ∀ {l m : List AV} {us vs : List Value}, DL w S l us → DL w S m vs → DL w S (l ++ m) (us ++ vs)
  | [], _, us, _, h, k => by rw [show us = [] from h]; exact k
  | _ :: _, _, _, _, ⟨u, us, e, h1, h2⟩, k => ⟨u, _, by rw [e]; rfl, h1, DL.append h2 k⟩
theorem DL.part {w : World} {S : Nat → Prop} {l m : List AV} {cs : List Value} {o s : Nat} (h : DL w S l ((cs.drop o).take s)) (k : DL w S m (cs.drop (o + s))) : DL w S (l ++ m) (cs.drop o) := by
  have := DL.append h k
  rwa [← List.drop_drop, List.take_append_drop] at this
theorem OpensC.slice {α : Type} {t e : TypeId} {sz : Nat} {en : α → List AV} {f : List α → Nat → Nat → AV} (d : α) (ht : P.underlying t = some (.slice e)) (hC : P.cellsOf e = sz) (hp : 0 < sz) (he : OpensC P e en) (hlen : ∀ a, (en a).length = sz)
    (hf : ∀ l i j, i < l.length → j < sz → f l i j = (en (l.getD i d)).getD j (.con undef)) : OpensC P t (fun l : List α => [.lst sz l.length (f l)]) := fun H eh w fuel cs x h => by
  rcases open_slice ht h with ⟨rfl, _⟩ | ⟨a, len, cap, m, n, D, Pl, rfl, _, hl, hm, hmm, _, hi⟩
  · exact ⟨[], _, _, rfl, ⟨none, 0, rfl, Nat.le_refl _, by simp [maxLen], fun _ => rfl, fun i hi => absurd hi (by simp)⟩, rfl⟩
  · have hlm : len ≤ m := by rw [hmm]; simpa using hl
    have hx : ∀ i, i < len → ∃ (y : α) (xs : List Value), DL w (· < w.heap.size) (en y) xs ∧ ∀ j, j < sz → w.cell? (a.add (i * sz + j)) = xs[j]? := fun i hil => by
      obtain ⟨cs', hc, ht'⟩ := hi i (by omega)
      rw [hC] at hc
      obtain ⟨_, hcl, hat⟩ := World.cells?_some hc
      obtain ⟨y, hy⟩ := he H eh w n cs' _ ht'
      exact ⟨y, cs', hy, fun j hj => by rw [← hat j hj, add_add]⟩
    have hch : ∃ g : Nat → Option α, ∀ i, i < len → ∃ (y : α) (xs : List Value), g i = some y ∧ DL w (· < w.heap.size) (en y) xs ∧ ∀ j, j < sz → w.cell? (a.add (i * sz + j)) = xs[j]? := by
      classical
      refine ⟨fun i => if hil : i < len then some (hx i hil).choose else none, fun i hil => ⟨(hx i hil).choose, (hx i hil).choose_spec.choose, by simp [hil], (hx i hil).choose_spec.choose_spec⟩⟩
    obtain ⟨g, hg⟩ := hch
    obtain ⟨l, hl1, hl2⟩ := list_of_fun g len fun i hil => let ⟨y, _, hy, _⟩ := hg i hil; ⟨y, hy⟩
    subst hl1
    have hspot : 0 < l.length → a.spot = none := fun h0l => by
      obtain ⟨y, xs, _, hr, hc⟩ := hg 0 h0l
      have h0 := hc 0 hp
      have hxl : xs.length = sz := by rw [hr.len, hlen]
      rw [List.getElem?_eq_getElem (by omega)] at h0
      simp only [Nat.zero_mul, Nat.add_zero] at h0
      have e : a.add 0 = a := rfl
      rw [e] at h0
      unfold World.cell? at h0
      split at h0
      · split at h0
        · cases h0
        · rename_i hs; simpa using hs
      · cases h0
    refine ⟨l, _, _, rfl, ⟨some a, cap, rfl, hl, hm, (fun e => by cases e), fun i hil => ?_⟩, rfl⟩
    obtain ⟨y, xs, hy, hr, hc⟩ := hg i hil
    have hsp := hspot (by omega)
    obtain ⟨b, off, sp⟩ := a
    obtain rfl : sp = none := hsp
    rw [hl2 i hil] at hy
    obtain rfl := Option.some.inj hy
    have hxl : xs.length = sz := by rw [hr.len, hlen]
    have h0 := hc 0 hp
    rw [List.getElem?_eq_getElem (by omega), Addr.add_lit] at h0
    refine ⟨b, off, rfl, World.block_lt_of_cell? w _ h0, fun j hj => ?_⟩
    have hget : l.getD i d = l[i] := by rw [List.getD_eq_getElem?_getD, List.getElem?_eq_getElem hil]; rfl
    have hjl : j < (en l[i]).length := by rw [hlen]; exact hj
    obtain ⟨u, hu, hd⟩ := hr.get (List.getElem?_eq_getElem hjl)
    refine ⟨u, ?_, ?_⟩
    · have := hc j hj
      rw [Addr.add_lit, hu] at this
      exact this
    · rw [hf l i j hil hj, hget, List.getD_eq_getElem?_getD, List.getElem?_eq_getElem hjl]
      exact hd
/-- An argument. -/
theorem OpensC.arg {H : Type} {eh : TypeId × Value → H} {t : TypeId} {α : Type} {en : α → List AV} (h : OpensC P t en) {W : World} {v : Value} {d : DataW H} {p : List MemPlace} (ht : DataW.Trod eh P W 0 (fun _ => true) true t v d p) : ∃ a, DL W (· < W.heap.size) (en a) v.cells.toList := by
  obtain ⟨fuel, hf⟩ := ht
  exact h H eh W fuel _ _ hf
theorem DS.agg_of {w : World} {S : Nat → Prop} {l : List AV} {v : Value} (hv : ∃ cs, v = .agg cs) (h : DL w S l v.cells.toList) : DS w S (.agg l) v := by
  obtain ⟨cs, rfl⟩ := hv
  exact ⟨cs, rfl, h⟩
end
end Go.Proofs.YtmfkmifkkplidaaDoor

