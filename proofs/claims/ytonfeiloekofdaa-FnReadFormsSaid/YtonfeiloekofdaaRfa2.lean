/-
  Part 2 of the proof: the texts of a seat's own library, joined.
-/
import Derived.Deep.AppendSrc
import Derived.Laws.AppendOwn
import Derived.Lib.SliceRun
import Derived.Great.BuildSlice
import Derived.Lib.Bytealg
import Derived.Deep.Fields
import Derived.Laws.BitsLemmas
import Derived.Laws.CopyOwn
import Derived.Lib.Overlaps
import Derived.Lib.AppendZerosOnto
import Derived.Test.YtonfeiloekofdaaRfa1
namespace Go.Proofs.Ytonfeiloekofdaa
open Go.ChangeShapes Go.WideShapes Go.ChangeAt Go.RowKit Go.BigFrame Go.Deep
set_option linter.unusedVariables false
set_option linter.unusedSimpArgs false
section
variable {P : Program} {N : Nat} {w0 : Start} {σ : Sig} {ops : Array Oper} {rest : List Oper} {o : Oper} {Q : Sig → Prop}
theorem OpStepC.make {t id n by_ : Nat} {m c : Int} {k k' : IntKind} {x y : Operand} {z : Value} {l : List AV} (ho : o.op = .makeSlice t x y) (hz : elemZ P t = some (some z, l.length, by_)) (hl : ∀ ρ w S, RL ρ w S l z.cells.toList)
    (hx : Kn σ x (.one (.int k m))) (hy : Kn σ y (.one (.int k' c))) (hm : m = (n : Int)) (hc : c = (n : Int)) (hn : by_ * n ≤ 281474976710656) (h63 : n ≤ 9223372036854775807) (hsz : 0 < l.length)
    (hf : Fr id σ) (hno : l.all AV.scl = true) (hg : o.guard = none) : OpStepC P ops o σ (.one (.own id l.length n)) (some (id, .arr l.length n fun _ j => l.getD j (.con undef))) := by
  subst hm hc
  constructor
  intro N w0 ρ S a w K Q' hs hK
  rw [if_pos (by simp [Region.wanted, hg])]
  obtain ⟨e, i, hu, hi, hz0, hz1, hz2⟩ := elemZ_spec hz
  have hzl := hl ρ w S
  have hzlen : z.cells.size = l.length := by have := hzl.len; simpa using this
  have hb : Below w.heap.size w (w.alloc (.cells (madeCells z.cells (n * i.size)) e)) := (Below.refl _ _).alloc (Nat.le_refl _) _
  obtain ⟨ρ', e1, e2, e3, hs'⟩ := hs.newA hf (o := .arr l.length n fun _ j => l.getD j (.con undef)) (cs := madeCells z.cells (n * i.size)) (e := e) (cap := n) rfl (by rw [size_madeCells, hz1]; rfl) (Nat.le_refl _) (by unfold maxLen; omega)
    (fun i' j hi' hj => by
      have hj' : j < l.length := hj
      have hi'' : i' < n := hi'
      obtain ⟨u, hu', hr⟩ := hzl.getD hj'
      refine ⟨u, ?_, hr⟩
      show (madeCells z.cells (n * i.size))[i' * l.length + j]? = some u
      have hlt : i' * l.length + j < n * i.size := by
        rw [hz1]
        exact cell_lt hi'' hj'
      have hmod : (i' * l.length + j) % z.cells.size = j := by rw [hzlen, Nat.mul_comm, Nat.mul_add_mod, Nat.mod_eq_of_lt hj']
      have hjz : j < z.cells.size := by rw [hzlen]; exact hj'
      have : z.cells[j]? = some u := by simpa using hu'
      rw [Array.getElem?_eq_getElem hjz] at this
      simp only [madeCells, Array.getElem?_map, Array.getElem?_range, hlt, if_true, Option.map_some, hmod]
      rw [show z.cells[j]! = z.cells[j] from getElem!_pos z.cells j hjz]
      exact this)
    (fun i' j => by
      show (l.getD j (.con undef)).no id = true
      rw [List.getD_eq_getElem?_getD]
      cases hl : l[j]? with
      | none => rfl
      | some x => exact scl_no (List.all_eq_true.1 hno x (List.mem_of_getElem? hl)) id)
  have h1 : a.eval x = .int k (n : Int) := hx.sound hs
  have h2 : a.eval y = .int k' (n : Int) := hy.sound hs
  have hmk := run_make_rowN (P := P) t e i z hu hi hz0 k k' n n (Nat.le_refl _) (by rw [hz2]; exact hn) h63 w
  have hrun : (execOp a.eval o).run P w = .ok (.value (.slice (some ⟨w.heap.size, 0, none⟩) n n)) (w.alloc (.cells (madeCells z.cells (n * i.size)) e)) := by
    generalize a.eval = ev at h1 h2
    simp only [execOp, ho, h1, h2, Sem.run_bind, hmk]
    simp [go_sem]
  unfold Oper.wp
  rw [hrun]
  have hone : ∀ {q : Nat × AObj} {o}, some (id, o) = some q → q.1 = id := fun h => by cases h; rfl
  refine hK _ ρ' S _ (hs.mem.same hb) hb (fun b h => .inl h) e2 (fun k hk => e3 k fun e => hk _ rfl e.symm) (fun p hp _ => ?_) (fun p n' X i' b hp hX => ?_) hs' ?_
  · rw [hone hp, e1]; exact Nat.le_refl _
  · cases hp; cases hX
  · show ∃ A, Value.slice _ _ _ = .slice A n (ρ' id).2 ∧ n ≤ (ρ' id).2 ∧ (ρ' id).2 ≤ maxLen ∧ (A = some ⟨(ρ' id).1, 0, none⟩ ∨ (A = none ∧ (ρ' id).2 = 0))
    rw [e1]
    exact ⟨_, rfl, Nat.le_refl _, by unfold maxLen; omega, .inl rfl⟩
theorem OpStepC.alloc {t id : Nat} {z : Value} {l : List AV} (ho : o.op = .alloc t) (hz : (P.info? t).bind (·.zero) = some z) (hl : ∀ ρ w S, RL ρ w S l z.cells.toList) (hf : Fr id σ) (hn : l.all AV.scl = true) (hg : o.guard = none) : OpStepC P ops o σ (.one (.ptr id l.length 0 0)) (some (id, .cells l)) := by
  constructor
  intro N w0 ρ S a w K Q' hs hK
  rw [if_pos (by simp [Region.wanted, hg])]
  have hzl := hl ρ w S
  have hlen : z.cells.size = l.length := by have := hzl.len; simpa using this
  have hb : Below w.heap.size w (w.alloc (.cells z.cells t)) := (Below.refl _ _).alloc (Nat.le_refl _) _
  obtain ⟨ρ', e1, e2, e3, hs'⟩ := hs.newA hf (o := .cells l) (cs := z.cells) (e := t) (cap := 1) rfl (by simpa [AObj.sz] using hlen) (Nat.le_refl _) (by unfold maxLen; omega) (fun i j hi hj => by
    have hi0 : i = 0 := by have : i < 1 := hi; omega
    subst hi0
    have hj' : j < l.length := hj
    obtain ⟨u, hu, hr⟩ := hzl.get (j := j) (x := l[j]) (List.getElem?_eq_getElem hj')
    refine ⟨u, by simpa using hu, ?_⟩
    show R ρ w S (l.getD j (.con undef)) u
    rw [List.getD_eq_getElem?_getD, List.getElem?_eq_getElem hj']
    exact hr) (by
    show l.all (AV.no id) = true
    rw [List.all_eq_true] at hn ⊢
    exact fun x hx => scl_no (hn x hx) id)
  have hrun : (execOp a.eval o).run P w = .ok (.value (.pointer (some ⟨w.heap.size, 0, none⟩))) (w.alloc (.cells z.cells t)) := by
    generalize a.eval = ev
    cases hi : P.info? t with
    | none => rw [hi] at hz; cases hz
    | some inf =>
      rw [hi] at hz
      have hz' : inf.zero = some z := hz
      simp [execOp, ho, Instr.alloc, newVar, newRow, newObj, go_sem, zeroValue, typeInfo, hi, hz']
      rfl
  unfold Oper.wp
  rw [hrun]
  have hone : ∀ {q : Nat × AObj} {o}, some (id, o) = some q → q.1 = id := fun h => by cases h; rfl
  refine hK _ ρ' S _ (hs.mem.same hb) hb (fun b h => .inl h) e2 (fun k hk => e3 k fun e => hk _ rfl e.symm) (fun p hp _ => ?_) (fun p n' X i' b hp hX => ?_) hs' ?_
  · rw [hone hp, e1]; exact Nat.le_refl _
  · cases hp; cases hX
  · show Value.pointer _ = .pointer (some ⟨(ρ' id).1, 0 * _ + 0, none⟩)
    rw [e1]; simp
def placesOf (P : Program) (t : TypeId) : Option (List (Nat × Nat)) :=
  match P.underlying t with
  | some (.struct fs) => fs.toList.mapM fun f => (P.info? f.type).map fun i => (f.offset, i.size)
  | _ => none
theorem RL.set {ρ : Rho} {w : World} {S : Nat → Prop} : ∀ {l : List AV} {us : List Value} {j : Nat} {x : AV} {u : Value}, RL ρ w S l us → R ρ w S x u → RL ρ w S (l.set j x) (us.set j u)
  | [], _, _, _, _, h, _ => by rw [show _ = [] from h]; rfl
  | y :: l, _, 0, _, _, ⟨v, vs, e, h1, h2⟩, hx => by subst e; exact ⟨_, _, rfl, hx, h2⟩
  | y :: l, _, j + 1, _, _, ⟨v, vs, e, h1, h2⟩, hx => by subst e; exact ⟨_, _, rfl, h1, RL.set h2 hx⟩
def setP (pl : List (Nat × Nat)) : List AV → List (Nat × Operand) → List AV → List AV
  | l, (i, _) :: xs, y :: ys => setP pl (l.set ((pl.getD i (0, 0)).1) y) xs ys
  | l, _, _ => l
def KnP (σ : Sig) (pl : List (Nat × Nat)) (n : Nat) : List (Nat × Operand) → List AV → Prop
  | [], [] => True
  | (i, x) :: xs, y :: ys => Kn σ x (.one y) ∧ y.Cell ∧ (match pl[i]? with | some (off, 1) => Nat.blt off n | _ => false) = true ∧ KnP σ pl n xs ys
  | _, _ => False
theorem mapM_opt_run {w : World} : ∀ {fs : List Field} {ps : List (Nat × Nat)}, (fs.mapM fun f => (P.info? f.type).map fun i => (f.offset, i.size)) = some ps → (fs.mapM (fun f => do pure (f.offset, ← sizeOf f.type) : Field → Sem (Nat × Nat))).run P w = .ok ps w
  | [], ps, h => by simp at h; subst h; simp [go_sem]
  | f :: fs, ps, h => by
    simp only [List.mapM_cons, Option.bind_eq_bind, Option.bind_eq_some_iff, Option.pure_def, Option.some.injEq] at h
    obtain ⟨p, hp, qs, hq, rfl⟩ := h
    obtain ⟨i, hi, rfl⟩ := Option.map_eq_some_iff.1 hp
    simp only [List.mapM_cons, Sem.run_bind, run_sizeOf' hi, Result.andThen_ok, Sem.run_pure, mapM_opt_run hq]
theorem fill_run {N : Nat} {w0 : Start} {ρ : Rho} {S : Nat → Prop} {a : Act} {w : World} (hs : St N w0 ρ S σ a w) {pl : List (Nat × Nat)} {n : Nat} : ∀ {xs : List (Nat × Operand)} {ys l : List AV} {cells : Array Value}, KnP σ pl n xs ys → RL ρ w S l cells.toList → cells.size = n →
    ∃ cells', Instr.fill (pl.toArray[·]?) cells (xs.map fun p => (p.1, a.eval p.2)) = some cells' ∧ RL ρ w S (setP pl l xs ys) cells'.toList
  | [], [], l, cells, _, h, _ => ⟨cells, rfl, h⟩
  | (i, x) :: xs, y :: ys, l, cells, ⟨h1, h2, h3, h4⟩, h, hn => by
    have hr : R ρ w S y (a.eval x) := h1.sound hs
    obtain ⟨c1, _, _⟩ := h2.cells hr
    cases hp : pl[i]? with
    | none => rw [hp] at h3; cases h3
    | some p =>
      obtain ⟨off, s⟩ := p
      rw [hp] at h3
      have hs1 : s = 1 ∧ off < n := by
        match s, h3 with
        | 1, h3 => exact ⟨rfl, by simpa [Nat.blt_eq] using h3⟩
        | 0, h3 => cases h3
        | _ + 2, h3 => cases h3
      obtain ⟨rfl, hoff⟩ := hs1
      have hg : pl.getD i (0, 0) = (off, 1) := by rw [List.getD_eq_getElem?_getD, hp]; rfl
      obtain ⟨cells', k1, k2⟩ := fill_run hs (cells := cells.setIfInBounds off (a.eval x)) (l := l.set off y) h4 (by rw [Array.toList_setIfInBounds]; exact RL.set h hr) (by rw [Array.size_setIfInBounds]; exact hn)
      refine ⟨cells', ?_, ?_⟩
      · rw [List.map_cons, Instr.fill]
        simp only [List.getElem?_toArray, hp, c1]
        rw [if_neg (by simp; omega)]
        simpa using k1
      · rw [setP, hg]; exact k2
  | [], _ :: _, _, _, h, _, _ => h.elim
  | _ :: _, [], _, _, h, _, _ => h.elim
theorem PureOp.build {t : TypeId} {xs : List (Nat × Operand)} {ys l l' : List AV} {pl : List (Nat × Nat)} {z : Value} (ho : o.op = .build t xs.toArray) (hpl : placesOf P t = some pl) (hz : (P.info? t).bind (·.zero) = some z) (hl : ∀ ρ w S, RL ρ w S l z.cells.toList) (hk : KnP σ pl l.length xs ys) (hl' : setP pl l xs ys = l') : PureOp P o σ (.agg l') := by
  subst hl'
  refine PureOp.val fun N w0 ρ S a w hs => ?_
  have hzl := hl ρ w S
  have hzlen : z.cells.size = l.length := by have := hzl.len; simpa using this
  obtain ⟨cells', k1, k2⟩ := fill_run hs hk hzl hzlen
  refine ⟨.agg cells', ⟨cells', rfl, k2⟩, fun w' _ => ?_⟩
  unfold placesOf at hpl
  split at hpl
  · rename_i fs hu
    have hm := mapM_opt_run (P := P) (w := w') hpl
    cases hi : P.info? t with
    | none => rw [hi] at hz; cases hz
    | some inf =>
      rw [hi] at hz
      have hz' : inf.zero = some z := hz
      obtain ⟨fl⟩ := fs
      generalize a.eval = ev at k1
      have hmA : (fl.toArray.mapM (fun f => do pure (f.offset, ← sizeOf f.type) : Field → Sem (Nat × Nat))).run P w' = .ok pl.toArray w' := by
        rw [List.mapM_toArray, map_eq_pure_bind, Sem.run_bind, hm]; rfl
      have hzv : (zeroValue t).run P w' = .ok z w' := by simp [zeroValue, typeInfo, hi, hz', go_sem]
      have hu' : P.underlying t = some (.struct fl.toArray) := hu
      simp only [execOp, ho, Instr.build, Sem.run_bind, hzv, Result.andThen_ok, run_underlying hu', hmA, List.map_toArray, k1]
      simp [go_sem]
  · cases hpl
theorem ARun.nilEq {t t' : TypeId} {x : Operand} {d sz n : Nat} {f : Nat → Nat → AV} (ho : o.op = .binOp .eql t x (.const (.slice none 0 0)) t') (hx : Kn σ x (.one (.lst sz n f))) (ht : sliceB P t = true) (hg : o.guard = none) (hd : o.dst = some d) (hN : d < N)
    (h : ∀ b : Bool, (b = true → n = 0) → ARun P N w0 ops Q rest (σ.put d (.one (.bool b)))) : ARun P N w0 ops Q (o :: rest) σ := by
  intro ρ S a w Q' hQ hs
  refine wpList_plain hg fun K hK => ?_
  obtain ⟨A, c, e1, h1, h2, h3, _⟩ := hx.sound hs
  obtain ⟨e, he⟩ := sliceB_spec ht
  have hrun : (execOp a.eval o).run P w = .ok (.value (.bool A.isNone)) w := by
    generalize hev : a.eval = ev at e1
    have hc : ev (.const (.slice none 0 0)) = .slice none 0 0 := by rw [← hev]; rfl
    have := Lib.run_eql_slice_nil (P := P) w t e A n c 0 0 he
    simp only [execOp, ho, e1, hc, Sem.run_bind, eqGuard]
    simp [go_sem]
    rw [this]
    rfl
  unfold Oper.wp
  rw [hrun]
  simp only [Oper.upon, hd]
  refine hK _ _ (h A.isNone (fun hb => ?_) ρ S _ _ Q' hQ (hs.put hN rfl))
  have := h3 (by cases A <;> first | rfl | cases hb)
  omega
end
end Go.Proofs.Ytonfeiloekofdaa

namespace Go.Proofs.Ytonfeiloekofdaa
open Go.ChangeShapes Go.WideShapes Go.ChangeAt Go.RowKit Go.BigFrame Go.Deep
set_option linter.unusedVariables false
set_option linter.unusedSimpArgs false
def AV.oc : AV → Bool
  | .int _ _ => true
  | .bool _ => true
  | .str _ => true
  | .lst _ _ _ => true
  | .own _ _ _ => true
  | .tre _ _ => true
  | .tl _ _ _ _ => true
  | .con v => v.oneCell'
  | .frs (.lst _ _ _) => true
  | _ => false
theorem AV.oc_r {ρ : Rho} {w : World} {S : Nat → Prop} {x : AV} {u : Value} (h : x.oc = true) (hr : R ρ w S x u) : u.oneCell' = true := by
  cases x with
  | int _ _ => rw [show u = _ from hr]; rfl
  | bool _ => rw [show u = _ from hr]; rfl
  | str _ => rw [hr.1]; rfl
  | lst sz n f => obtain ⟨A, c, e, _⟩ := hr; rw [e]; rfl
  | own id sz n => obtain ⟨A, e, _⟩ := hr; rw [e]; rfl
  | tre id i => obtain ⟨_, _, A, n, c, e⟩ := hr; rw [e]; rfl
  | tl id sz q n => obtain ⟨A, e, _⟩ := hr; rw [e]; rfl
  | cv _ _ => cases h
  | con v => rw [show u = v from hr]; exact h
  | frs x =>
    cases x with
    | lst sz n f => obtain ⟨A, c, e, _⟩ := hr; rw [e]; rfl
    | _ => cases h
  | ref _ _ => cases h
  | ptr _ _ _ _ => cases h
  | fn _ _ _ => cases h
theorem heap_setCells_other {b : Nat} : ∀ {vs : List Value} {o : Nat} {w : World} {k : Nat}, k ≠ b → (w.setCells b o vs).heap[k]? = w.heap[k]?
  | [], _, _, _, _ => rfl
  | v :: r, o, w, k, h => by rw [World.setCells, heap_setCells_other h]; exact Below.heap_setCell _ _ _ _ h
theorem below_setCells {B b : Nat} (hb : B ≤ b) : ∀ {vs : List Value} {o : Nat} {w : World}, Below B w (w.setCells b o vs) ∧ (w.setCells b o vs).heap.size = w.heap.size
  | [], _, w => ⟨Below.refl _ _, rfl⟩
  | v :: r, o, w => by
    obtain ⟨h1, h2⟩ := below_setCells hb (vs := r) (o := o + 1) (w := w.setCell ⟨b, o, none⟩ v)
    rw [World.setCells]
    refine ⟨Below.trans (Below.setCell (Below.refl _ _) hb _) h1, h2.trans ?_⟩
    simp [World.setCell]
theorem heap_setCells_at {b : Nat} {e : TypeId} {fr : Nat × Nat} : ∀ {vs : List Value} {o : Nat} {w : World} {cs : Array Value}, w.heap[b]? = some (.cells cs e fr) → ∃ cs' : Array Value, (w.setCells b o vs).heap[b]? = some (.cells cs' e fr) ∧ cs'.size = cs.size ∧
    (∀ k, k < o → cs'[k]? = cs[k]?) ∧ (∀ j u, vs[j]? = some u → o + j < cs.size → cs'[o + j]? = some u)
  | [], o, w, cs, h => ⟨cs, h, rfl, fun _ _ => rfl, fun j u hj => by simp at hj⟩
  | v :: r, o, w, cs, h => by
    have h1 : (w.setCell ⟨b, o, none⟩ v).heap[b]? = some (.cells (cs.setIfInBounds o v) e fr) := by
      simp [World.setCell, Array.getElem?_modify, h]
    obtain ⟨cs', k1, k2, k3, k4⟩ := heap_setCells_at (vs := r) (o := o + 1) h1
    refine ⟨cs', k1, by rw [k2]; simp, fun k hk => ?_, fun j u hj hlt => ?_⟩
    · rw [k3 k (by omega), Array.getElem?_setIfInBounds, if_neg (by omega)]
    · cases j with
      | zero =>
        simp at hj
        subst hj
        rw [Nat.add_zero, k3 o (by omega), Array.getElem?_setIfInBounds, if_pos rfl, if_pos (by simpa using hlt)]
      | succ j =>
        have := k4 j u (by simpa using hj) (by simp; omega)
        rw [show o + (j + 1) = o + 1 + j by omega]; exact this
section
variable {P : Program} {N : Nat} {w0 : Start} {σ : Sig} {ops : Array Oper} {rest : List Oper} {o : Oper} {Q : Sig → Prop}
inductive KnR (σ : Sig) (y : Operand) (sz m : Nat) (g : Nat → Nat → AV) : Prop
  | own {id : Nat} {ob : AObj} : Kn σ y (.one (.own id sz m)) → σ.heap.lookup id = some ob → ob.sz = sz → m ≤ ob.n → (∀ i j, i < m → j < sz → ob.f i j = g i j) → KnR σ y sz m g
  | lst : Kn σ y (.one (.lst sz m g)) → KnR σ y sz m g
  | gen : (∀ (N : Nat) (w0 : Start) (ρ : Rho) (S : Nat → Prop) (a : Act) (w : World), St N w0 ρ S σ a w → ∃ A c, a.eval y = .slice A m c ∧ (0 < m → ∃ b off, A = some ⟨b, off, none⟩ ∧ ∀ i j, i < m → j < sz → ∃ u, w.cell? ⟨b, off + (i * sz + j), none⟩ = some u ∧ R ρ w S (g i j) u)) → KnR σ y sz m g
theorem news_of {w : World} {b off n : Nat} (h : ∀ q, q < n → ∃ u, w.cell? ⟨b, off + q, none⟩ = some u) : ∃ news : List Value, news.length = n ∧ ∀ q u, news[q]? = some u → w.cell? ⟨b, off + q, none⟩ = some u := by
  refine ⟨(List.range n).map fun q => (w.cell? ⟨b, off + q, none⟩).getD undef, by simp, fun q u hq => ?_⟩
  have hlt : q < n := by have := (List.getElem?_eq_some_iff.1 hq).1; simpa using this
  obtain ⟨v, hv⟩ := h q hlt
  simp [hlt, hv] at hq
  rw [hv, hq]
theorem KnR.src {ρ : Rho} {S : Nat → Prop} {a : Act} {w : World} {y : Operand} {sz m : Nat} {g : Nat → Nat → AV} (h : KnR σ y sz m g) (hs : St N w0 ρ S σ a w) (hsz : 0 < sz) (hoc : ∀ i j, i < m → j < sz → (g i j).oc = true) {t2 : TypeId} (ht : sliceB P t2 = true) :
    ∃ news : List Value, Src P sz t2 (a.eval y) m news w ∧ ∀ i j, i < m → j < sz → ∃ u, news[i * sz + j]? = some u ∧ R ρ w S (g i j) u := by
  obtain ⟨e', he⟩ := sliceB_spec ht
  have key : ∀ (b off c : Nat), (∀ i j, i < m → j < sz → ∃ u, w.cell? ⟨b, off + (i * sz + j), none⟩ = some u ∧ R ρ w S (g i j) u) → a.eval y = .slice (some ⟨b, off, none⟩) m c →
      ∃ news : List Value, Src P sz t2 (a.eval y) m news w ∧ ∀ i j, i < m → j < sz → ∃ u, news[i * sz + j]? = some u ∧ R ρ w S (g i j) u := by
    intro b off c hc ev
    have hq : ∀ q, q < m * sz → q / sz < m ∧ q % sz < sz ∧ q / sz * sz + q % sz = q := fun q hq => ⟨(Nat.div_lt_iff_lt_mul hsz).2 hq, Nat.mod_lt _ hsz, by rw [Nat.mul_comm]; exact Nat.div_add_mod q sz⟩
    obtain ⟨news, hl, hn⟩ := news_of (w := w) (b := b) (off := off) (n := m * sz) fun q hq' => by
      obtain ⟨h1, h2, h3⟩ := hq q hq'
      obtain ⟨u, hu, _⟩ := hc _ _ h1 h2
      rw [h3] at hu; exact ⟨u, hu⟩
    have hget : ∀ i j, i < m → j < sz → ∃ u, news[i * sz + j]? = some u ∧ R ρ w S (g i j) u := fun i j hi hj => by
      obtain ⟨u, hu, hr⟩ := hc i j hi hj
      have hlt : i * sz + j < news.length := by rw [hl]; exact cell_lt hi hj
      refine ⟨u, ?_, hr⟩
      have := hn _ _ (List.getElem?_eq_getElem hlt)
      rw [hu] at this
      rw [List.getElem?_eq_getElem hlt, this]
    refine ⟨news, ?_, hget⟩
    rw [ev]
    refine Src.ofSlice w he ⟨b, off, none⟩ m c news hl (fun j u hj => by rw [Addr.add_lit]; exact hn j u hj) fun u hu => ?_
    obtain ⟨q, hq1, rfl⟩ := List.mem_iff_getElem.1 hu
    obtain ⟨h1, h2, h3⟩ := hq q (by omega)
    obtain ⟨u', hu', hr⟩ := hget _ _ h1 h2
    rw [h3, List.getElem?_eq_getElem hq1] at hu'
    obtain rfl := Option.some.inj hu'
    exact AV.oc_r (hoc _ _ h1 h2) hr
  have nil : ∀ (A : Option Addr) (c : Nat), m = 0 → a.eval y = .slice A m c → ∃ news : List Value, Src P sz t2 (a.eval y) m news w ∧ ∀ i j, i < m → j < sz → ∃ u, news[i * sz + j]? = some u ∧ R ρ w S (g i j) u := by
    intro A c hm ev
    subst hm
    refine ⟨[], ?_, fun i j hi => absurd hi (by omega)⟩
    rw [ev]
    cases A with
    | none => exact Src.ofNil w he c
    | some ad => exact Src.ofSlice w he ad 0 c [] (by simp) (fun j u hj => by simp at hj) (fun u hu => by cases hu)
  cases h with
  | @own id ob k1 k2 k3 k4 k5 =>
    subst k3
    obtain ⟨A, ev, hn1, hn2, hA⟩ := k1.sound hs
    by_cases hm : m = 0
    · exact nil A _ hm ev
    · have hc : (ρ id).2 ≠ 0 := by omega
      obtain ⟨cs, e, h1, h2, h3, h4, h5, h6, h7⟩ := hs.mem.obj id ob k2 hc
      have hA' : A = some ⟨(ρ id).1, 0, none⟩ := by rcases hA with h | ⟨_, h⟩; (· exact h); (· exact absurd h hc)
      subst hA'
      refine key (ρ id).1 0 _ (fun i j hi hj => ?_) ev
      obtain ⟨u, hu, hr⟩ := h7 i j (by omega) hj
      rw [k5 i j hi hj] at hr
      exact ⟨u, by simp [World.cell?, h1, hu], hr⟩
  | gen k1 =>
    obtain ⟨A, c, ev, h1⟩ := k1 _ _ _ _ _ _ hs
    by_cases hm : m = 0
    · exact nil A c hm ev
    · obtain ⟨b, off, hA, hc⟩ := h1 (by omega)
      subst hA
      exact key b off c hc ev
  | lst k1 =>
    obtain ⟨A, c, ev, h1, h2, h3, h4⟩ := k1.sound hs
    by_cases hm : m = 0
    · exact nil A c hm ev
    · obtain ⟨b, off, hA, _, _⟩ := h4 0 (by omega)
      subst hA
      refine key b off c (fun i j hi hj => ?_) ev
      obtain ⟨b', off', hA', _, hc⟩ := h4 i hi
      cases hA'
      obtain ⟨u, hu, hd⟩ := hc j hj
      exact ⟨u, hu, hd.toR⟩
inductive KnF (σ : Sig) (x : Operand) (sz n : Nat) (f : Nat → Nat → AV) : Heap → Prop
  | own {id : Nat} {ob : AObj} : Kn σ x (.one (.own id sz n)) → σ.heap.lookup id = some ob → ob.isT = false → ob.sz = sz → n ≤ ob.n → (∀ i j, i < n → j < sz → ob.f i j = f i j) → KnF σ x sz n f (σ.heap.filter fun p => p.1 != id)
  | nil : Kn σ x (.one (.con (.slice none 0 0))) → n = 0 → KnF σ x sz n f σ.heap
theorem filter_lookup {α : Type} {id : Nat} : ∀ {l : List (Nat × α)} {k : Nat} {p : α}, (l.filter fun q => q.1 != id).lookup k = some p → k ≠ id ∧ l.lookup k = some p
  | [], _, _, h => by simp at h
  | (k', q) :: l, k, p, h => by
    by_cases hk : k' = id
    · subst hk
      rw [List.filter_cons_of_neg (by simp)] at h
      obtain ⟨h1, h2⟩ := filter_lookup h
      refine ⟨h1, ?_⟩
      rw [List.lookup_cons, show (k == k') = false by simpa using h1]; exact h2
    · rw [List.filter_cons_of_pos (by simpa using hk)] at h
      rcases lookup_put h with ⟨rfl, rfl⟩ | ⟨hne, h⟩
      · exact ⟨hk, by simp⟩
      · obtain ⟨h1, h2⟩ := filter_lookup h
        refine ⟨h1, ?_⟩
        rw [List.lookup_cons, show (k == k') = false by simpa using hne]; exact h2
theorem KnF.sub {x : Operand} {sz n : Nat} {f : Nat → Nat → AV} {Hn : Heap} (h : KnF σ x sz n f Hn) : ∀ {k p}, Hn.lookup k = some p → σ.heap.lookup k = some p := by
  intro k p hk
  cases h with
  | own => exact (filter_lookup hk).2
  | nil => exact hk
theorem ARun.append {t t2 : TypeId} {x y : Operand} {d id sz n m by_ : Nat} {z : Value} {f g h : Nat → Nat → AV} {Hn : Heap} (ho : o.op = .call { callee := .builtin .append, args := #[x, y], argTypes := #[t, t2] })
    (hz : elemZ P t = some (some z, sz, by_)) (hzc : z.cells.size = sz) (ht : sliceB P t2 = true) (hx : KnF σ x sz n f Hn) (hy : KnR σ y sz m g) (hsz : 0 < sz) (hoc : ∀ i j, i < m → j < sz → (g i j).oc = true)
    (hh : ∀ i j, i < n + m → j < sz → h i j = if i < n then f i j else g (i - n) j) (hlim : (n + m) * by_ ≤ 140737488355328) (h63 : n + m ≤ 9223372036854775807) (hf : Fr id σ) (hno : ∀ i j, (h i j).no id = true)
    (hg : o.guard = none) (hd : o.dst = some d) (hN : d < N) (hk : ARun P N w0 ops Q rest ⟨(d, .one (.own id sz (n + m))) :: σ.env, (id, .arr sz (n + m) h) :: Hn⟩) : ARun P N w0 ops Q (o :: rest) σ := by
  intro ρ S a w Q' hQ hs
  refine wpList_plain hg fun K hK => ?_
  obtain ⟨e, i, hu, hi, hz0, hz1, hz2⟩ := elemZ_spec hz
  subst hz1 hz2
  obtain ⟨news, hsrc, hnews⟩ := hy.src (P := P) hs hsz hoc ht
  have hnl : news.length = m * i.size := hsrc.newsLen
  -- the row that is appended to
  obtain ⟨A, c, b, cs, ev, hnc, hcm, hA, hold, hHn⟩ : ∃ (A : Option Addr) (c b : Nat) (cs : Array Value), a.eval x = .slice A n c ∧ n ≤ c ∧ c ≤ maxLen ∧ (A = some ⟨b, 0, none⟩ ∨ (A = none ∧ c = 0)) ∧
      (c ≠ 0 → (∃ e', w.heap[b]? = some (.cells cs e' (0, 0))) ∧ cs.size = c * i.size ∧ w0.base ≤ b ∧ ¬ S b ∧ b < w.heap.size ∧ ∀ k j, k < n → j < i.size → ∃ u, cs[k * i.size + j]? = some u ∧ R ρ w S (f k j) u) ∧
      (c ≠ 0 → (∀ k p, Hn.lookup k = some p → (ρ k).2 ≠ 0 → (ρ k).1 ≠ b) ∧ ∀ k n' X q b', Hn.lookup k = some (.trees n' X) → q < n' → ρ.tb k q b' → b' ≠ b) := by
    cases hx with
    | @own k ob k1 k2 k3 k4 k5 k6 =>
      obtain ⟨A, ev, q1, q2, q3⟩ := k1.sound hs
      by_cases hc : (ρ k).2 = 0
      · exact ⟨A, _, (ρ k).1, #[], ev, q1, q2, q3, fun h => absurd hc h, fun h => absurd hc h⟩
      · obtain ⟨cs, e', h1, h2, h3, h4, h5, h6, h7⟩ := hs.mem.obj k ob k2 hc
        refine ⟨A, _, (ρ k).1, cs, ev, q1, q2, q3, fun _ => ⟨⟨e', h1⟩, by rw [← k4]; exact h2, h5, h6, hs.mem.blk k2 hc, fun r j hr hj => ?_⟩, fun _ => ⟨fun k' p hp hc' => ?_, fun k' n' X q b' hX hq hb' e => ?_⟩⟩
        · obtain ⟨u, hu, hru⟩ := h7 r j (by omega) (by rw [k4]; exact hj)
          rw [k6 r j hr hj, k4] at *
          exact ⟨u, hu, hru⟩
        · obtain ⟨g1, g2⟩ := filter_lookup hp
          exact hs.mem.inj k' k p ob g2 k2 g1 hc' hc
        · obtain ⟨g1, g2⟩ := filter_lookup hX
          exact ((hs.mem.tree k' n' X g2 q hq).2 b' hb').2.2.2.1 k ob k2 hc e.symm
    | nil k1 k2 =>
      have ev : a.eval x = .slice none 0 0 := k1.sound hs
      exact ⟨none, 0, 0, #[], by rw [ev, k2], by omega, by decide, .inr ⟨rfl, rfl⟩, fun h => absurd rfl h, fun h => absurd rfl h⟩
  have hHsub : ∀ {k p}, Hn.lookup k = some p → σ.heap.lookup k = some p := fun hk => hx.sub hk
  have fin : ∀ (v : Value) (w' : World) (ρ' : Rho), (Builtin.append_ #[t, t2] o.type #[a.eval x, a.eval y]).run P w = .ok v w' → St N w0 ρ' S ⟨σ.env, (id, .arr i.size (n + m) h) :: Hn⟩ a w' → R ρ' w' S (.own id i.size (n + m)) v → o.wp P a w K Q' := by
    intro v w' ρ' hrun hst hv
    have hr2 : (execOp a.eval o).run P w = .ok (.value v) w' := by
      generalize a.eval = ev at hrun
      simp only [execOp, ho, resolve, Sem.run_bind, Sem.run_pure, Result.andThen_ok, invoke, builtin, List.map_toArray, List.map_cons, List.map_nil, Array.empty_append, hrun]
    unfold Oper.wp
    rw [hr2]
    simp only [Oper.upon, hd]
    exact hK _ _ (hk ρ' S _ _ Q' hQ (hst.put hN hv))
  by_cases hroom : n + m ≤ c
  · -- there is room
    by_cases hc0 : c = 0
    · -- nothing at all
      obtain ⟨rfl, rfl⟩ : n = 0 ∧ m = 0 := by omega
      have hnews0 : news = [] := List.eq_nil_of_length_eq_zero (by rw [hnl]; omega)
      subst hnews0
      subst hc0
      obtain ⟨ρ', e1, hs'⟩ := hs.phantomAt b hf i.size h
      have hrun : (Builtin.append_ #[t, t2] o.type #[a.eval x, a.eval y]).run P w = .ok (.slice A 0 0) w := by
        rw [ev]
        have hcl := hsrc.cells
        have hln := hsrc.len w
        generalize a.eval y = vy at hcl hln
        rcases hsrc.kind with ⟨e', hk⟩ | hk <;> rcases hA with rfl | ⟨rfl, _⟩ <;> simp [Builtin.append_, run_underlying hu, run_underlying hk, sizeOf, typeInfo, hi, hln, hcl, storeCells]
      refine fin _ w ρ' hrun ⟨hs'.size, hs'.defers, hs'.below, hs'.mem.le' fun k p hp => ?_, hs'.env⟩ ?_
      · rcases lookup_put hp with ⟨rfl, rfl⟩ | ⟨hne, hp⟩
        · exact HLe.refl (by simp [Sig.set])
        · exact HLe.refl (by simp only [Sig.set]; rw [List.lookup_cons, show (k == id) = false by simpa using hne]; exact hHsub hp)
      · show ∃ B, Value.slice A 0 0 = .slice B 0 (ρ' id).2 ∧ 0 ≤ (ρ' id).2 ∧ (ρ' id).2 ≤ maxLen ∧ (B = some ⟨(ρ' id).1, 0, none⟩ ∨ (B = none ∧ (ρ' id).2 = 0))
        rw [e1]
        exact ⟨A, rfl, Nat.le_refl _, Nat.zero_le _, hA⟩
    · obtain ⟨⟨e', hblk⟩, hcsz, hbb, hbS, hblt, hcells⟩ := hold hc0
      obtain ⟨hn1, hn2⟩ := hHn hc0
      have hA' : A = some ⟨b, 0, none⟩ := by rcases hA with h | ⟨_, h⟩; (· exact h); (· exact absurd h hc0)
      subst hA'
      have hin : ∀ j, j < news.length → n * i.size + j < cs.size := fun j hj => by
        rw [hnl] at hj
        have : (n + m) * i.size ≤ c * i.size := Nat.mul_le_mul_right _ hroom
        rw [Nat.add_mul] at this
        omega
      have hrun := run_append_room_src (P := P) w t t2 o.type e i hu hi b 0 n c (a.eval y) m news hsrc hroom (fun j hj => by
          have := hin j hj
          simp [World.cell?, hblk, this]) (fun j hj => by simp [World.frozen?, hblk])
      simp only [Nat.zero_add] at hrun
      obtain ⟨hb1, hb2⟩ := below_setCells hbb (vs := news) (o := n * i.size) (w := w)
      obtain ⟨cs', g1, g2, g3, g4⟩ := heap_setCells_at (vs := news) (o := n * i.size) hblk
      have hother : ∀ k, k ≠ b → (w.setCells b (n * i.size) news).heap[k]? = w.heap[k]? := fun k hk => heap_setCells_other hk
      have hsame : Same S w S (w.setCells b (n * i.size) news) := ⟨fun _ h => h, fun k hk => hother k fun e => hbS (e ▸ hk)⟩
      refine fin _ _ ⟨fun k => if k = id then (b, c) else ρ k, ρ.base, ρ.tv, ρ.tb, ρ.tn⟩ (by rw [ev]; exact hrun) ?_ ?_
      · have hρ : ∀ k, k ≠ id → (if k = id then (b, c) else ρ k) = ρ k := fun k hk => if_neg hk
        have hρA : ∀ k, k ≠ id → Rho.At ρ ⟨fun k => if k = id then (b, c) else ρ k, ρ.base, ρ.tv, ρ.tb, ρ.tn⟩ k := fun k hk => ⟨hρ k hk, rfl, rfl, rfl⟩
        have hkeep : ∀ {x : AV} {u : Value}, x.no id = true → R ρ w S x u → R ⟨fun k => if k = id then (b, c) else ρ k, ρ.base, ρ.tv, ρ.tb, ρ.tn⟩ (w.setCells b (n * i.size) news) S x u := fun {x u} hx hr => hr.keep (ρ := ρ) hsame ⟨rfl, fun q => by
          by_cases hq : q = id
          · subst hq; exact .inr hx
          · exact .inl (hρA q hq)⟩
        refine ⟨hs.size, hs.defers, ⟨hs.below.old.trans hb1, hs.below.same.trans hsame, fun k hk => (hs.below.ids k hk).trans (hρA k (fun e => by have := hf.small; omega))⟩, ⟨hs.mem.base, by rw [hb2]; exact hs.mem.low, fun k hk => by rw [hb2]; exact hs.mem.lt k hk, ?_, ?_, ?_, ?_⟩, fun t s ht => (hs.env t s ht).keep (ρ := ρ) hsame ⟨rfl, fun q => by
          by_cases hq : q = id
          · subst hq; exact .inr (List.all_eq_true.1 hf.env _ (lookup_mem ht))
          · exact .inl (hρA q hq)⟩⟩
        · intro k p hp
          rcases lookup_put hp with ⟨rfl, rfl⟩ | ⟨hne, hp⟩
          · simpa [AObj.n] using hroom
          · simp only [hρ k hne]; exact hs.mem.cap k p (hHsub hp)
        · intro k p hp hc
          rcases lookup_put hp with ⟨rfl, rfl⟩ | ⟨hne, hp⟩
          · simp only [if_true]
            refine ⟨cs', e', g1, by rw [g2]; exact hcsz, hroom, hcm, hbb, hbS, fun r j hr hj => ?_⟩
            have hr : r < n + m := hr
            have hj : j < i.size := hj
            show ∃ u, cs'[r * i.size + j]? = some u ∧ R _ _ S (h r j) u
            have hnn := hno r j
            rw [hh r j hr hj] at hnn ⊢
            by_cases hrn : r < n
            · rw [if_pos hrn] at hnn ⊢
              obtain ⟨u, hu1, hr1⟩ := hcells r j hrn hj
              exact ⟨u, by rw [g3 _ (cell_lt hrn hj)]; exact hu1, hkeep hnn hr1⟩
            · rw [if_neg hrn] at hnn ⊢
              obtain ⟨u, hu1, hr1⟩ := hnews (r - n) j (by omega) hj
              have hq : n * i.size + ((r - n) * i.size + j) = r * i.size + j := by
                rw [← Nat.add_assoc, ← Nat.add_mul]
                rw [show n + (r - n) = r by omega]
              have := g4 _ u hu1 (hin _ (List.getElem?_eq_some_iff.1 hu1).1)
              rw [hq] at this
              exact ⟨u, this, hkeep hnn hr1⟩
          · obtain ⟨_, hno'⟩ := hf.heap.get (hHsub hp)
            simp only [hρ k hne] at hc ⊢
            obtain ⟨cs2, e2, q1, q2, q3, q4, q5, q6, q7⟩ := hs.mem.obj k p (hHsub hp) hc
            refine ⟨cs2, e2, by rw [hother _ (hn1 k p hp hc)]; exact q1, q2, q3, q4, q5, q6, fun r j hr hj => ?_⟩
            obtain ⟨u, hu1, hr1⟩ := q7 r j hr hj
            exact ⟨u, hu1, hkeep (hno'.at_ r j) hr1⟩
        · intro k k' p p' hp hp' hne hc hc'
          rcases lookup_put hp with ⟨rfl, rfl⟩ | ⟨q1, hp2⟩ <;> rcases lookup_put hp' with ⟨rfl, rfl⟩ | ⟨q2, hp2'⟩
          · exact absurd rfl hne
          · simp only [hρ k' q2] at hc'
            simp only [if_true, hρ k' q2]
            exact fun e => hn1 k' p' hp2' hc' e.symm
          · simp only [hρ k q1] at hc
            simp only [if_true, hρ k q1]
            exact hn1 k p hp2 hc
          · simp only [hρ k q1] at hc
            simp only [hρ k' q2] at hc'
            simp only [hρ k q1, hρ k' q2]
            exact hs.mem.inj k k' p p' (hHsub hp2) (hHsub hp2') hne hc hc'
        · have hmn : MemOk w0.base ρ S Hn w := hs.mem.le' fun k p hp => HLe.refl (hHsub hp)
          refine hmn.treeOf (Nat.le_refl _) (fun k n' X hX => ?_) (fun k n' X q b' hX hq hb' => ?_) (fun k p hp hc => ?_)
          · rcases lookup_put hX with ⟨rfl, e⟩ | ⟨hne, hX⟩
            · cases e
            · exact ⟨X, hX, fun _ _ => rfl, rfl, rfl, rfl⟩
          · obtain ⟨q1, q2, q3, _⟩ := (hmn.tree k n' X hX q hq).2 b' hb'
            exact ⟨hother b' (hn2 k n' X q b' hX hq hb'), by rw [hb2]; exact q2, q3⟩
          · rcases lookup_put hp with ⟨rfl, rfl⟩ | ⟨hne, hp⟩
            · refine .inr fun k2 n' X q hX hq hb' => ?_
              simp only [if_true] at hb'
              exact hn2 k2 n' X q b hX hq hb' rfl
            · exact .inl ⟨p, hp, hρ k hne⟩
      · show ∃ A, Value.slice _ _ _ = .slice A (n + m) (if id = id then (b, c) else ρ id).2 ∧ _
        simp only [if_true]
        exact ⟨_, rfl, hroom, hcm, .inl rfl⟩
  · -- a new row
    have hold2 : ∃ olds : List Value, (Builtin.firstCells i.size n (.slice A n c)).run P w.drew = .ok olds.toArray w.drew ∧ olds.length = n * i.size ∧ ∀ k j, k < n → j < i.size → ∃ u, olds[k * i.size + j]? = some u ∧ R ρ w S (f k j) u := by
      by_cases hn0 : n = 0
      · subst hn0
        refine ⟨[], ?_, by simp, fun k j hk => absurd hk (by omega)⟩
        rcases hA with rfl | ⟨rfl, _⟩
        · exact run_firstCells_some w.drew i.size 0 _ 0 c [] (by simp) (fun j u hj => by simp at hj)
        · exact run_firstCells_none w.drew i.size 0 0 c
      · have hc0 : c ≠ 0 := by omega
        obtain ⟨⟨e', hblk⟩, hcsz, hbb, hbS, hblt, hcells⟩ := hold hc0
        have hA' : A = some ⟨b, 0, none⟩ := by rcases hA with h | ⟨_, h⟩; (· exact h); (· exact absurd h hc0)
        subst hA'
        have hle : n * i.size ≤ cs.size := by rw [hcsz]; exact Nat.mul_le_mul_right _ hnc
        refine ⟨cs.toList.take (n * i.size), run_firstCells_some w.drew i.size n _ n c _ (by simp; omega) (fun j u hj => ?_), by simp; omega, fun k j hk hj => ?_⟩
        · rw [List.getElem?_take] at hj
          split at hj
          · rw [Addr.add_lit]
            have : cs[j]? = some u := by simpa using hj
            show w.cell? ⟨b, 0 + j, none⟩ = some u
            simp [World.cell?, hblk, this]
          · cases hj
        · obtain ⟨u, hu1, hr1⟩ := hcells k j hk hj
          refine ⟨u, ?_, hr1⟩
          rw [List.getElem?_take, if_pos (cell_lt hk hj)]
          simpa using hu1
    obtain ⟨olds, ho1, ho2, ho3⟩ := hold2
    have hrun := run_append_grow_src (P := P) w t t2 o.type e i z hu hi hz0 A n c olds ho1 (a.eval y) m news hsrc (by omega) (by omega) (growslice_fits (by omega) hlim)
    have hsw := hs.world (w' := w.drew) ((Below.refl _ _).drew)
    have hcapge := grownCap_ge w (n + m) c e
    have hcaple := grownCap_le_maxLen w (n + m) c e (by unfold maxLen; omega)
    generalize hcap : grownCap w (n + m) c e = cap' at hrun hcapge hcaple
    have hcsz : ((olds ++ news).toArray ++ Builtin.zeroCells z.cells (cap' - (n + m))).size = cap' * i.size := by
      rw [Array.size_append, size_zeroCells, hzc]
      simp only [List.size_toArray, List.length_append, ho2, hnl]
      rw [← Nat.add_mul, ← Nat.add_mul]
      congr 1; omega
    obtain ⟨ρ', e1, e2, e3, hs'⟩ := hsw.newA hf (o := .arr i.size (n + m) h) (cs := (olds ++ news).toArray ++ Builtin.zeroCells z.cells (cap' - (n + m))) (e := e) (cap := cap') rfl hcsz hcapge hcaple (fun r j hr hj => by
      have hr : r < n + m := hr
      have hj : j < i.size := hj
      show ∃ u, ((olds ++ news).toArray ++ Builtin.zeroCells z.cells (cap' - (n + m)))[r * i.size + j]? = some u ∧ R ρ w.drew S (h r j) u
      have hlt : r * i.size + j < (olds ++ news).length := by
        rw [List.length_append, ho2, hnl, ← Nat.add_mul]; exact cell_lt hr hj
      rw [Array.getElem?_append_left (by simpa using hlt), hh r j hr hj]
      have hkeep : ∀ {x : AV} {u : Value}, R ρ w S x u → R ρ w.drew S x u := fun hr => hr.keep (hs.mem.same ((Below.refl _ _).drew)) (Rn.refl _ _)
      by_cases hrn : r < n
      · rw [if_pos hrn]
        obtain ⟨u, hu1, hr1⟩ := ho3 r j hrn hj
        refine ⟨u, ?_, hkeep hr1⟩
        simp only [List.getElem?_toArray]
        rw [List.getElem?_append_left (by rw [ho2]; exact cell_lt hrn hj)]; exact hu1
      · rw [if_neg hrn]
        obtain ⟨u, hu1, hr1⟩ := hnews (r - n) j (by omega) hj
        refine ⟨u, ?_, hkeep hr1⟩
        have hq : n * i.size + ((r - n) * i.size + j) = r * i.size + j := by
          rw [← Nat.add_assoc, ← Nat.add_mul]
          rw [show n + (r - n) = r by omega]
        simp only [List.getElem?_toArray]
        rw [List.getElem?_append_right (by rw [ho2]; omega), ho2, show r * i.size + j - n * i.size = (r - n) * i.size + j by omega]; exact hu1) hno
    refine fin _ _ ρ' (by rw [ev]; exact hrun) ?_ ?_
    · refine ⟨hs'.size, hs'.defers, hs'.below, hs'.mem.le' fun k p hp => ?_, hs'.env⟩
      rcases lookup_put hp with ⟨rfl, rfl⟩ | ⟨hne, hp⟩
      · exact HLe.refl (by simp [Sig.set])
      · exact HLe.refl (by simp only [Sig.set]; rw [List.lookup_cons, show (k == id) = false by simpa using hne]; exact hHsub hp)
    · show ∃ A, Value.slice _ _ _ = .slice A (n + m) (ρ' id).2 ∧ n + m ≤ (ρ' id).2 ∧ (ρ' id).2 ≤ maxLen ∧ (A = some ⟨(ρ' id).1, 0, none⟩ ∨ (A = none ∧ (ρ' id).2 = 0))
      rw [e1]
      exact ⟨_, rfl, hcapge, hcaple, .inl rfl⟩
end
end Go.Proofs.Ytonfeiloekofdaa

namespace Go.Proofs.Ytonfeiloekofdaa
open Go.ChangeShapes Go.WideShapes Go.ChangeAt Go.RowKit Go.BigFrame Go.Deep
set_option linter.unusedVariables false
set_option linter.unusedSimpArgs false
theorem foldl_set : ∀ (l : List Value) (k : Nat) (a : Array Value), ((l.zipIdx k).foldl (fun cs (p : Value × Nat) => cs.setIfInBounds (0 + p.2) p.1) a).size = a.size ∧ ∀ q, q < a.size → ((l.zipIdx k).foldl (fun cs (p : Value × Nat) => cs.setIfInBounds (0 + p.2) p.1) a)[q]? = if k ≤ q ∧ q < k + l.length then l[q - k]? else a[q]?
  | [], k, a => ⟨rfl, fun q _ => by rw [if_neg (by simp only [List.length_nil]; omega)]; rfl⟩
  | v :: l, k, a => by
    obtain ⟨h1, h2⟩ := foldl_set l (k + 1) (a.setIfInBounds (0 + k) v)
    rw [List.zipIdx_cons, List.foldl_cons]
    refine ⟨by rw [h1]; simp, fun q hq => ?_⟩
    rw [h2 q (by simpa using hq)]
    by_cases hqk : q = k
    · subst hqk
      rw [if_neg (by omega)]; simp [hq]
    · by_cases hin : k + 1 ≤ q ∧ q < k + 1 + l.length
      · rw [if_pos hin, if_pos (by simp; omega), show q - k = (q - (k + 1)) + 1 by omega]; rfl
      · rw [if_neg hin, if_neg (by simp; omega), Array.getElem?_setIfInBounds, if_neg (by omega)]
theorem fill_one {zero cs : Array Value} {sz : Nat} {v : Value} (hv : v.cells = cs) (h1 : cs.size = sz) (h2 : zero.size = sz) : Instr.fill (fun i => some (i * sz, sz)) zero [(0, v)] = some cs := by
  subst hv
  rw [Instr.fill]
  simp only [Nat.zero_mul, Nat.zero_add]
  rw [if_neg (by simp; omega), Instr.fill]
  congr 1
  have e : v.cells.zipIdx.foldl (fun cs (x : Value × Nat) => match x with | (c, j) => cs.setIfInBounds j c) zero = (v.cells.toList.zipIdx 0).foldl (fun cs (p : Value × Nat) => cs.setIfInBounds (0 + p.2) p.1) zero := by
    rw [← Array.foldl_toList, Array.toList_zipIdx]
    simp only [Nat.zero_add]
  obtain ⟨k1, k2⟩ := foldl_set v.cells.toList 0 zero
  refine Eq.trans e (Array.ext (by rw [k1, h2, h1]) fun q hq1 hq2 => ?_)
  have hq : q < zero.size := by rw [k1] at hq1; exact hq1
  have := k2 q hq
  rw [if_pos ⟨Nat.zero_le _, by simp; omega⟩, Array.getElem?_eq_getElem hq1] at this
  simp only [Nat.sub_zero] at this
  have h3 : v.cells.toList[q]? = some v.cells[q] := by simp [hq2]
  rw [h3] at this
  exact Option.some.inj this
section
variable {P : Program} {N : Nat} {w0 : Start} {σ : Sig} {ops : Array Oper} {rest : List Oper} {o : Oper} {Q : Sig → Prop}
theorem ARun.slice1 {t d id sz by_ : Nat} {x : Operand} {s : SV} {z : Value} (ho : o.op = .buildSlice t 1 #[(0, x)]) (hx : Kn σ x s) (hc : s.Cells) (hz : elemZ P t = some (some z, sz, by_)) (hzc : z.cells.size = sz) (hlen : s.cs.length = sz) (hsz : 0 < sz) (hbig : sz ≤ 16777216)
    (hf : Fr id σ) (hno : s.cs.all (AV.no id) = true) (hg : o.guard = none) (hd : o.dst = some d) (hN : d < N)
    (h : ARun P N w0 ops Q rest ((σ.set id (.arr sz 1 fun _ j => s.cs.getD j (.con undef))).put d (.one (.own id sz 1)))) : ARun P N w0 ops Q (o :: rest) σ := by
  intro ρ S a w Q' hQ hs
  refine wpList_plain hg fun K hK => ?_
  obtain ⟨e, i, hu, hi, hz0, hz1, hz2⟩ := elemZ_spec hz
  subst hz1
  have hrl := hc.rl (hx.sound hs)
  have hcl : (a.eval x).cells.size = i.size := by have := hrl.len; rw [hlen] at this; simpa using this
  have hrun : (execOp a.eval o).run P w = .ok (.value (.slice (some ⟨w.heap.size, 0, none⟩) 1 1)) (w.alloc (.cells (a.eval x).cells e)) := by
    have hfl := fill_one (zero := (Array.range (1 * i.size)).map (z.cells[· % z.cells.size]!)) (v := a.eval x) rfl hcl (by simp)
    have := Go.run_buildSlice (P := P) w t e 1 #[(0, a.eval x)] (a.eval x).cells i z hu hi hz0 (by omega) (by omega) (by simpa using hfl)
    generalize a.eval = ev at this
    simp only [execOp, ho, Sem.run_bind, List.map_toArray, List.map_cons, List.map_nil, this, Result.andThen_ok]
    simp [go_sem]
  obtain ⟨ρ', e1, hs'⟩ := hs.new hf (o := .arr i.size 1 fun _ j => s.cs.getD j (.con undef)) (cs := (a.eval x).cells) (e := e) (cap := 1) rfl (by rw [hcl]; show _ = 1 * i.size; omega) (Nat.le_refl _) (by unfold maxLen; omega) (fun r j hr hj => by
    have hr0 : r = 0 := by have : r < 1 := hr; omega
    subst hr0
    have hj' : j < s.cs.length := by rw [hlen]; exact hj
    obtain ⟨u, hu1, hr1⟩ := hrl.getD hj'
    exact ⟨u, by simpa [AObj.sz] using hu1, hr1⟩) (fun r j => getD_no hno)
  unfold Oper.wp
  rw [hrun]
  simp only [Oper.upon, hd]
  refine hK _ _ (h ρ' S _ _ Q' hQ (hs'.put hN ?_))
  show ∃ A, Value.slice _ _ _ = .slice A 1 (ρ' id).2 ∧ 1 ≤ (ρ' id).2 ∧ (ρ' id).2 ≤ maxLen ∧ (A = some ⟨(ρ' id).1, 0, none⟩ ∨ (A = none ∧ (ρ' id).2 = 0))
  rw [e1]
  exact ⟨_, rfl, Nat.le_refl _, by unfold maxLen; omega, .inl rfl⟩
end
def AObj.ren (g : Nat → Nat) : AObj → AObj
  | .cells l => .cells (l.map (AV.ren g))
  | .arr sz n f => .arr sz n fun i j => (f i j).ren g
  | .trees n X => .trees n X
def Sig.ren (σ : Sig) (g : Nat → Nat) : Sig := ⟨σ.env.map fun p => (p.1, p.2.ren g), σ.heap.map fun p => (g p.1, p.2.ren g)⟩
theorem AObj.ren_f {g : Nat → Nat} (o : AObj) (i j : Nat) : (o.ren g).f i j = (o.f i j).ren g := by
  cases o with
  | cells l =>
    show (l.map (AV.ren g)).getD j (.con undef) = (l.getD j (.con undef)).ren g
    rw [List.getD_eq_getElem?_getD, List.getD_eq_getElem?_getD, List.getElem?_map]
    cases l[j]? <;> rfl
  | arr _ _ _ => rfl
  | trees _ _ => rfl
theorem AObj.ren_n {g : Nat → Nat} (o : AObj) : (o.ren g).n = o.n := by cases o <;> rfl
theorem AObj.ren_sz {g : Nat → Nat} (o : AObj) : (o.ren g).sz = o.sz := by
  cases o with
  | cells l => simp [AObj.ren, AObj.sz]
  | _ => rfl
theorem ren_lookupH {g : Nat → Nat} (hg : ∀ a b, g a = g b → a = b) : ∀ {H : Heap} {id : Nat} {o : AObj}, H.lookup id = some o → (H.map fun p => (g p.1, p.2.ren g)).lookup (g id) = some (o.ren g)
  | [], _, _, h => by simp at h
  | (k, p) :: H, id, o, h => by
    rcases lookup_put h with ⟨rfl, rfl⟩ | ⟨hne, h⟩
    · simp
    · rw [List.map_cons, List.lookup_cons, show (g id == g k) = false by simpa using fun e => hne (hg _ _ e)]
      exact ren_lookupH hg h
theorem ren_lookupE {g : Nat → Nat} : ∀ {E : Env} {t : Nat} {s : SV}, E.lookup t = some s → (E.map fun p => (p.1, p.2.ren g)).lookup t = some (s.ren g)
  | [], _, _, h => by simp at h
  | (k, p) :: E, t, s, h => by
    rcases lookup_put h with ⟨rfl, rfl⟩ | ⟨hne, h⟩
    · simp
    · rw [List.map_cons, List.lookup_cons, show (t == k) = false by simpa using hne]
      exact ren_lookupE h
theorem St.ren {N : Nat} {w0 : Start} {ρ : Rho} {S : Nat → Prop} {σ : Sig} {a : Act} {w : World} {g : Nat → Nat} (hg : ∀ a b, g a = g b → a = b) (hfix : ∀ id, 1000000 ≤ id → g id = id) (hs : St N w0 ρ S (σ.ren g) a w) : St N w0 (ρ.ren g) S σ a w := by
  have hb : (ρ.ren g).base = ρ.base := rfl
  refine ⟨hs.size, hs.defers, ⟨hs.below.old, hs.below.same, fun id hid => ?_⟩, ⟨hs.mem.base, hs.mem.low, hs.mem.lt, fun id o ho => ?_, fun id o ho hc => ?_, fun id id' o o' ho ho' hne hc hc' => ?_, fun id n X hX => ?_⟩, fun t s ht => RS.ren (hs.env t _ (ren_lookupE ht))⟩
  · have h := hs.below.ids id hid
    have e := hfix id hid
    exact ⟨by show ρ.m (g id) = _; rw [e]; exact h.m, by show ρ.tv (g id) = _; rw [e]; exact h.v, by show ρ.tb (g id) = _; rw [e]; exact h.b, by show ρ.tn (g id) = _; rw [e]; exact h.n⟩
  · have := hs.mem.cap (g id) _ (ren_lookupH hg ho)
    rw [AObj.ren_n] at this; exact this
  · obtain ⟨cs, e, h1, h2, h3, h4, h5, h6, h7⟩ := hs.mem.obj (g id) _ (ren_lookupH hg ho) hc
    rw [AObj.ren_sz] at h2
    rw [AObj.ren_n] at h3
    refine ⟨cs, e, h1, h2, h3, h4, h5, h6, fun i j hi hj => ?_⟩
    obtain ⟨u, hu, hr⟩ := h7 i j (by rw [AObj.ren_n]; exact hi) (by rw [AObj.ren_sz]; exact hj)
    rw [AObj.ren_sz] at hu
    rw [AObj.ren_f] at hr
    exact ⟨u, hu, R.ren hr⟩
  · exact hs.mem.inj (g id) (g id') _ _ (ren_lookupH hg ho) (ren_lookupH hg ho') (fun e => hne (hg _ _ e)) hc hc'
  · obtain ⟨t1, t2⟩ := hs.mem.tree0 (g id) n X (ren_lookupH hg hX)
    refine ⟨t1, fun i hi => ⟨(t2 i hi).1, fun b hb => ?_⟩⟩
    obtain ⟨q1, q2, q3, q4, q5⟩ := (t2 i hi).2 b hb
    exact ⟨q1, q2, q3, fun id' o ho hc => q4 (g id') _ (ren_lookupH hg ho) hc, fun id' n' X' i' hX' hi' hne => q5 (g id') n' X' i' (ren_lookupH hg hX') hi' (fun e => hne ⟨hg _ _ e.1, e.2⟩)⟩
def LoopQR (Q : Exit → Sig → Prop) {ι : Type} (L : ι → Sig) (I : ι → Prop) (μ : ι → Nat) (i : ι) : Exit → Sig → Prop
  | .normal, σ => ∃ i' g, I i' ∧ μ i' < μ i ∧ (∀ a b, g a = g b → a = b) ∧ (∀ id, 1000000 ≤ id → g id = id) ∧ SigLe σ ((L i').ren g)
  | e, σ => Q e σ
def swp (a b k : Nat) : Nat := if k = a then b else if k = b then a else k
theorem MemOk.reob {B : Nat} {ρ : Rho} {S : Nat → Prop} {H : Heap} {w : World} (h : MemOk B ρ S H w) {id : Nat} {o o' : AObj} (ho : H.lookup id = some o) (hT : o'.isT = false) (hsz : o'.sz = o.sz) (hn : o'.n = o.n) (hr : ∀ i j u, i < o.n → j < o.sz → R ρ w S (o.f i j) u → R ρ w S (o'.f i j) u) :
    MemOk B ρ S ((id, o') :: H) w := by
  have conv : ∀ {k p}, ((id, o') :: H).lookup k = some p → ∃ p', H.lookup k = some p' := fun {k p} hp => by
    rcases lookup_put hp with ⟨rfl, rfl⟩ | ⟨_, hp⟩
    · exact ⟨o, ho⟩
    · exact ⟨p, hp⟩
  refine ⟨h.base, h.low, h.lt, fun k p hp => ?_, fun k p hp hc => ?_, fun k k' p p' hp hp' hne hc hc' => ?_, h.treeOf (Nat.le_refl _) (fun k n X hX => ?_) (fun k n X i b hX hi hb => ⟨rfl, (((h.tree k n X hX i hi).2) b hb).2.1, (((h.tree k n X hX i hi).2) b hb).2.2.1⟩) (fun k p hp _ => ?_)⟩
  · rcases lookup_put hp with ⟨rfl, rfl⟩ | ⟨_, hp⟩
    · rw [hn]; exact h.cap k o ho
    · exact h.cap k p hp
  · rcases lookup_put hp with ⟨rfl, rfl⟩ | ⟨_, hp⟩
    · obtain ⟨cs, e, h1, h2, h3, h4, h5, h6, h7⟩ := h.obj k o ho hc
      refine ⟨cs, e, h1, by rw [hsz]; exact h2, by rw [hn]; exact h3, h4, h5, h6, fun i j hi hj => ?_⟩
      rw [hn] at hi
      rw [hsz] at hj ⊢
      obtain ⟨u, hu, hru⟩ := h7 i j hi hj
      exact ⟨u, hu, hr i j u hi hj hru⟩
    · exact h.obj k p hp hc
  · obtain ⟨q, hq⟩ := conv hp
    obtain ⟨q', hq'⟩ := conv hp'
    exact h.inj k k' q q' hq hq' hne hc hc'
  · rcases lookup_put hX with ⟨rfl, rfl⟩ | ⟨hne, hX⟩
    · cases hT
    · exact ⟨X, hX, fun _ _ => rfl, rfl, rfl, rfl⟩
  · obtain ⟨q, hq⟩ := conv hp
    exact .inl ⟨q, hq, rfl⟩
theorem nil_own {ρ : Rho} {w : World} {S : Nat → Prop} {id sz : Nat} {u : Value} (h : ρ id = (0, 0)) (hu : u = .slice none 0 0) : R ρ w S (.own id sz 0) u := by
  show ∃ A, u = .slice A 0 (ρ id).2 ∧ 0 ≤ (ρ id).2 ∧ (ρ id).2 ≤ maxLen ∧ (A = some ⟨(ρ id).1, 0, none⟩ ∨ (A = none ∧ (ρ id).2 = 0))
  rw [h]
  exact ⟨none, hu, Nat.le_refl _, Nat.zero_le _, .inr ⟨rfl, rfl⟩⟩
section
variable {P : Program} {N : Nat} {w0 : Start} {σ : Sig} {Q2 : Exit → Sig → Prop} {c : Code}
theorem AW.nilCell (v j id sz : Nat) (l : List AV) (f : Nat → Nat → AV) (hv : σ.heap.lookup v = some (.cells l)) (hj : l[j]? = some (.con (.slice none 0 0))) (hf : Fr id σ) (h : AW P N w0 c Q2 ⟨σ.env, (v, .cells (l.set j (.own id sz 0))) :: (id, .arr sz 0 f) :: σ.heap⟩) : AW P N w0 c Q2 σ := by
  intro ρ S a w Q' hQ hs
  obtain ⟨ρ', e1, hs'⟩ := hs.phantom hf sz f
  have hne : v ≠ id := (hf.heap.get hv).1
  have hv' : (σ.set id (.arr sz 0 f)).heap.lookup v = some (.cells l) := by
    simp only [Sig.set]
    rw [List.lookup_cons, show (v == id) = false by simpa using hne]; exact hv
  refine h ρ' S a w Q' hQ ⟨hs'.size, hs'.defers, hs'.below, hs'.mem.reob hv' rfl (by simp [AObj.sz]) rfl (fun i q u _ hq hr => ?_), hs'.env⟩
  have hq : q < l.length := hq
  have hr : R ρ' w S (l.getD q (.con undef)) u := hr
  show R ρ' w S ((l.set j (.own id sz 0)).getD q (.con undef)) u
  by_cases hqj : q = j
  · subst hqj
    rw [List.getD_eq_getElem?_getD, hj] at hr
    rw [List.getD_eq_getElem?_getD, List.getElem?_set, if_pos rfl, if_pos hq]
    exact nil_own e1 hr
  · rw [List.getD_eq_getElem?_getD, List.getElem?_set, if_neg (fun e => hqj e.symm), ← List.getD_eq_getElem?_getD]; exact hr
end
def cntP {α : Type} (p : α → Bool) (l : List α) (k : Nat) : Nat := ((l.take k).filter p).length
end Go.Proofs.Ytonfeiloekofdaa

namespace Go.Proofs.Ytonfeiloekofdaa
open Go.ChangeShapes Go.WideShapes Go.ChangeAt Go.RowKit Go.BigFrame Go.Deep
set_option linter.unusedVariables false
set_option linter.unusedSimpArgs false
section
variable {P : Program} {N : Nat} {w0 : Start} {σ : Sig} {ops : Array Oper} {rest : List Oper} {o : Oper} {Q : Sig → Prop}
theorem ARun.slice0 {t d id sz by_ : Nat} {z : Value} (ho : o.op = .buildSlice t 0 #[]) (hz : elemZ P t = some (some z, sz, by_)) (f : Nat → Nat → AV) (hno : ∀ i j, (f i j).no id = true)
    (hf : Fr id σ) (hg : o.guard = none) (hd : o.dst = some d) (hN : d < N) (h : ARun P N w0 ops Q rest ((σ.set id (.arr sz 0 f)).put d (.one (.own id sz 0)))) : ARun P N w0 ops Q (o :: rest) σ := by
  intro ρ S a w Q' hQ hs
  refine wpList_plain hg fun K hK => ?_
  obtain ⟨e, i, hu, hi, hz0, hz1, hz2⟩ := elemZ_spec hz
  subst hz1
  have hrun : (execOp a.eval o).run P w = .ok (.value (.slice (some ⟨w.heap.size, 0, none⟩) 0 0)) (w.alloc (.cells #[] e)) := by
    generalize a.eval = ev
    simp [execOp, ho, Instr.buildSlice, run_underlying hu, sizeOf, typeInfo, hi, Instr.fill, newRow, go_sem]
  obtain ⟨ρ', e1, hs'⟩ := hs.new hf (o := .arr i.size 0 f) (cs := #[]) (e := e) (cap := 0) rfl (by simp) (Nat.le_refl _) (Nat.zero_le _) (fun r j hr => absurd hr (Nat.not_lt_zero _)) hno
  unfold Oper.wp
  rw [hrun]
  simp only [Oper.upon, hd]
  refine hK _ _ (h ρ' S _ _ Q' hQ (hs'.put hN ?_))
  show ∃ A, Value.slice _ _ _ = .slice A 0 (ρ' id).2 ∧ 0 ≤ (ρ' id).2 ∧ (ρ' id).2 ≤ maxLen ∧ (A = some ⟨(ρ' id).1, 0, none⟩ ∨ (A = none ∧ (ρ' id).2 = 0))
  rw [e1]
  exact ⟨_, rfl, Nat.le_refl _, Nat.zero_le _, .inl rfl⟩
theorem St.openRow {ρ : Rho} {S : Nat → Prop} {a : Act} {w : World} (hs : St N w0 ρ S σ a w) {t K q m sz n id : Nat} {X : Nat → AV} {f : Nat → Nat → AV} (ht : σ.env.lookup t = some (.one (.tre K q))) (hK : σ.heap.lookup K = some (.trees m X)) (hq : q < m) (hX : X q = .lst sz n f)
    (hsc : ∀ i j, i < n → j < sz → (f i j).scl = true) (hno : ∀ i j, (f i j).no id = true) (hf : Fr id σ) : ∃ ρ', St N w0 ρ' S ⟨(t, .one (.own id sz n)) :: σ.env, (id, .arr sz n f) :: σ.heap.filter fun p => p.1 != K⟩ a w := by
  obtain ⟨ev, _⟩ := hs.env _ _ ht
  obtain ⟨t1, t2⟩ := hs.mem.tree K m X hK q hq
  rw [hX] at t1
  rw [← ev] at t1
  unfold Tr at t1
  obtain ⟨A, c, e, hnc, hcm, hcase⟩ := t1
  obtain ⟨b, cs, hA, hblk⟩ : ∃ (b : Nat) (cs : Array Value), (A = some ⟨b, 0, none⟩ ∨ (A = none ∧ c = 0)) ∧ (c ≠ 0 → ρ.tb K q b ∧ (∃ e, w.heap[b]? = some (.cells cs e (0, 0))) ∧ cs.size = c * sz ∧ ∀ i j, i < n → j < sz → ∃ u, cs[i * sz + j]? = some u ∧ R ρ w S (f i j) u) := by
    rcases hcase with ⟨rfl, hA⟩ | ⟨b, cs, e', g1, g2, g3, g4, F, g5, g6⟩
    · rcases hA with hA | ⟨b, hA⟩
      · exact ⟨0, #[], .inr ⟨hA, rfl⟩, fun h => absurd rfl h⟩
      · exact ⟨b, #[], .inl hA, fun h => absurd rfl h⟩
    · refine ⟨b, cs, .inl g1, fun _ => ⟨g2, ⟨e', g3⟩, g4, fun i j hi hj => ?_⟩⟩
      obtain ⟨_, u, hu, hT⟩ := g5 i j hi hj
      refine ⟨u, hu, ?_⟩
      have hl := hsc i j hi hj
      generalize f i j = y at hT hl
      cases y <;> first | exact hT | cases hl
  refine ⟨⟨fun k => if k = id then (b, c) else ρ k, ρ.base, ρ.tv, ρ.tb, ρ.tn⟩, ?_⟩
  have hρ : ∀ k, k ≠ id → (if k = id then (b, c) else ρ k) = ρ k := fun k hk => if_neg hk
  have hρA : ∀ k, k ≠ id → Rho.At ρ ⟨fun k => if k = id then (b, c) else ρ k, ρ.base, ρ.tv, ρ.tb, ρ.tn⟩ k := fun k hk => ⟨hρ k hk, rfl, rfl, rfl⟩
  have hkeep : ∀ {x : AV} {u : Value}, x.no id = true → R ρ w S x u → R ⟨fun k => if k = id then (b, c) else ρ k, ρ.base, ρ.tv, ρ.tb, ρ.tn⟩ w S x u := fun {x u} hx hr => hr.keep (ρ := ρ) (Same.refl _ _) ⟨rfl, fun q => by
    by_cases hq : q = id
    · subst hq; exact .inr hx
    · exact .inl (hρA q hq)⟩
  have hlow : Nat.blt id 1000000 = true := by have := hf.small; simpa [Nat.blt_eq] using this
  refine ⟨hs.size, hs.defers, ⟨hs.below.old, hs.below.same, fun k hk => (hs.below.ids k hk).trans (hρA k (fun e => by have := hf.small; omega))⟩, ⟨hs.mem.base, hs.mem.low, hs.mem.lt, ?_, ?_, ?_, ?_⟩, fun t' s ht' => ?_⟩
  · intro k p hp
    rcases lookup_put hp with ⟨rfl, rfl⟩ | ⟨hne, hp⟩
    · simpa [AObj.n] using hnc
    · simp only [hρ k hne]; exact hs.mem.cap k p (filter_lookup hp).2
  · intro k p hp hc
    rcases lookup_put hp with ⟨rfl, rfl⟩ | ⟨hne, hp⟩
    · simp only [if_true] at hc ⊢
      obtain ⟨g1, ⟨e', g2⟩, g3, g4⟩ := hblk hc
      obtain ⟨q1, q2, q3, _⟩ := t2 b g1
      refine ⟨cs, e', g2, g3, hnc, hcm, q1, q3, fun i j hi hj => ?_⟩
      obtain ⟨u, hu, hr⟩ := g4 i j hi hj
      exact ⟨u, hu, hkeep (hno i j) hr⟩
    · obtain ⟨f1, f2⟩ := filter_lookup hp
      obtain ⟨_, hno'⟩ := hf.heap.get f2
      simp only [hρ k hne] at hc ⊢
      obtain ⟨cs2, e2, g1, g2, g3, g4, g5, g6, g7⟩ := hs.mem.obj k p f2 hc
      refine ⟨cs2, e2, g1, g2, g3, g4, g5, g6, fun i j hi hj => ?_⟩
      obtain ⟨u, hu, hr⟩ := g7 i j hi hj
      exact ⟨u, hu, hkeep (hno'.at_ i j) hr⟩
  · intro k k' p p' hp hp' hne hc hc'
    rcases lookup_put hp with ⟨rfl, rfl⟩ | ⟨q1, hp2⟩ <;> rcases lookup_put hp' with ⟨rfl, rfl⟩ | ⟨q2, hp2'⟩
    · exact absurd rfl hne
    · simp only [if_true] at hc
      simp only [hρ k' q2] at hc'
      simp only [if_true, hρ k' q2]
      obtain ⟨g1, _⟩ := hblk hc
      exact fun e => (t2 b g1).2.2.2.1 k' p' (filter_lookup hp2').2 hc' e.symm
    · simp only [hρ k q1] at hc
      simp only [if_true] at hc'
      simp only [if_true, hρ k q1]
      obtain ⟨g1, _⟩ := hblk hc'
      exact (t2 b g1).2.2.2.1 k p (filter_lookup hp2).2 hc
    · simp only [hρ k q1] at hc
      simp only [hρ k' q2] at hc'
      simp only [hρ k q1, hρ k' q2]
      exact hs.mem.inj k k' p p' (filter_lookup hp2).2 (filter_lookup hp2').2 hne hc hc'
  · have hmn : MemOk w0.base ρ S (σ.heap.filter fun p => p.1 != K) w := hs.mem.le' fun k p hp => HLe.refl (filter_lookup hp).2
    refine hmn.treeOf (Nat.le_refl _) (fun k n' Y hY => ?_) (fun k n' Y i b' hY hi hb' => ⟨rfl, (((hmn.tree k n' Y hY i hi).2) b' hb').2.1, (((hmn.tree k n' Y hY i hi).2) b' hb').2.2.1⟩) (fun k p hp hc => ?_)
    · rcases lookup_put hY with ⟨rfl, e⟩ | ⟨hne, hY⟩
      · cases e
      · exact ⟨Y, hY, fun _ _ => rfl, rfl, rfl, rfl⟩
    · rcases lookup_put hp with ⟨rfl, rfl⟩ | ⟨hne, hp⟩
      · refine .inr fun k2 n' Y i hY hi hb' => ?_
        simp only [if_true] at hc hb'
        obtain ⟨g1, _⟩ := hblk hc
        obtain ⟨f1, f2⟩ := filter_lookup hY
        exact (t2 b g1).2.2.2.2 k2 n' Y i f2 hi (fun e => f1 e.1) hb'
      · exact .inl ⟨p, hp, hρ k hne⟩
  · rcases lookup_put ht' with ⟨rfl, rfl⟩ | ⟨_, ht2⟩
    · show ∃ B, _ = Value.slice B n (if id = id then (b, c) else ρ id).2 ∧ n ≤ (if id = id then (b, c) else ρ id).2 ∧ (if id = id then (b, c) else ρ id).2 ≤ maxLen ∧ (B = some ⟨(if id = id then (b, c) else ρ id).1, 0, none⟩ ∨ (B = none ∧ (if id = id then (b, c) else ρ id).2 = 0))
      simp only [if_true]
      exact ⟨A, e, hnc, hcm, hA⟩
    · exact (hs.env t' s ht2).keep (ρ := ρ) (Same.refl _ _) ⟨rfl, fun q => by
        by_cases hq : q = id
        · subst hq; exact .inr (List.all_eq_true.1 hf.env _ (lookup_mem ht2))
        · exact .inl (hρA q hq)⟩
theorem ARun.openRow (t K q m sz n id : Nat) (X : Nat → AV) (f : Nat → Nat → AV) (ht : σ.env.lookup t = some (.one (.tre K q))) (hK : σ.heap.lookup K = some (.trees m X)) (hq : q < m) (hX : X q = .lst sz n f)
    (hsc : ∀ i j, i < n → j < sz → (f i j).scl = true) (hno : ∀ i j, (f i j).no id = true) (hf : Fr id σ) (h : ARun P N w0 ops Q rest ⟨(t, .one (.own id sz n)) :: σ.env, (id, .arr sz n f) :: σ.heap.filter fun p => p.1 != K⟩) : ARun P N w0 ops Q rest σ := by
  intro ρ S a w Q' hQ hs
  obtain ⟨ρ', hs'⟩ := hs.openRow ht hK hq hX hsc hno hf
  exact h ρ' S a w Q' hQ hs'
theorem PureOp.takeOwn {t : TypeId} {x y : Operand} {id sz n k : Nat} {m : Int} {kd : IntKind} (ho : o.op = .slice t x none (some y) none) (hx : Kn σ x (.one (.own id sz n))) (hy : Kn σ y (.one (.int kd m))) (hm : m = (k : Int)) (hk : k ≤ n) (ht : elemB P t sz = true) : PureOp P o σ (.one (.own id sz k)) := by
  subst hm
  refine PureOp.val fun N w0 ρ S ac w hs => ?_
  obtain ⟨A, e1, h1, h2, h3⟩ := hx.sound hs
  have e2 : ac.eval y = .int kd (k : Int) := hy.sound hs
  obtain ⟨e, i, hu, hi, hsz⟩ := elemB_spec ht
  refine ⟨.slice A k (ρ id).2, ⟨A, rfl, by omega, h2, h3⟩, fun w' _ => ?_⟩
  generalize ac.eval = ev at e1 e2 ⊢
  have hle : (0 : Int) ≤ (k : Int) ∧ (k : Int) ≤ ((ρ id).2 : Int) := by omega
  simp only [execOp, ho, e1, e2, Option.map_some, Option.map_none]
  have hr : (Instr.sliceAt t (.slice A n (ρ id).2) none (some (.int kd (k : Int))) none).run P w' = .ok (.slice A k (ρ id).2) w' := by
    have hA : (if (ρ id).2 = 0 then A else A.map (·.add (0 * i.size))) = A := by
      rcases h3 with rfl | ⟨rfl, h0⟩
      · simp [Addr.add]
      · simp
    have hk2 : (k : Int) ≤ ((ρ id).2 : Int) := hle.2
    simp only [Nat.zero_mul] at hA
    simp [Instr.sliceAt, Instr.slice, run_underlying hu, Instr.sliceBounds, Instr.sliceBound, asIntOf, hk2, run_sizeOf' hi, go_sem]
    try exact hA
    try (intro hlt; omega)
  rw [Sem.run_bind, hr]
  rfl
end
section
variable {P : Program} {N : Nat} {w0 : Start} {σ : Sig} {ops : Array Oper} {rest : List Oper} {Q : Sig → Prop}
end
theorem resO {P : Program} {σ : Sig} {t id sz n m : Nat} (h : σ.env.lookup t = some (.one (.own id sz n))) (e : n = m) : ResL P σ [.tmp t] (.one (.own id sz m)) := by subst e; exact .inl ⟨_, rfl, .tmp h⟩
def stF {α : Type} (q : α → Bool) (d : α) (l : List α) : Nat → Nat → α
  | 0, a => l.getD a d
  | j + 1, a => if q (l.getD j d) = true ∧ a = cntP q l j then l.getD j d else stF q d l j a
theorem app0 {α : Type} {i : Nat} {a b : α} : (if i < 0 then a else b) = b := if_neg (Nat.not_lt_zero i)
end Go.Proofs.Ytonfeiloekofdaa

namespace Go.Proofs.Ytonfeiloekofdaa
open Go.ChangeShapes Go.WideShapes Go.ChangeAt Go.RowKit Go.BigFrame Go.Deep
set_option linter.unusedVariables false
set_option linter.unusedSimpArgs false
section
variable {P : Program} {N : Nat} {w0 : Start} {σ : Sig} {ops : Array Oper} {rest : List Oper} {o : Oper} {Q : Sig → Prop}
theorem PureOp.ext3a {x : Operand} {s u v : SV} (ho : o.op = .extract x 0) (hx : Kn σ x (.tup3 s u v)) : PureOp P o σ s := by
  refine PureOp.val fun N w0 ρ S ac w hs => ?_
  obtain ⟨a, b, c, e1, h1, h2, h3⟩ := hx.sound hs
  refine ⟨a, h1, fun w' _ => ?_⟩
  generalize ac.eval = ev at e1 ⊢
  simp [execOp, ho, e1, Instr.extract, go_sem]
theorem PureOp.ext3b {x : Operand} {s u v : SV} (ho : o.op = .extract x 1) (hx : Kn σ x (.tup3 s u v)) : PureOp P o σ u := by
  refine PureOp.val fun N w0 ρ S ac w hs => ?_
  obtain ⟨a, b, c, e1, h1, h2, h3⟩ := hx.sound hs
  refine ⟨b, h2, fun w' _ => ?_⟩
  generalize ac.eval = ev at e1 ⊢
  simp [execOp, ho, e1, Instr.extract, go_sem]
theorem PureOp.ext3c {x : Operand} {s u v : SV} (ho : o.op = .extract x 2) (hx : Kn σ x (.tup3 s u v)) : PureOp P o σ v := by
  refine PureOp.val fun N w0 ρ S ac w hs => ?_
  obtain ⟨a, b, c, e1, h1, h2, h3⟩ := hx.sound hs
  refine ⟨c, h3, fun w' _ => ?_⟩
  generalize ac.eval = ev at e1 ⊢
  simp [execOp, ho, e1, Instr.extract, go_sem]
end
end Go.Proofs.Ytonfeiloekofdaa

namespace Go.Proofs.Ytonfeiloekofdaa
open Go.ChangeShapes Go.WideShapes Go.ChangeAt Go.RowKit Go.BigFrame Go.Deep
set_option linter.unusedVariables false
set_option linter.unusedSimpArgs false
def convB (P : Program) (s t : Nat) (k : IntKind) : Bool := (P.underlying s).isSome && match P.underlying t with | some (.int k') => decide (k' = k) | _ => false
theorem convB_spec {P : Program} {s t : Nat} {k : IntKind} (h : convB P s t k = true) : (P.underlying s).isSome = true ∧ P.underlying t = some (.int k) := by
  unfold convB at h
  rw [Bool.and_eq_true] at h
  refine ⟨h.1, ?_⟩
  have h2 := h.2
  split at h2
  · rename_i k' e; rw [e, of_decide_eq_true h2]
  · cases h2
theorem PureOp.conv {P : Program} {σ : Sig} {o : Oper} {s t : TypeId} {x : Operand} {k k' : IntKind} {a b : Int} (ho : o.op = .convert s t x) (hx : Kn σ x (.one (.int k a))) (hT : convB P s t k' = true) (hb : k'.wrap a = b) : PureOp P o σ (.one (.int k' b)) := by
  refine PureOp.val fun N w0 ρ S ac w hs => ?_
  have e1 : ac.eval x = .int k a := hx.sound hs
  obtain ⟨h1, h2⟩ := convB_spec hT
  have hk : P.intKind t = k' := by simp only [Program.intKind, h2]
  refine ⟨_, rfl, fun w' _ => ?_⟩
  generalize ac.eval = ev at e1 ⊢
  simp only [execOp, ho, e1, Sem.run_bind, Result.andThen_ok]
  have := run_convert_int (P := P) w' s t k a h1 (by rw [h2, hk])
  rw [this, hk, hb]; rfl
theorem wrap_u64 {n : Int} (h1 : 0 ≤ n) (h2 : n ≤ 9223372036854775807) : IntKind.u64.wrap n = n := by rw [IntKind.wrap_u64]; omega
def cmpS (a b : ByteArray) : Int := Lib.compareBytes a.data.toList b.data.toList
end Go.Proofs.Ytonfeiloekofdaa

namespace Go.Proofs.Ytonfeiloekofdaa
open Go.ChangeShapes Go.WideShapes Go.ChangeAt Go.RowKit Go.BigFrame Go.Deep
set_option linter.unusedVariables false
set_option linter.unusedSimpArgs false
section
variable {P : Program} {σ : Sig} {o : Oper}
end
section
variable {P : Program} {N : Nat} {w0 : Start} {σ : Sig} {ops : Array Oper} {rest : List Oper} {o : Oper} {Q : Sig → Prop}
end
end Go.Proofs.Ytonfeiloekofdaa

namespace Go.Proofs.Ytonfeiloekofdaa
open Go.ChangeShapes Go.WideShapes Go.ChangeAt Go.RowKit Go.BigFrame Go.Deep
set_option linter.unusedVariables false
set_option linter.unusedSimpArgs false
section
variable {P : Program} {σ : Sig} {o : Oper}
end
section
variable {P : Program} {N : Nat} {w0 : Start} {σ : Sig} {ops : Array Oper} {rest : List Oper} {o : Oper} {Q : Sig → Prop}
end
end Go.Proofs.Ytonfeiloekofdaa

namespace Go.Proofs.Ytonfeiloekofdaa
open Go.ChangeShapes Go.WideShapes Go.ChangeAt Go.RowKit Go.BigFrame Go.Deep
set_option linter.unusedVariables false
set_option linter.unusedSimpArgs false
section
variable {P : Program} {σ : Sig} {o : Oper}
theorem FreshOp.byte1 {t e : Nat} {x : Operand} {a1 : Int} (ho : o.op = .buildSlice t 1 #[(0, x)]) (hx : Kn σ x (.one (.int .u8 a1)))
    (ht : P.underlying t = some (.slice e)) (hz : (P.info? e).map (fun i => (i.size, i.zero)) = some (1, some (.int .u8 0))) : FreshOp P o σ (.one (.frs (.lst 1 1 fun _ _ => .int .u8 a1))) := by
  constructor
  intro N w0 ρ S a w K Q' hs hK
  have e1 : a.eval x = .int .u8 a1 := hx.sound hs
  obtain ⟨i, hi, hi2⟩ := Option.map_eq_some_iff.1 hz
  simp only [Prod.mk.injEq] at hi2
  obtain ⟨z1, z2⟩ := hi2
  have er : (execOp a.eval o).run P w = .ok (.value (.slice (some ⟨w.heap.size, 0, none⟩) 1 1)) (w.alloc (.cells #[.int .u8 a1] e)) := by
    generalize a.eval = ev at e1 ⊢
    simp [execOp, ho, Instr.buildSlice, run_underlying ht, sizeOf, typeInfo, hi, z1, z2, zeroValue, e1, go_sem]
  unfold Oper.wp
  rw [er]
  have hb : Below w.heap.size w (w.alloc (.cells #[.int .u8 a1] e)) := (Below.refl _ _).alloc (Nat.le_refl _) _
  obtain ⟨g1, g2⟩ := hs.grow hb
  have hlt : ρ.base ≤ w.heap.size := by rw [hs.mem.base]; exact hs.mem.low
  refine hK _ _ _ g1 hb (fun b h => h.imp (fun h => h) (fun h => h.1)) g2 ⟨_, _, rfl, Nat.le_refl _, by decide, (fun h => by cases h), fun j hj => ⟨w.heap.size, 0, rfl, ⟨.inr ⟨Nat.le_refl _, by rw [World.heap_alloc, Array.size_push]; omega⟩, hlt⟩, fun q hq => ?_⟩⟩
  obtain rfl : q = 0 := by omega
  obtain rfl : j = 0 := by omega
  exact ⟨.int .u8 a1, by simp [World.cell?, World.heap_alloc], rfl⟩
theorem PureOp.byteStr {s t e : Nat} {x : Operand} {f : Nat → Nat → AV} {c : UInt8} (ho : o.op = .convert s t x) (hx : Kn σ x (.one (.lst 1 1 f))) (hf : f 0 0 = .int .u8 (c.toNat : Int))
    (hs : P.underlying s = some (.slice e)) (he : P.underlying e = some (.int .u8)) (hd : P.underlying t = some .string) : PureOp P o σ (.one (.str ⟨#[c]⟩)) := by
  refine PureOp.val fun N w0 ρ S ac w hst => ?_
  obtain ⟨A, cc, e1, h1, h2, h3, h4⟩ := hx.sound hst
  obtain ⟨b, off, hA, hS, hc⟩ := h4 0 (by omega)
  obtain ⟨u, hu, hr⟩ := hc 0 (by omega)
  rw [hf] at hr
  subst hA
  refine ⟨.string ⟨#[c]⟩, ⟨rfl, by have h1 : (⟨#[c]⟩ : ByteArray).size = 1 := rfl
                                   unfold maxLen; omega⟩, fun w' hb => ?_⟩
  have hu' := ((hst.mem.same hb).cell hS).trans hu
  have hr' : u = .int .u8 (c.toNat : Int) := hr
  subst hr'
  have h := run_convert_bytes_back (P := P) w' s t e ⟨b, off, none⟩ cc [c] hs he hd (fun j hj => by
    have hj0 : j = 0 := by simpa using hj
    subst hj0
    rw [show (⟨b, off, none⟩ : Addr).add 0 = ⟨b, off, none⟩ from rfl]
    simpa using hu')
  generalize ac.eval = ev at e1 ⊢
  simp only [execOp, ho, e1, Sem.run_bind]
  simp only [List.length_singleton] at h
  rw [h]
  rfl
end
end Go.Proofs.Ytonfeiloekofdaa

namespace Go.Proofs.Ytonfeiloekofdaa
open Go.ChangeShapes Go.WideShapes Go.ChangeAt Go.RowKit Go.Deep
set_option linter.unusedVariables false
theorem own : ownKnob Try.prog.godebug = none := by kernel_rfl
theorem laidOut : laidOutB Try.prog = true := by kernel_rfl
section
variable {H : Type} {enc : TypeId × Value → H} {P : Program}
theorem trodAll_stays {W W' : World} {sp : Nat → Bool} (hl : laidOutB P = true) : ∀ {ts : List TypeId} {vs : List Value} {ds : List (DataW H)} {ps : List MemPlace}, (ts.all fun t => P.readableRec t && decide (t < P.types.size)) = true →
    DataW.TrodAll enc P W 0 (fun _ => true) true ts vs ds ps → (∀ p ∈ ps, W.sameAt W' p) → (∀ p ∈ ps, sp p.block = true) → DataW.TrodAll enc P W' 0 sp true ts vs ds ps := by
  intro ts
  induction ts with
  | nil =>
    intro vs ds ps _ h _ _
    cases vs <;> cases ds <;> first | exact h | exact h.elim
  | cons t ts ih =>
    intro vs ds ps ht h hs hsp
    cases vs with
    | nil => cases ds <;> exact h.elim
    | cons v vs =>
      cases ds with
      | nil => exact h.elim
      | cons d ds =>
        obtain ⟨p, q, h1, h2, rfl⟩ := h
        simp only [List.all_cons, Bool.and_eq_true, decide_eq_true_eq] at ht
        exact ⟨p, q, WideElems.Trod_stays hl ht.1.1 ht.1.2 h1 (fun x hx => hs x (List.mem_append_left _ hx)) (fun x hx => hsp x (List.mem_append_left _ hx)),
          ih ht.2 h2 (fun x hx => hs x (List.mem_append_right _ hx)) (fun x hx => hsp x (List.mem_append_right _ hx)), rfl⟩
theorem law_post {f : Func} {s : ChangeSpec} {W W' : World} {args : Array Value} {ds gs : List (DataW H)} {before : List MemPlace} {tb : TypeId}
    (hW : DataW.Whole enc P f.params.toList s.vars false W args.toList ds gs before) (hvars : s.vars = []) (hl : laidOutB P = true) (hts : (f.params.toList.all fun t => P.readableRec t && decide (t < P.types.size)) = true)
    (hb : Below W.heap.size W W') (hfn : s.fn H (ds ++ gs) = { results := [.lit (.bool true)], args := ds }) (hrt : f.resultTypes = #[tb]) (hu : P.underlying tb = some .bool) :
    s.post enc P f false true false false W args (.bool true) W' := by
  have hlt : ∀ p ∈ before, p.block < W.heap.size := fun p hp => hW.lt p hp
  have hW' := hW
  obtain ⟨p, q, hA, hV, rfl, hz, hn⟩ := hW
  rw [hvars] at hV
  have hV' := hV
  obtain ⟨rfl, rfl⟩ := trodVars_none hV
  have hargs : ∀ sp : Nat → Bool, (∀ x ∈ p ++ [], sp x.block = true) → DataW.TrodAll enc P W' 0 sp true f.params.toList args.toList (s.fn H (ds ++ [])).args p := fun sp hsp => by
    rw [hfn]
    exact trodAll_stays hl hts hA (fun x hx => hb.same (hlt x (by simpa using hx))) (fun x hx => hsp x (by simpa using hx))
  have hvs : ∀ sp : Nat → Bool, DataW.TrodVars enc P W' sp s.vars (s.fn H (ds ++ [])).vars [] := fun sp => by
    rw [hvars, hfn]
    rfl
  have hres : ∀ (b : Nat) (sp : Nat → Bool) (hd : Bool), DataW.TrodAll enc P W' b sp hd f.resultTypes.toList ((Value.bool true).resultList f.resultTypes.size) (s.fn H (ds ++ [])).results [] := fun b sp hd => by
    rw [hfn, hrt]
    exact trodAll_cons_mk (shut_bool hu _) trodAll_mk0
  have hold : ∀ x ∈ p ++ [], (fun b => decide (b < W.heap.size)) x.block = true := fun x hx => by simpa using hlt x hx
  refine ⟨ds, [], p ++ [], [], p, [], hW', hres _ _ _, hargs _ hold, hvs _, World.keptBut_mono (fun x hx => ⟨hx, ?_⟩) (hb.frame (· ∈ p ++ [])), fun h => by cases h⟩
  exact Or.inr (by simpa using hx)
def Opens (P : Program) (t : TypeId) (α : Type) [Rep α] : Prop :=
  ∀ (H : Type) (enc : TypeId × Value → H) (w : World) (fuel : Nat) (cs : List Value) (x : DataW H × List MemPlace), DataW.trod enc P w 0 (fun _ => true) true fuel t cs = some x → ∃ a : α, Rep.rep w (· < w.heap.size) a cs
theorem i64_of_wf {n : Int} (h : (Lit.int .i64 n).wf = true) : I64 n := by
  simpa [Lit.wf, IntKind.min, IntKind.max, IntKind.signed, IntKind.bits, I64] using h
theorem Opens.int {t : TypeId} (ht : P.underlying t = some (.int .i64)) : Opens P t Int := fun _ _ _ _ _ _ h => by
  obtain ⟨n, rfl, _, hw⟩ := DataW.trod_int ht h
  exact ⟨n, rfl, i64_of_wf hw⟩
theorem Opens.bool {t : TypeId} (ht : P.underlying t = some .bool) : Opens P t Bool := fun _ _ _ _ _ _ h => by
  obtain ⟨n, rfl, _⟩ := DataW.trod_bool ht h
  exact ⟨n, rfl, trivial⟩
theorem Opens.string {t : TypeId} (ht : P.underlying t = some .string) : Opens P t ByteArray := fun _ _ _ _ _ _ h => by
  obtain ⟨s, rfl, _, hs⟩ := DataW.trod_string ht h
  exact ⟨s, rfl, hs⟩
theorem list_of_fun {α : Type} (f : Nat → Option α) (len : Nat) (hf : ∀ i, i < len → ∃ y, f i = some y) : ∃ l : List α, l.length = len ∧ ∀ i (h : i < l.length), f i = some l[i] := by
  induction len with
  | zero => exact ⟨[], rfl, fun i h => absurd h (by simp)⟩
  | succ k ih =>
    obtain ⟨l, hl, hl2⟩ := ih (fun i hi => hf i (by omega))
    obtain ⟨y, hy⟩ := hf k (by omega)
    refine ⟨l ++ [y], by simp [hl], fun i h => ?_⟩
    by_cases hik : i < l.length
    · rw [List.getElem_append_left hik]; exact hl2 i hik
    · have : i = l.length := by simp at h; omega
      subst this
      rw [List.getElem_append_right (Nat.le_refl _)]
      simp [hl, hy]
theorem Opens.slice {α : Type} [Rep α] {t e : TypeId} (ht : P.underlying t = some (.slice e)) (hC : P.cellsOf e = Rep.size α) (hp : 0 < Rep.size α) (he : Opens P e α) : Opens P t (List α) := fun H enc w fuel cs x h => by
  rcases open_slice ht h with ⟨rfl, _⟩ | ⟨a, len, cap, m, n, D, Pl, rfl, _, hl, hm, hmm, _, hi⟩
  · exact ⟨[], none, 0, rfl, Nat.le_refl _, by simp [maxLen], fun _ => rfl, fun i hi => absurd hi (by simp)⟩
  · have hlm : len ≤ m := by rw [hmm]; simpa using hl
    have hx : ∀ i, i < len → ∃ (y : α) (xs : List Value), Rep.rep w (· < w.heap.size) y xs ∧ xs.length = Rep.size α ∧ ∀ j, j < Rep.size α → w.cell? (a.add (i * Rep.size α + j)) = xs[j]? := fun i hil => by
      obtain ⟨cs', hc, ht'⟩ := hi i (by omega)
      rw [hC] at hc
      obtain ⟨_, hcl, hat⟩ := World.cells?_some hc
      obtain ⟨y, hy⟩ := he H enc w n cs' _ ht'
      exact ⟨y, cs', hy, hcl, fun j hj => by rw [← hat j hj, add_add]⟩
    have hch : ∃ f : Nat → Option α, ∀ i, i < len → ∃ (y : α) (xs : List Value), f i = some y ∧ Rep.rep w (· < w.heap.size) y xs ∧ xs.length = Rep.size α ∧ ∀ j, j < Rep.size α → w.cell? (a.add (i * Rep.size α + j)) = xs[j]? := by
      classical
      refine ⟨fun i => if hil : i < len then some (hx i hil).choose else none, fun i hil => ⟨(hx i hil).choose, (hx i hil).choose_spec.choose, by simp [hil], (hx i hil).choose_spec.choose_spec⟩⟩
    obtain ⟨f, hf⟩ := hch
    have hlist := list_of_fun f len fun i hil => let ⟨y, _, hy, _⟩ := hf i hil; ⟨y, hy⟩
    obtain ⟨l, hl1, hl2⟩ := hlist
    subst hl1
    refine ⟨l, some a, cap, rfl, hl, hm, (fun e => by cases e), fun i hil => ?_⟩
    obtain ⟨y, xs, hy, hr, hxl, hc⟩ := hf i hil
    rw [hl2 i hil] at hy
    obtain rfl := Option.some.inj hy
    have hspot : a.spot = none := by
      obtain ⟨y, xs, _, _, hxl, hc⟩ := hf 0 (by omega)
      have h0 := hc 0 hp
      rw [List.getElem?_eq_getElem (by omega)] at h0
      simp only [Nat.zero_mul, Nat.add_zero] at h0
      have e : a.add 0 = a := rfl
      rw [e] at h0
      unfold World.cell? at h0
      split at h0
      · split at h0
        · cases h0
        · rename_i hs; simpa using hs
      · cases h0
    obtain ⟨b, off, sp⟩ := a
    obtain rfl : sp = none := hspot
    have h0 := hc 0 hp
    rw [List.getElem?_eq_getElem (by omega), Addr.add_lit] at h0
    refine ⟨b, off, xs, rfl, World.block_lt_of_cell? w _ h0, fun j u hu => ?_, hr⟩
    have hj : j < Rep.size α := by rw [← hxl]; exact (List.getElem?_eq_some_iff.1 hu).1
    rw [← hu, ← hc j hj, Addr.add_lit]
theorem Opens.arg {α : Type} [Rep α] {t : TypeId} (h : Opens P t (List α)) {W : World} {v : Value} {d : DataW H} {p : List MemPlace} (hv : ∃ a n c, v = .slice a n c) (ht : DataW.Trod enc P W 0 (fun _ => true) true t v d p) :
    ∃ (l : List α) (A : Option Addr) (n c : Nat), v = .slice A n c ∧ RepL W (· < W.heap.size) l A n c := by
  obtain ⟨fuel, hf⟩ := ht
  obtain ⟨a, n, c, rfl⟩ := hv
  obtain ⟨l, hl⟩ := h H enc W fuel _ _ hf
  have hl' := hl
  obtain ⟨A, c', e, h1, h2, h4, h3⟩ := hl'
  simp only [Value.cells, List.cons.injEq, Value.slice.injEq, and_true] at e
  obtain ⟨rfl, rfl, rfl⟩ := e
  exact ⟨l, a, _, c, rfl, rfl, hl⟩
end
end Go.Proofs.Ytonfeiloekofdaa

namespace Go.Proofs.Ytonfeiloekofdaa
open Go.ChangeShapes Go.WideShapes Go.ChangeAt Go.RowKit Go.BigFrame Go.Deep
set_option linter.unusedVariables false
set_option linter.unusedSimpArgs false
section
variable {P : Program}
def OpensC (P : Program) (t : TypeId) {α : Type} (enc : α → List AV) : Prop :=
  ∀ (H : Type) (eh : TypeId × Value → H) (w : World) (fuel : Nat) (cs : List Value) (x : DataW H × List MemPlace), DataW.trod eh P w 0 (fun _ => true) true fuel t cs = some x → ∃ a : α, DL w (· < w.heap.size) (enc a) cs
theorem OpensC.int {t : TypeId} (ht : P.underlying t = some (.int .i64)) : OpensC P t (fun n : Int => [.int .i64 n]) := fun _ _ _ _ _ _ h => by
  obtain ⟨n, rfl, _, hw⟩ := DataW.trod_int ht h
  exact ⟨n, _, _, rfl, rfl, rfl⟩
theorem OpensC.bool {t : TypeId} (ht : P.underlying t = some .bool) : OpensC P t (fun b : Bool => [.bool b]) := fun _ _ _ _ _ _ h => by
  obtain ⟨n, rfl, _⟩ := DataW.trod_bool ht h
  exact ⟨n, _, _, rfl, rfl, rfl⟩
theorem OpensC.string {t : TypeId} (ht : P.underlying t = some .string) : OpensC P t (fun s : ByteArray => [.str s]) := fun _ _ _ _ _ _ h => by
  obtain ⟨s, rfl, _, hs⟩ := DataW.trod_string ht h
  exact ⟨s, _, _, rfl, ⟨rfl, hs⟩, rfl⟩
theorem DL.len {w : World} {S : Nat → Prop} : ∀ {l : List AV} {us : List Value}, DL w S l us → us.length = l.length
  | [], us, h => by rw [show us = [] from h]; rfl
  | _ :: _, _, ⟨_, _, e, _, h2⟩ => by rw [e]; simp [DL.len h2]
theorem DL.get {w : World} {S : Nat → Prop} : ∀ {l : List AV} {us : List Value}, DL w S l us → ∀ {j : Nat} {x : AV}, l[j]? = some x → ∃ u, us[j]? = some u ∧ D w S x u
  | [], _, _, j, x, hx => by simp at hx
  | y :: l, _, ⟨u, us, e, h1, h2⟩, j, x, hx => by
    subst e
    cases j with
    | zero => simp at hx; subst hx; exact ⟨u, rfl, h1⟩
    | succ j => simp at hx ⊢; exact DL.get h2 hx
theorem DL.append {w : World} {S : Nat → Prop} : ∀ {l m : List AV} {us vs : List Value}, DL w S l us → DL w S m vs → DL w S (l ++ m) (us ++ vs)
  | [], _, us, _, h, k => by rw [show us = [] from h]; exact k
  | _ :: _, _, _, _, ⟨u, us, e, h1, h2⟩, k => ⟨u, _, by rw [e]; rfl, h1, DL.append h2 k⟩
theorem DL.part {w : World} {S : Nat → Prop} {l m : List AV} {cs : List Value} {o s : Nat} (h : DL w S l ((cs.drop o).take s)) (k : DL w S m (cs.drop (o + s))) : DL w S (l ++ m) (cs.drop o) := by
  have := DL.append h k
  rwa [← List.drop_drop, List.take_append_drop] at this
theorem OpensC.slice {α : Type} {t e : TypeId} {sz : Nat} {en : α → List AV} {f : List α → Nat → Nat → AV} (d : α) (ht : P.underlying t = some (.slice e)) (hC : P.cellsOf e = sz) (hp : 0 < sz) (he : OpensC P e en) (hlen : ∀ a, (en a).length = sz)
    (hf : ∀ l i j, i < l.length → j < sz → f l i j = (en (l.getD i d)).getD j (.con undef)) : OpensC P t (fun l : List α => [.lst sz l.length (f l)]) := fun H eh w fuel cs x h => by
  rcases open_slice ht h with ⟨rfl, _⟩ | ⟨a, len, cap, m, n, D, Pl, rfl, _, hl, hm, hmm, _, hi⟩
  · exact ⟨[], _, _, rfl, ⟨none, 0, rfl, Nat.le_refl _, by simp [maxLen], fun _ => rfl, fun i hi => absurd hi (by simp)⟩, rfl⟩
  · have hlm : len ≤ m := by rw [hmm]; simpa using hl
    have hx : ∀ i, i < len → ∃ (y : α) (xs : List Value), DL w (· < w.heap.size) (en y) xs ∧ ∀ j, j < sz → w.cell? (a.add (i * sz + j)) = xs[j]? := fun i hil => by
      obtain ⟨cs', hc, ht'⟩ := hi i (by omega)
      rw [hC] at hc
      obtain ⟨_, hcl, hat⟩ := World.cells?_some hc
      obtain ⟨y, hy⟩ := he H eh w n cs' _ ht'
      exact ⟨y, cs', hy, fun j hj => by rw [← hat j hj, add_add]⟩
    have hch : ∃ g : Nat → Option α, ∀ i, i < len → ∃ (y : α) (xs : List Value), g i = some y ∧ DL w (· < w.heap.size) (en y) xs ∧ ∀ j, j < sz → w.cell? (a.add (i * sz + j)) = xs[j]? := by
      classical
      refine ⟨fun i => if hil : i < len then some (hx i hil).choose else none, fun i hil => ⟨(hx i hil).choose, (hx i hil).choose_spec.choose, by simp [hil], (hx i hil).choose_spec.choose_spec⟩⟩
    obtain ⟨g, hg⟩ := hch
    obtain ⟨l, hl1, hl2⟩ := list_of_fun g len fun i hil => let ⟨y, _, hy, _⟩ := hg i hil; ⟨y, hy⟩
    subst hl1
    have hspot : 0 < l.length → a.spot = none := fun h0l => by
      obtain ⟨y, xs, _, hr, hc⟩ := hg 0 h0l
      have h0 := hc 0 hp
      have hxl : xs.length = sz := by rw [hr.len, hlen]
      rw [List.getElem?_eq_getElem (by omega)] at h0
      simp only [Nat.zero_mul, Nat.add_zero] at h0
      have e : a.add 0 = a := rfl
      rw [e] at h0
      unfold World.cell? at h0
      split at h0
      · split at h0
        · cases h0
        · rename_i hs; simpa using hs
      · cases h0
    refine ⟨l, _, _, rfl, ⟨some a, cap, rfl, hl, hm, (fun e => by cases e), fun i hil => ?_⟩, rfl⟩
    obtain ⟨y, xs, hy, hr, hc⟩ := hg i hil
    have hsp := hspot (by omega)
    obtain ⟨b, off, sp⟩ := a
    obtain rfl : sp = none := hsp
    rw [hl2 i hil] at hy
    obtain rfl := Option.some.inj hy
    have hxl : xs.length = sz := by rw [hr.len, hlen]
    have h0 := hc 0 hp
    rw [List.getElem?_eq_getElem (by omega), Addr.add_lit] at h0
    refine ⟨b, off, rfl, World.block_lt_of_cell? w _ h0, fun j hj => ?_⟩
    have hget : l.getD i d = l[i] := by rw [List.getD_eq_getElem?_getD, List.getElem?_eq_getElem hil]; rfl
    have hjl : j < (en l[i]).length := by rw [hlen]; exact hj
    obtain ⟨u, hu, hd⟩ := hr.get (List.getElem?_eq_getElem hjl)
    refine ⟨u, ?_, ?_⟩
    · have := hc j hj
      rw [Addr.add_lit, hu] at this
      exact this
    · rw [hf l i j hil hj, hget, List.getD_eq_getElem?_getD, List.getElem?_eq_getElem hjl]
      exact hd
theorem OpensC.arg {H : Type} {eh : TypeId × Value → H} {t : TypeId} {α : Type} {en : α → List AV} (h : OpensC P t en) {W : World} {v : Value} {d : DataW H} {p : List MemPlace} (ht : DataW.Trod eh P W 0 (fun _ => true) true t v d p) : ∃ a, DL W (· < W.heap.size) (en a) v.cells.toList := by
  obtain ⟨fuel, hf⟩ := ht
  exact h H eh W fuel _ _ hf
theorem DS.one_of {w : World} {S : Nat → Prop} {x : AV} {v : Value} (hv : v.cells = #[v]) (h : DL w S [x] v.cells.toList) : DS w S (.one x) v := by
  obtain ⟨u, us, e, h1, h2⟩ := h
  rw [hv] at e
  simp at e
  rw [e.1]; exact h1
end
end Go.Proofs.Ytonfeiloekofdaa

namespace Go.Proofs.Ytonfeiloekofdaa
open Go.ChangeShapes Go.WideShapes Go.ChangeAt Go.RowKit Go.BigFrame Go.Deep
set_option linter.unusedVariables false
set_option linter.unusedSimpArgs false
section
variable {P : Program} {σ : Sig} {o : Oper}
theorem PureOp.shr40 {t t' : TypeId} {x y : Operand} {k : IntKind} {a : Nat} (ho : o.op = .binOp .shr t x y t') (hx : Kn σ x (.one (.int .u64 (a : Int)))) (hy : Kn σ y (.one (.int k 40))) : PureOp P o σ (.one (.int .u64 ((a / 1099511627776 : Nat) : Int))) := by
  refine PureOp.val fun N w0 ρ S ac w hs => ?_
  have e1 : ac.eval x = .int .u64 (a : Int) := hx.sound hs
  have e2 : ac.eval y = .int k 40 := hy.sound hs
  refine ⟨_, rfl, fun w' _ => ?_⟩
  generalize ac.eval = ev at e1 e2 ⊢
  simp only [execOp, ho, e1, e2, Sem.run_bind, eqGuard_int, Result.andThen_ok, binOp_shr]
  rw [shift_shr_u64 k (a : Int) 40 (by decide) (by decide)]
  simp [go_sem]
theorem and_255 {x : Int} (h₀ : 0 ≤ x) (h₁ : x < 18446744073709551616) : bits .and .u64 x 255 = x % 256 := bits_mask .u64 64 (by decide) (fun n h0 h1 => by rw [IntKind.wrap_u64]; omega) 8 (by decide) x h₀ h₁
theorem PureOp.and255 {t t' : TypeId} {x y : Operand} {a : Nat} (ho : o.op = .binOp .and t x y t') (hx : Kn σ x (.one (.int .u64 (a : Int)))) (hy : Kn σ y (.one (.int .u64 255))) (ha : a < 18446744073709551616) : PureOp P o σ (.one (.int .u64 ((a % 256 : Nat) : Int))) := by
  refine PureOp.val fun N w0 ρ S ac w hs => ?_
  have e1 : ac.eval x = .int .u64 (a : Int) := hx.sound hs
  have e2 : ac.eval y = .int .u64 255 := hy.sound hs
  refine ⟨_, rfl, fun w' _ => ?_⟩
  generalize ac.eval = ev at e1 e2 ⊢
  simp only [execOp, ho, e1, e2, Sem.run_bind, eqGuard_int, Result.andThen_ok, binOp_and, intBits_and]
  rw [and_255 (by omega) (by omega)]
  rfl
theorem PureOp.mulU {t t' : TypeId} {x y : Operand} {a b c : Int} (ho : o.op = .binOp .mul t x y t') (hx : Kn σ x (.one (.int .u64 a))) (hy : Kn σ y (.one (.int .u64 b))) (hc : IntKind.u64.wrap (a * b) = c) : PureOp P o σ (.one (.int .u64 c)) := by
  subst hc; exact PureOp.intOp ho hx hy rfl
theorem PureOp.addU {t t' : TypeId} {x y : Operand} {a b c : Int} (ho : o.op = .binOp .add t x y t') (hx : Kn σ x (.one (.int .u64 a))) (hy : Kn σ y (.one (.int .u64 b))) (hc : IntKind.u64.wrap (a + b) = c) : PureOp P o σ (.one (.int .u64 c)) := by
  subst hc; exact PureOp.intOp ho hx hy rfl
end
abbrev curO (c : Value) (n : Nat) (F : Nat → Nat) (p s : Nat) : AObj := .cells [.cv c (.lst 1 n fun i _ => .int .u8 ((F i : Nat) : Int)), .int .i64 (p : Int), .int .u64 (s : Int)]
structure CurOk (p k p' s' : Nat) : Prop where
  ge : p ≤ p'
  le : p' ≤ p + k
  sd : s' < 18446744073709551616
theorem CurOk.gd {p k p' s s' : Nat} {b : Bool} (hs : s < 18446744073709551616) (h1 : b = true → CurOk p k p' s') (h2 : b = false → p' = p ∧ s' = s) : CurOk p k p' s' := by
  cases b with
  | true => exact h1 rfl
  | false => obtain ⟨rfl, rfl⟩ := h2 rfl; exact ⟨Nat.le_refl _, Nat.le_add_right _ _, hs⟩
def FnC (P : Program) (f : FuncId) (n : Nat) (F : Nat → Nat) (args : List SV) (p s : Nat) {X : Type} (φ : X → Nat → Nat → Prop) (r : X → SV) : Prop :=
  ∀ (c : Value) (ρ : Rho) (S : Nat → Prop) (w : World) (vs : List Value), MemOk ρ.base ρ S [(1000000, curO c n F p s)] w → Pre ρ.base w → RSs ρ w S (.one (.ptr 1000000 3 0 0) :: args) vs →
    Calls P f vs.toArray w fun e w' => ∃ x p' s' v, φ x p' s' ∧ e = .returned v ∧ Below ρ.base w w' ∧ Same S w S w' ∧ MemOk ρ.base ρ S [(1000000, curO c n F p' s')] w' ∧ DR w' (newS w w') (r x) v
def FnE (P : Program) (f : FuncId) (args : List SV) {X : Type} (φ : X → Prop) (r : X → SV) : Prop :=
  ∀ (w : World) (S : Nat → Prop) (vs : List Value), Rd S w → DSs w S args vs → Calls P f vs.toArray w fun e w' => ∃ x v, φ x ∧ e = .returned v ∧ DR w' (newS w w') (r x) v ∧ Below w.heap.size w w'
inductive Fw (H : Heap) : AV → AV → Prop
  | int {k : IntKind} {n : Int} : Fw H (.int k n) (.int k n)
  | bool {b : Bool} : Fw H (.bool b) (.bool b)
  | str {s : ByteArray} : Fw H (.str s) (.str s)
  | cnil {sz : Nat} {g : Nat → Nat → AV} : Fw H (.con (.slice none 0 0)) (.lst sz 0 g)
  | own {id sz n : Nat} {g : Nat → Nat → AV} {o : AObj} : (id == 1000000) = false → H.lookup id = some o → o.sz = sz → n ≤ o.n → (∀ i j, i < n → j < sz → Fw H (o.f i j) (g i j)) → Fw H (.own id sz n) (.lst sz n g)
  | tre {id i n : Nat} {X : Nat → AV} : H.lookup id = some (.trees n X) → i < n → Fw H (.tre id i) (X i)
theorem Fw.sound {B L hb : Nat} {ρ : Rho} {S : Nat → Prop} {H : Heap} {w : World} {o0 : AObj} (hm : MemOk B ρ S H w) (hS : ∀ b, b < L → b ≠ hb → S b) (h0 : H.lookup 1000000 = some o0) (hn0 : 0 < o0.n) (h1 : (ρ 1000000).1 = hb) {x y : AV} (h : Fw H x y) : ∀ {v : Value}, R ρ w S x v → D w (freshTo L w) y v := by
  induction h with
  | int => exact fun h => h
  | bool => exact fun h => h
  | str => exact fun h => h
  | cnil =>
    intro v hv
    have e : v = Value.slice none 0 0 := hv
    exact ⟨none, 0, e, Nat.le_refl _, by decide, fun _ => rfl, fun i hi => absurd hi (by omega)⟩
  | @tre id i n X hX hi =>
    intro v hv
    obtain ⟨e, _⟩ := hv
    rw [e]
    obtain ⟨t1, t2⟩ := hm.tree id n X hX i hi
    refine t1.d fun b hb' => ?_
    obtain ⟨q1, q2, q3, q4, _⟩ := t2 b hb'
    have hne : b ≠ hb := fun e => q4 1000000 o0 h0 (hm.pos h0 hn0) (h1.trans e.symm)
    refine ⟨?_, q2⟩
    rcases Nat.lt_or_ge b L with h | h
    · exact absurd (hS b h hne) q3
    · exact h
  | @own id sz n g o hid ho hsz hn _ ih =>
    intro v hv
    subst hsz
    obtain ⟨A, hv, hn1, hn2, hA⟩ := hv
    refine ⟨A, _, hv, hn1, hn2, (fun e => by rcases hA with h | ⟨_, h⟩; (· rw [h] at e; cases e); (· exact h)), fun i hi => ?_⟩
    have hc : (ρ id).2 ≠ 0 := by omega
    have hlt := hm.blk ho hc
    obtain ⟨cs, e, k1, k2, k3, k4, k5, k6, k7⟩ := hm.obj id o ho hc
    have hne : (ρ id).1 ≠ hb := by
      rw [← h1]
      exact hm.inj id 1000000 o o0 ho h0 (by simpa using hid) hc (hm.pos h0 hn0)
    have hL : L ≤ (ρ id).1 := by
      rcases Nat.lt_or_ge (ρ id).1 L with h | h
      · exact absurd (hS _ h hne) k6
      · exact h
    refine ⟨(ρ id).1, 0, by rcases hA with h | ⟨_, h⟩; (· exact h); (· exact absurd h hc), ⟨hL, hlt⟩, fun j hj => ?_⟩
    obtain ⟨u, hu, hr⟩ := k7 i j (by omega) hj
    refine ⟨u, ?_, ih i j hi hj hr⟩
    simp [World.cell?, k1, hu]
def FwL (H : Heap) : List AV → List AV → Prop
  | [], [] => True
  | x :: l, y :: m => Fw H x y ∧ FwL H l m
  | _, _ => False
def FwS (H : Heap) : SV → SV → Prop
  | .one x, .one y => Fw H x y
  | .agg l, .agg m => FwL H l m
  | .tup2 (.one a) (.one b), .tup2 (.one c) (.one d) => Fw H a c ∧ Fw H b d
  | .tup3 (.one a) (.one b) (.one e), .tup3 (.one c) (.one d) (.one f) => Fw H a c ∧ Fw H b d ∧ Fw H e f
  | _, _ => False
theorem FwL.sound {B L hb : Nat} {ρ : Rho} {S : Nat → Prop} {H : Heap} {w : World} {o0 : AObj} (hm : MemOk B ρ S H w) (hS : ∀ b, b < L → b ≠ hb → S b) (h0 : H.lookup 1000000 = some o0) (hn0 : 0 < o0.n) (h1 : (ρ 1000000).1 = hb) : ∀ {l m : List AV} {us : List Value}, FwL H l m → RL ρ w S l us → DL w (freshTo L w) m us
  | [], [], _, _, h => h
  | _ :: _, _ :: _, _, ⟨g1, g2⟩, ⟨u, us, e, k1, k2⟩ => ⟨u, us, e, g1.sound hm hS h0 hn0 h1 k1, FwL.sound hm hS h0 hn0 h1 g2 k2⟩
  | [], _ :: _, _, h, _ => h.elim
  | _ :: _, [], _, h, _ => h.elim
theorem FwS.sound {B L hb : Nat} {ρ : Rho} {S : Nat → Prop} {H : Heap} {w : World} {o0 : AObj} (hm : MemOk B ρ S H w) (hS : ∀ b, b < L → b ≠ hb → S b) (h0 : H.lookup 1000000 = some o0) (hn0 : 0 < o0.n) (h1 : (ρ 1000000).1 = hb) {s t : SV} {v : Value} (h : FwS H s t) (hr : RS ρ w S s v) : DR w (freshTo L w) t v := by
  unfold FwS at h
  split at h
  · exact h.sound hm hS h0 hn0 h1 hr
  · obtain ⟨us, e, hl⟩ := hr
    exact ⟨us, e, FwL.sound hm hS h0 hn0 h1 h hl⟩
  · obtain ⟨a, b, e, g1, g2⟩ := hr
    exact ⟨a, b, e, h.1.sound hm hS h0 hn0 h1 g1, h.2.sound hm hS h0 hn0 h1 g2⟩
  · obtain ⟨a, b, c, e, g1, g2, g3⟩ := hr
    exact ⟨a, b, c, e, h.1.sound hm hS h0 hn0 h1 g1, h.2.1.sound hm hS h0 hn0 h1 g2, h.2.2.sound hm hS h0 hn0 h1 g3⟩
  · exact h.elim
def RetC (P : Program) (fn : Func) (c : Value) (n : Nat) (F : Nat → Nat) {X : Type} (φ : X → Nat → Nat → Prop) (r : X → SV) : Exit → Sig → Prop
  | .ret, σ => ∃ x p' s' t, φ x p' s' ∧ ResL P σ fn.results.toList t ∧ FwS σ.heap t (r x) ∧ σ.heap.lookup 1000000 = some (curO c n F p' s')
  | .normal, σ => ∃ x p' s' t, φ x p' s' ∧ ResL P σ fn.results.toList t ∧ FwS σ.heap t (r x) ∧ σ.heap.lookup 1000000 = some (curO c n F p' s')
  | _, _ => False
theorem FnC.of_body {P : Program} {f : FuncId} {fn : Func} {b : Code} {n : Nat} {F : Nat → Nat} {args : List SV} {p s : Nat} {X : Type} {φ : X → Nat → Nat → Prop} {r : X → SV} (hf : P.funcs[f]? = some fn) (hb : fn.body = some b) (hle : args.length + 1 ≤ fn.ntmps)
    (h : ∀ w0 c, AW P fn.ntmps w0 b (RetC P fn c n F φ r) ⟨enumE 0 (.one (.ptr 1000000 3 0 0) :: args), [(1000000, curO c n F p s)]⟩) : FnC P f n F args p s φ r := by
  intro c ρ0 S w vs hm hpre hd
  have hl := hd.len
  have hlk : ([(1000000, curO c n F p s)] : Heap).lookup 1000000 = some (curO c n F p s) := by simp
  have hpos : (ρ0 1000000).2 ≠ 0 := hm.pos hlk (i := 0) Nat.zero_lt_one
  obtain ⟨cs0, e0, k1, k2, k3, k4, k5, k6, k7⟩ := hm.obj _ _ hlk hpos
  obtain ⟨u0, hu0, hr0⟩ := k7 0 0 Nat.zero_lt_one (Nat.zero_lt_succ 2)
  have hcv : u0 = c ∧ D w S (.lst 1 n fun i _ => .int .u8 ((F i : Nat) : Int)) c := by
    have hr0 : u0 = c ∧ D w S (.lst 1 n fun i _ => .int .u8 ((F i : Nat) : Int)) u0 := hr0
    exact ⟨hr0.1, hr0.1 ▸ hr0.2⟩
  let S0 : Nat → Prop := fun q => q < w.heap.size ∧ q ≠ (ρ0 1000000).1
  have hsub : ∀ q, S q → S0 q := fun q hq => ⟨hm.lt q hq, fun e => k6 (e ▸ hq)⟩
  have hsame0 : Same S w S0 w := ⟨hsub, fun _ _ => rfl⟩
  have only : ∀ id o, ([(1000000, curO c n F p s)] : Heap).lookup id = some o → id = 1000000 ∧ o = curO c n F p s := by
    intro id o ho
    rcases lookup_put ho with ⟨rfl, rfl⟩ | ⟨_, ho⟩
    · exact ⟨rfl, rfl⟩
    · simp at ho
  have hm0 : MemOk ρ0.base ρ0 S0 [(1000000, curO c n F p s)] w := by
    refine ⟨rfl, hm.low, fun q hq => hq.1, hm.cap, ?_, hm.inj, ?_⟩
    · intro id o ho hc
      obtain ⟨rfl, rfl⟩ := only id o ho
      refine ⟨cs0, e0, k1, k2, k3, k4, k5, fun hq => hq.2 rfl, fun i j hi hj => ?_⟩
      obtain ⟨u, hu, hr⟩ := k7 i j hi hj
      exact ⟨u, hu, hr.keep hsame0 (Rn.refl _ _)⟩
    · intro id m X hX
      have := (only id _ hX).2
      cases this
  refine calls_of_wp hf hb ?_
  refine h ⟨ρ0.base, w, S0, w, ρ0, hpre⟩ c ρ0 S0 _ w _ (fun e ρ S' σ a w' hs hq => ?_) ⟨?_, rfl, ⟨Below.refl _ _, Same.refl _ _, fun _ _ => .refl _ _⟩, hm0, ?_⟩
  · have fin : (∃ x p' s' t, φ x p' s' ∧ ResL P σ fn.results.toList t ∧ FwS σ.heap t (r x) ∧ σ.heap.lookup 1000000 = some (curO c n F p' s')) → a.defers = [] ∧ ∃ v, (results fn a.tmps).run P w' = .ok v w' ∧
        (∃ x p' s' v', φ x p' s' ∧ Ending.returned v = .returned v' ∧ Below ρ0.base w w' ∧ Same S w S w' ∧ MemOk ρ0.base ρ0 S [(1000000, curO c n F p' s')] w' ∧ DR w' (newS w w') (r x) v') := fun ⟨x, p', s', t, hφ, hr, hfw, hcur⟩ => by
      obtain ⟨v, hv, hrun⟩ := hr.run hs
      have hid := hs.below.ids 1000000 (Nat.le_refl _)
      have e1 : (ρ 1000000) = (ρ0 1000000) := hid.m
      have hS0 : Same S0 w S' w' := hs.below.same
      have hbl := hs.below.old
      have hsz : w.heap.size ≤ w'.heap.size := hbl.size
      have hSS : Same S w S w' := ⟨fun _ h => h, fun q hq => hS0.blk q (hsub q hq)⟩
      have hpos' : (ρ 1000000).2 ≠ 0 := by rw [e1]; exact hpos
      obtain ⟨cs, e, g1, g2, g3, g4, g5, g6, g7⟩ := hs.mem.obj _ _ hcur hpos'
      rw [e1] at g1 g2 g3 g4 g5 g6
      refine ⟨hs.defers, v, hrun, x, p', s', v, hφ, rfl, hbl, hSS, ?_, ?_⟩
      · have only' : ∀ id o, ([(1000000, curO c n F p' s')] : Heap).lookup id = some o → id = 1000000 ∧ o = curO c n F p' s' := by
          intro id o ho
          rcases lookup_put ho with ⟨rfl, rfl⟩ | ⟨_, ho⟩
          · exact ⟨rfl, rfl⟩
          · simp at ho
        refine ⟨rfl, Nat.le_trans hm.low hsz, fun q hq => Nat.lt_of_lt_of_le (hm.lt q hq) hsz, fun id o ho => ?_, fun id o ho hc => ?_, fun id id' o o' ho ho' hne => ?_, fun id m X hX => ?_⟩
        · obtain ⟨rfl, rfl⟩ := only' id o ho; exact g3
        · obtain ⟨rfl, rfl⟩ := only' id o ho
          refine ⟨cs, e, g1, g2, g3, g4, k5, k6, fun i j hi hj => ?_⟩
          obtain ⟨u, hu, hr⟩ := g7 i j hi hj
          refine ⟨u, hu, ?_⟩
          unfold curO AObj.f at hr ⊢
          match j with
          | 0 =>
            have hr : u = c ∧ D w' S' _ u := hr
            exact ⟨hr.1, by rw [hr.1]; exact hcv.2.keep hSS⟩
          | 1 => exact hr
          | 2 => exact hr
          | k + 3 => exact hr
        · obtain ⟨rfl, rfl⟩ := only' id o ho; exact absurd (only' id' o' ho').1.symm hne
        · cases (only' id _ hX).2
      · exact hfw.sound hs.mem (L := w.heap.size) (hb := (ρ0 1000000).1) (fun q h1 h2 => hS0.sub q ⟨h1, h2⟩) hcur Nat.zero_lt_one (by rw [e1]) hv
    cases e
    case ret => exact fin hq
    case normal => exact fin hq
    all_goals exact hq.elim
  · simp [hl]; omega
  · intro t s' ht
    obtain ⟨j, u, e1, e2, e3⟩ := hd.get ht
    have hj : j < vs.length := (List.getElem?_eq_some_iff.1 e2).1
    have : ((vs.toArray ++ Array.replicate (fn.ntmps - vs.toArray.size) undef).getD t undef) = u := by
      rw [Array.getD_eq_getD_getElem?, Array.getElem?_append_left (by simp; omega)]
      simp [show t = j by omega, e2]
    show RS _ w S0 s' ((vs.toArray ++ Array.replicate (fn.ntmps - vs.toArray.size) undef).getD t undef)
    rw [this]
    exact e3.keep hsame0 (Rn.refl _ _)
def RetE (P : Program) (fn : Func) {X : Type} (φ : X → Prop) (r : X → SV) : Exit → Sig → Prop
  | .ret, σ => ∃ x s, φ x ∧ ResL P σ fn.results.toList s ∧ FvS σ.heap s (r x)
  | .normal, σ => ∃ x s, φ x ∧ ResL P σ fn.results.toList s ∧ FvS σ.heap s (r x)
  | _, _ => False
theorem FnE.of_body {P : Program} {f : FuncId} {fn : Func} {c : Code} {args : List SV} {X : Type} {φ : X → Prop} {r : X → SV} (hf : P.funcs[f]? = some fn) (hb : fn.body = some c) (hle : args.length ≤ fn.ntmps)
    (h : ∀ w0, AW P fn.ntmps w0 c (RetE P fn φ r) ⟨enumE 0 args, []⟩) : FnE P f args φ r := by
  intro w S vs hS hd
  have hl := hd.len
  refine calls_of_wp hf hb ?_
  refine h ⟨w.heap.size, w, S, w, ⟨fun _ => (0, 0), w.heap.size, fun _ _ => undef, fun _ _ _ => False, fun _ => 0⟩, hS.pre⟩ ⟨fun _ => (0, 0), w.heap.size, fun _ _ => undef, fun _ _ _ => False, fun _ => 0⟩ S _ w _ (fun e ρ S' σ a w' hs hq => ?_) ⟨?_, rfl, ⟨Below.refl _ _, Same.refl _ _, fun _ _ => .refl _ _⟩, ⟨rfl, Nat.le_refl _, hS, fun id o ho => by simp at ho, fun id o ho => by simp at ho, fun id id' o o' ho => by simp at ho, fun id n X ho => by simp at ho⟩, ?_⟩
  · have fin : (∃ x s, φ x ∧ ResL P σ fn.results.toList s ∧ FvS σ.heap s (r x)) → a.defers = [] ∧ ∃ v, (results fn a.tmps).run P w' = .ok v w' ∧ (∃ x v', φ x ∧ Ending.returned v = .returned v' ∧ DR w' (newS w w') (r x) v' ∧ Below w.heap.size w w') := fun ⟨x, s, hφ, hr, hfv⟩ => by
      obtain ⟨v, hv, hrun⟩ := hr.run hs
      exact ⟨hs.defers, v, hrun, x, v, hφ, rfl, hfv.sound hs.mem hv, hs.below.old⟩
    cases e
    case ret => exact fin hq
    case normal => exact fin hq
    all_goals exact hq.elim
  · simp [hl]; omega
  · intro t s ht
    obtain ⟨j, u, e1, e2, e3⟩ := hd.get ht
    have hj : j < vs.length := (List.getElem?_eq_some_iff.1 e2).1
    have : ((vs.toArray ++ Array.replicate (fn.ntmps - vs.toArray.size) undef).getD t undef) = u := by
      rw [Array.getD_eq_getD_getElem?, Array.getElem?_append_left (by simp; omega)]
      simp [show t = j by omega, e2]
    show RS _ w S s ((vs.toArray ++ Array.replicate (fn.ntmps - vs.toArray.size) undef).getD t undef)
    rw [this]
    exact e3.toRS
section
variable {P : Program} {N : Nat} {w0 : Start} {σ : Sig} {ops : Array Oper} {rest : List Oper} {o : Oper} {Q : Sig → Prop}
theorem lookup_drop {id : Nat} : ∀ {H : Heap} {k : Nat} {q : AObj}, (H.filter fun p => p.1 != id).lookup k = some q → H.lookup k = some q ∧ k ≠ id
  | [], _, _, h => by simp at h
  | (a, b) :: l, k, q, h => by
    by_cases e : a = id
    · subst e
      rw [List.filter_cons_of_neg (by simp)] at h
      obtain ⟨h1, h2⟩ := lookup_drop h
      exact ⟨by rw [List.lookup_cons, show (k == a) = false by simpa using h2]; exact h1, h2⟩
    · rw [List.filter_cons_of_pos (by simpa using e)] at h
      rcases lookup_put h with ⟨rfl, rfl⟩ | ⟨hne, h⟩
      · exact ⟨by simp, e⟩
      · obtain ⟨h1, h2⟩ := lookup_drop h
        exact ⟨by rw [List.lookup_cons, show (k == a) = false by simpa using hne]; exact h1, h2⟩
theorem St.widen {ρ : Rho} {S T : Nat → Prop} {a : Act} {w : World} (hs : St N w0 ρ S σ a w) (hT : ∀ b, T b → b < w.heap.size) (ho : ∀ id o, σ.heap.lookup id = some o → (ρ id).2 ≠ 0 → ¬ T (ρ id).1) (ht : ∀ id n X i b, σ.heap.lookup id = some (.trees n X) → i < n → ρ.tb id i b → ¬ T b) :
    Same S w (fun b => S b ∨ T b) w ∧ St N w0 ρ (fun b => S b ∨ T b) σ a w := by
  have hsame : Same S w (fun b => S b ∨ T b) w := ⟨fun b h => .inl h, fun b h => rfl⟩
  refine ⟨hsame, hs.size, hs.defers, hs.below.step (Below.refl _ _) hsame, ⟨hs.mem.base, hs.mem.low, ?_, hs.mem.cap, ?_, hs.mem.inj, ?_⟩, fun t s ht => (hs.env t s ht).keep hsame (Rn.refl _ _)⟩
  · rintro b (h | h)
    · exact hs.mem.lt b h
    · exact hT b h
  · intro id o hl hc
    obtain ⟨cs, e, h1, h2, h3, h4, h5, h6, h7⟩ := hs.mem.obj id o hl hc
    refine ⟨cs, e, h1, h2, h3, h4, h5, ?_, fun i j hi hj => ?_⟩
    · rintro (h | h)
      · exact h6 h
      · exact ho id o hl hc h
    · obtain ⟨u, hu, hr⟩ := h7 i j hi hj
      exact ⟨u, hu, hr.keep hsame (Rn.refl _ _)⟩
  · refine hs.mem.treeOf (Nat.le_refl _) (fun k n X hX => ⟨X, hX, fun _ _ => rfl, rfl, rfl, rfl⟩) (fun k n X i b hX hi hb' => ?_) (fun k p hp hc => .inl ⟨p, hp, rfl⟩)
    obtain ⟨q1, q2, q3, _⟩ := (hs.mem.tree k n X hX i hi).2 b hb'
    refine ⟨rfl, q2, ?_⟩
    rintro (h | h)
    · exact q3 h
    · exact ht k n X i b hX hi hb' h
theorem St.curCall {ρ : Rho} {S : Nat → Prop} {a : Act} {w : World} (hs : St N w0 ρ S σ a w) {f id p s n : Nat} {c : Value} {F : Nat → Nat} {xs : List Operand} {ts : Array TypeId} {args : List SV} {Hr : Heap} {X : Type} {φ : X → Nat → Nat → Prop} {r : X → SV} (ho : o.op = .call { callee := .value (.func f), args := xs.toArray, argTypes := ts })
    (hF : FnC P f n F args p s φ r) (hB : callB P f = true) (hk : KnG σ Hr (fun _ => id) xs (.one (.ptr 1000000 3 0 0) :: args))
    (hH : σ.heap.lookup id = some (curO c n F p s))
    (hr : ∀ k q, Hr.lookup k = some q → σ.heap.lookup k = some q ∧ k ≠ id) {K : Act → World → Prop} {Q' : Exit → Act → World → Prop}
    (h : ∀ x p' s' v S' w', φ x p' s' → St N w0 ρ S' ⟨σ.env, (id, curO c n F p' s') :: Hr⟩ a w' → RS ρ w' S' (r x).fr v → K (a.put o.dst v) w') : o.wp P a w K Q' := by
  let g : Nat → Nat := fun _ => id
  have hpos : (ρ id).2 ≠ 0 := hs.mem.pos hH (i := 0) Nat.zero_lt_one
  obtain ⟨cs0, e0, k1, k2, k3, k4, k5, k6, k7⟩ := hs.mem.obj _ _ hH hpos
  have hmr : MemOk w0.base ρ S Hr w := hs.mem.le' fun k q hq => HLe.refl (hr k q hq).1
  have hsame : Same S w (withOwn ρ Hr S) w := ⟨fun _ h => .inl h, fun _ _ => rfl⟩
  have only : ∀ {p s : Nat} k q, ([(1000000, curO c n F p s)] : Heap).lookup k = some q → k = 1000000 ∧ q = curO c n F p s := by
    intro p s k q ho
    rcases lookup_put ho with ⟨rfl, rfl⟩ | ⟨_, ho⟩
    · exact ⟨rfl, rfl⟩
    · simp at ho
  have hnot : ¬ withOwn ρ Hr S (ρ id).1 := by
    rintro (hb | ⟨id', p', hp', hc', e'⟩ | ⟨id', n', X', i', hX', hi', hb'⟩)
    · exact k6 hb
    · exact hs.mem.inj id' id p' _ (hr id' p' hp').1 hH (hr id' p' hp').2 hc' hpos e'
    · exact ((hs.mem.tree id' n' X' (hr id' _ hX').1 i' hi').2 _ hb').2.2.2.1 id _ hH hpos rfl
  have hm : MemOk (ρ.ren g).base (ρ.ren g) (withOwn ρ Hr S) [(1000000, curO c n F p s)] w := by
    refine ⟨rfl, by rw [show (ρ.ren g).base = w0.base from hs.mem.base]; exact hs.mem.low, ?_, ?_, ?_, ?_, ?_⟩
    · rintro b (hb | ⟨id, p, hp, hc, rfl⟩ | ⟨id, n, X, i, hX, hi, hb⟩)
      · exact hs.mem.lt b hb
      · exact hs.mem.blk (hr id p hp).1 hc
      · exact ((hs.mem.tree id n X (hr id _ hX).1 i hi).2 b hb).2.1
    · intro k q hq
      obtain ⟨rfl, rfl⟩ := only k q hq
      exact k3
    · intro k q hq hc
      obtain ⟨rfl, rfl⟩ := only k q hq
      refine ⟨cs0, e0, k1, k2, k3, k4, by rw [show (ρ.ren g).base = w0.base from hs.mem.base]; exact k5, hnot, fun i j hi hj => ?_⟩
      obtain ⟨u, hu, hru⟩ := k7 i j hi hj
      refine ⟨u, hu, ?_⟩
      unfold curO AObj.f at hru ⊢
      match j with
      | 0 =>
        have hru : u = c ∧ D w S _ u := hru
        exact ⟨hru.1, hru.2.keep hsame⟩
      | 1 => exact hru
      | 2 => exact hru
      | k + 3 => exact hru
    · intro k k' q q' hq hq' hne
      exact absurd ((only k q hq).1.trans (only k' q' hq').1.symm) hne
    · intro k m X hX
      cases (only k _ hX).2
  have h2 := hF c (ρ.ren g) (withOwn ρ Hr S) w _ hm (show Pre ρ.base w by rw [hs.mem.base]; exact hs.preB) (hk.sound hs hmr hsame)
  have e : (execOp a.eval o).run P w = .ok (.enter f (xs.map a.eval).toArray) w := by
    have := execCall (P := P) (ev := a.eval) (caps := #[]) ho rfl hB w
    simpa using this
  unfold Oper.wp
  rw [e]
  refine Calls.mono h2 fun e w' ⟨x, p', s', v, hφ, he, hb, hsm, hm', hv⟩ => ?_
  subst he
  have hbb : (ρ.ren g).base = w0.base := hs.mem.base
  rw [hbb] at hb hm'
  have hkeep : Same S w S w' := ⟨fun _ h => h, fun b hb' => hsm.blk b (.inl hb')⟩
  have hl' : ([(1000000, curO c n F p' s')] : Heap).lookup 1000000 = some (curO c n F p' s') := by simp
  obtain ⟨cs, e1, g1, g2, g3, g4, g5, g6, g7⟩ := hm'.obj 1000000 _ hl' hpos
  have hheap : ∀ k q, ((id, curO c n F p' s') :: Hr : Heap).lookup k = some q → (k = id ∧ q = curO c n F p' s') ∨ (k ≠ id ∧ Hr.lookup k = some q) := by
    intro k q hq
    rcases lookup_put hq with ⟨rfl, rfl⟩ | ⟨h1, h2⟩
    · exact .inl ⟨rfl, rfl⟩
    · exact .inr ⟨h1, h2⟩
  have hst : St N w0 ρ S ⟨σ.env, (id, curO c n F p' s') :: Hr⟩ a w' := by
    refine ⟨hs.size, hs.defers, hs.below.step hb hkeep, ⟨hs.mem.base, Nat.le_trans hs.mem.low hb.size, fun b hb' => Nat.lt_of_lt_of_le (hs.mem.lt b hb') hb.size, ?_, ?_, ?_, ?_⟩, fun t s ht => (hs.env t s ht).keep hkeep (Rn.refl _ _)⟩
    · intro k q hq
      rcases hheap k q hq with ⟨rfl, rfl⟩ | ⟨_, hq⟩
      · exact g3
      · exact hmr.cap k q hq
    · intro k q hq hc
      rcases hheap k q hq with ⟨rfl, rfl⟩ | ⟨_, hq⟩
      · refine ⟨cs, e1, g1, g2, g3, g4, k5, k6, fun i j hi hj => ?_⟩
        obtain ⟨u, hu, hru⟩ := g7 i j hi hj
        refine ⟨u, hu, ?_⟩
        obtain ⟨u0, hu0, hr0⟩ := k7 0 0 Nat.zero_lt_one (Nat.zero_lt_succ 2)
        have hr0 : u0 = c ∧ D w S (.lst 1 n fun i _ => .int .u8 ((F i : Nat) : Int)) u0 := hr0
        unfold curO AObj.f at hru ⊢
        match j with
        | 0 =>
          have hru : u = c ∧ D w' _ _ u := hru
          exact ⟨hru.1, by rw [hru.1, ← hr0.1]; exact hr0.2.keep hkeep⟩
        | 1 => exact hru
        | 2 => exact hru
        | k + 3 => exact hru
      · obtain ⟨cs, e, h1, h2, h3, h4, h5, h6, h7⟩ := hmr.obj k q hq hc
        refine ⟨cs, e, by rw [hsm.blk _ (.inr (.inl ⟨k, q, hq, hc, rfl⟩))]; exact h1, h2, h3, h4, h5, h6, fun i j hi hj => ?_⟩
        obtain ⟨u, hu, hru⟩ := h7 i j hi hj
        exact ⟨u, hu, hru.keep hkeep (Rn.refl _ _)⟩
    · intro k k' q q' hq hq' hne hc hc'
      have old : ∀ k q, ((id, curO c n F p' s') :: Hr : Heap).lookup k = some q → ∃ q, σ.heap.lookup k = some q := by
        intro k q hq
        rcases hheap k q hq with ⟨rfl, rfl⟩ | ⟨_, hq⟩
        · exact ⟨_, hH⟩
        · exact ⟨q, (hr k q hq).1⟩
      obtain ⟨z, hz⟩ := old k q hq
      obtain ⟨z', hz'⟩ := old k' q' hq'
      exact hs.mem.inj k k' z z' hz hz' hne hc hc'
    · refine hmr.treeOf (Nat.le_refl _) (fun k m X hX => ?_) (fun k m X i b hX hi hb' => ?_) (fun k q hq hc => ?_)
      · rcases hheap k _ hX with ⟨_, h⟩ | ⟨_, h⟩
        · cases h
        · exact ⟨X, h, fun _ _ => rfl, rfl, rfl, rfl⟩
      · obtain ⟨q1, q2, q3, _⟩ := (hmr.tree k m X hX i hi).2 b hb'
        exact ⟨hsm.blk b (.inr (.inr ⟨k, m, X, i, hX, hi, hb'⟩)), Nat.lt_of_lt_of_le q2 hb.size, q3⟩
      · rcases hheap k q hq with ⟨rfl, rfl⟩ | ⟨_, hq⟩
        · exact .inr fun k2 m X i hX hi hb' => ((hs.mem.tree k2 m X (hr k2 _ hX).1 i hi).2 _ hb').2.2.2.1 k _ hH hc rfl
        · exact .inl ⟨q, hq, rfl⟩
  have hblk : ∀ k q, ((id, curO c n F p' s') :: Hr : Heap).lookup k = some q → (ρ k).2 ≠ 0 → (ρ k).1 < w.heap.size := by
    intro k q hq hc
    rcases hheap k q hq with ⟨rfl, rfl⟩ | ⟨_, hq⟩
    · exact hs.mem.blk hH hc
    · exact hmr.blk hq hc
  obtain ⟨w1, w2⟩ := hst.widen (T := newS w w') (fun b hb => hb.2) (fun k q hq hc hn => by have := hblk k q hq hc; have := hn.1; omega) (fun k m X i b hX hi hb' hn => by
    rcases hheap k _ hX with ⟨_, h⟩ | ⟨_, h⟩
    · cases h
    · have := ((hmr.tree k m X h i hi).2 b hb').2.1
      have := hn.1
      omega)
  exact h x p' s' v _ w' hφ w2 (hv.fr fun b hb => ⟨.inr hb, by rw [hs.mem.base]; exact Nat.le_trans hs.mem.low hb.1⟩)
theorem ARun.cur {f id d p s n : Nat} {c : Value} {F : Nat → Nat} {xs : List Operand} {ts : Array TypeId} {args : List SV} {X : Type} {φ : X → Nat → Nat → Prop} {r : X → SV} (ho : o.op = .call { callee := .value (.func f), args := xs.toArray, argTypes := ts })
    (hF : FnC P f n F args p s φ r) (hB : callB P f = true) (hk : KnG σ (σ.heap.filter fun p => p.1 != id) (fun _ => id) xs (.one (.ptr 1000000 3 0 0) :: args))
    (hH : σ.heap.lookup id = some (curO c n F p s))
    (hg : o.guard = none) (hd : o.dst = some d) (hN : d < N) (h : ∀ x p' s', φ x p' s' → ARun P N w0 ops Q rest ⟨(d, (r x).fr) :: σ.env, (id, curO c n F p' s') :: σ.heap.filter fun p => p.1 != id⟩) : ARun P N w0 ops Q (o :: rest) σ := by
  intro ρ S a w Q' hQ hs
  refine wpList_plain hg fun K hK => ?_
  refine hs.curCall ho hF hB hk hH (fun _ _ h => lookup_drop h) fun x p' s' v S' w' hφ hst hv => ?_
  rw [hd]
  exact hK _ _ (h x p' s' hφ ρ S' _ w' Q' hQ (hst.put hN hv))
theorem ARun.draw {f d : Nat} {xs : List Operand} {ts : Array TypeId} {args : List SV} {X : Type} {φ : X → Prop} {r : X → SV} (ho : o.op = .call { callee := .value (.func f), args := xs.toArray, argTypes := ts })
    (hF : FnE P f args φ r) (hB : callB P f = true) (hk : KnA σ xs args)
    (hg : o.guard = none) (hd : o.dst = some d) (hN : d < N) (h : ∀ x, φ x → ARun P N w0 ops Q rest ⟨(d, (r x).fr) :: σ.env, σ.heap⟩) : ARun P N w0 ops Q (o :: rest) σ := by
  intro ρ S a w Q' hQ hs
  refine wpList_plain hg fun K hK => ?_
  have h2 := hF w _ _ ⟨withOwn_lt hs, hs.pre⟩ (KnA.sound hs hk)
  have e : (execOp a.eval o).run P w = .ok (.enter f (xs.map a.eval).toArray) w := by
    have := execCall (P := P) (ev := a.eval) (caps := #[]) ho rfl hB w
    simpa using this
  unfold Oper.wp
  rw [e]
  refine Calls.mono h2 fun e w' ⟨x, v, hφ, he, hv, hb⟩ => ?_
  subst he
  obtain ⟨g1, g2⟩ := hs.grow hb
  have hlow := hs.mem.low
  have hbase := hs.mem.base
  rw [hd]
  exact hK _ _ (h x hφ ρ _ _ w' Q' hQ (g2.put hN (hv.fr fun b hb' => ⟨.inr hb', by have := hb'.1; omega⟩)))
theorem AW.cv {b : Code} {Q2 : Exit → Sig → Prop} {t sz n : Nat} {F : Nat → Nat → AV} (ht : σ.env.lookup t = some (.one (.lst sz n F))) (hk : ∀ c, AW P N w0 b Q2 ⟨(t, .one (.cv c (.lst sz n F))) :: σ.env, σ.heap⟩) : AW P N w0 b Q2 σ := by
  intro ρ S a w Q' hQ hs
  have h0 := hs.env _ _ ht
  refine hk (a.tmps.getD t undef) ρ S a w Q' hQ ⟨hs.size, hs.defers, hs.below, hs.mem, fun u s hu => ?_⟩
  rcases lookup_put hu with ⟨rfl, rfl⟩ | ⟨_, hu⟩
  · exact ⟨rfl, h0⟩
  · exact hs.env u s hu
end
theorem OpensC.byte {P : Program} {t : TypeId} (ht : P.underlying t = some (.int .u8)) : OpensC P t (fun x : UInt8 => [.int .u8 ((x.toNat : Nat) : Int)]) := fun _ _ _ _ _ _ h => by
  obtain ⟨n, rfl, _, hw⟩ := DataW.trod_int ht h
  have hw2 : 0 ≤ n ∧ n ≤ 255 := by simpa [Lit.wf, IntKind.min, IntKind.max, IntKind.bits, IntKind.signed] using hw
  refine ⟨UInt8.ofNat n.toNat, _, _, rfl, ?_, rfl⟩
  show Value.int .u8 n = Value.int .u8 _
  rw [UInt8.toNat_ofNat']
  congr 1
  omega
end Go.Proofs.Ytonfeiloekofdaa

namespace Go.Proofs.Ytonfeiloekofdaa
open Go.ChangeShapes Go.WideShapes Go.ChangeAt Go.RowKit Go.BigFrame Go.Deep
set_option linter.unusedVariables false
set_option linter.unusedSimpArgs false
section
variable {P : Program} {σ : Sig} {o : Oper}
end
end Go.Proofs.Ytonfeiloekofdaa

namespace Go.Proofs.Ytonfeiloekofdaa
open Go.ChangeShapes Go.WideShapes Go.ChangeAt Go.RowKit Go.BigFrame Go.Deep
set_option linter.unusedVariables false
set_option linter.unusedSimpArgs false
def AV.hx (K : List Nat) : AV → Bool
  | .ptr id _ _ _ => K.contains id
  | .own id _ _ => K.contains id
  | .tre id _ => K.contains id
  | .tl id _ _ _ => K.contains id
  | .int _ _ => true
  | .bool _ => true
  | .str _ => true
  | .con _ => true
  | .lst _ n _ => n == 0
  | .fn _ m caps => (List.range m).all fun j => (caps j).hx K
  | _ => false
def SV.hx (K : List Nat) : SV → Bool
  | .one x => x.hx K
  | .agg l => l.all (AV.hx K)
  | .tup2 x y => x.hx K && y.hx K
  | .tup3 x y z => x.hx K && y.hx K && z.hx K
  | .tup4 _ _ _ _ => false
  | .gd _ _ => false
structure AtR (ρ' ρn : Rho) (k k' : Nat) : Prop where
  m : ρn.m k' = ρ'.m k
  v : ρn.tv k' = ρ'.tv k
  b : ρn.tb k' = ρ'.tb k
  n : ρn.tn k' = ρ'.tn k
section
variable {ρ ρ' ρn : Rho} {g g' : Nat → Nat} {K : List Nat} {w : World} {S S' : Nat → Prop}
theorem AV.hx_r (hat : ∀ k, K.contains k = true → AtR ρ' ρn k (g' k)) {x : AV} {v : Value} (h : x.hx K = true) (hr : R ρ' w S' x v) : R ρn w S (x.ren g') v := by
  induction x generalizing v with
  | ptr id sz i j =>
    have hr : v = .pointer (some ⟨(ρ'.m id).1, i * sz + j, none⟩) := hr
    rw [← (hat id h).m] at hr
    exact hr
  | own id sz n =>
    have hr : ∃ A, v = .slice A n (ρ'.m id).2 ∧ n ≤ (ρ'.m id).2 ∧ (ρ'.m id).2 ≤ maxLen ∧ (A = some ⟨(ρ'.m id).1, 0, none⟩ ∨ (A = none ∧ (ρ'.m id).2 = 0)) := hr
    rw [← (hat id h).m] at hr
    exact hr
  | tl id sz q n =>
    have hr : ∃ A, v = .slice A (n - q) ((ρ'.m id).2 - q) ∧ q ≤ n ∧ n ≤ (ρ'.m id).2 ∧ (ρ'.m id).2 ≤ maxLen ∧ (A = some ⟨(ρ'.m id).1, q * sz, none⟩ ∨ (ρ'.m id).2 = q) := hr
    rw [← (hat id h).m] at hr
    exact hr
  | tre id i =>
    have hr : v = ρ'.tv id i ∧ i < ρ'.tn id ∧ ∃ A n c, v = .slice A n c := hr
    rw [← (hat id h).v, ← (hat id h).n] at hr
    exact hr
  | int k n => exact hr
  | bool b => exact hr
  | str s => exact hr
  | con c => exact hr
  | lst sz n f _ => exact AV.sc_r (x := .lst sz n f) h hr
  | ref _ _ _ => cases h
  | fn f m caps ih =>
    unfold R at hr
    obtain ⟨vs, e, hm, hc⟩ := hr
    have h : ((List.range m).all fun j => (caps j).hx K) = true := h
    show R ρn w S (.fn f m fun j => (caps j).ren g') v
    unfold R
    refine ⟨vs, e, hm, fun j hj => ?_⟩
    obtain ⟨u, hu, hrj⟩ := hc j hj
    exact ⟨u, hu, ih j (List.all_eq_true.1 h j (List.mem_range.2 hj)) hrj⟩
  | frs _ _ => cases h
  | cv _ _ _ => cases h
theorem RL.hx_r (hat : ∀ k, K.contains k = true → AtR ρ' ρn k (g' k)) : ∀ {l : List AV} {us : List Value}, l.all (AV.hx K) = true → RL ρ' w S' l us → RL ρn w S (l.map (AV.ren g')) us
  | [], _, _, h => h
  | _ :: _, _, hh, ⟨u, us, e, h1, h2⟩ => by
    rw [List.all_cons, Bool.and_eq_true] at hh
    exact ⟨u, us, e, AV.hx_r hat hh.1 h1, RL.hx_r hat hh.2 h2⟩
theorem SV.hx_r (hat : ∀ k, K.contains k = true → AtR ρ' ρn k (g' k)) : ∀ {s : SV} {v : Value}, s.hx K = true → RS ρ' w S' s v → RS ρn w S (s.ren g') v
  | .one _, _, h, hr => AV.hx_r hat h hr
  | .agg _, _, h, ⟨us, e, hl⟩ => ⟨us, e, RL.hx_r hat h hl⟩
  | .tup2 _ _, _, h, ⟨a, b, e, h1, h2⟩ => by
    rw [SV.hx, Bool.and_eq_true] at h
    exact ⟨a, b, e, SV.hx_r hat h.1 h1, SV.hx_r hat h.2 h2⟩
  | .tup4 _ _ _ _, _, h, _ => by cases h
  | .tup3 _ _ _, _, h, ⟨a, b, c, e, h1, h2, h3⟩ => by
    rw [SV.hx, Bool.and_eq_true, Bool.and_eq_true] at h
    exact ⟨a, b, c, e, SV.hx_r hat h.1.1 h1, SV.hx_r hat h.1.2 h2, SV.hx_r hat h.2 h3⟩
  | .gd _ _, _, h, _ => by cases h
end
def AObj.Rt (g : Nat → Nat) : AObj → AObj → Prop
  | .cells l, .cells m => m = l.map (AV.ren g)
  | .arr sz n f, .arr sz' n' f' => sz' = sz ∧ n' = n ∧ ∀ i j, i < n → j < sz → f' i j = (f i j).ren g
  | .trees n X, .trees n' X' => n' = n ∧ ∀ i, i < n → X' i = X i
  | _, _ => False
theorem AObj.Rt.shape {g : Nat → Nat} {q p : AObj} (h : AObj.Rt g q p) : p.sz = q.sz ∧ p.n = q.n := by
  cases q <;> cases p <;> first | exact h.elim | skip
  · have h : _ = _ := h
    subst h
    exact ⟨by simp [AObj.sz], rfl⟩
  · exact ⟨h.1, h.2.1⟩
  · exact ⟨rfl, rfl⟩
theorem AObj.Rt.at_ {g : Nat → Nat} {q p : AObj} (h : AObj.Rt g q p) {i j : Nat} (hi : i < q.n) (hj : j < q.sz) : p.f i j = (q.f i j).ren g := by
  cases q <;> cases p <;> first | exact h.elim | skip
  · rename_i l m
    have h : _ = _ := h
    subst h
    have hj : j < l.length := hj
    show (l.map (AV.ren g)).getD j _ = (l.getD j _).ren g
    rw [List.getD_eq_getElem?_getD, List.getD_eq_getElem?_getD, List.getElem?_map, List.getElem?_eq_getElem hj]
    rfl
  · exact h.2.2 i j hi hj
  · exact absurd hi (Nat.not_lt_zero _)
theorem AObj.Rt.trees {g : Nat → Nat} {q : AObj} {n : Nat} {X : Nat → AV} (h : AObj.Rt g q (.trees n X)) : ∃ X', q = .trees n X' ∧ ∀ i, i < n → X i = X' i := by
  cases q with
  | cells _ => exact h.elim
  | arr _ _ _ => exact h.elim
  | trees m Y => obtain ⟨rfl, h⟩ := h; exact ⟨Y, rfl, h⟩
theorem AObj.Rt.trees' {g : Nat → Nat} {p : AObj} {n : Nat} {X : Nat → AV} (h : AObj.Rt g (.trees n X) p) : ∃ X', p = .trees n X' ∧ ∀ i, i < n → X' i = X i := by
  cases p with
  | cells _ => exact h.elim
  | arr _ _ _ => exact h.elim
  | trees m Y => obtain ⟨rfl, h⟩ := h; exact ⟨Y, rfl, h⟩
def AObj.Hx (K : List Nat) : AObj → Prop
  | .cells l => l.all (AV.hx K) = true
  | .arr sz n f => ∀ i j, i < n → j < sz → (f i j).hx K = true
  | .trees _ _ => True
theorem AObj.Hx.at_ {K : List Nat} {q : AObj} (h : q.Hx K) {i j : Nat} (hi : i < q.n) (hj : j < q.sz) : (q.f i j).hx K = true := by
  cases q with
  | cells l =>
    have hj : j < l.length := hj
    show (l.getD j _).hx K = true
    rw [List.getD_eq_getElem?_getD, List.getElem?_eq_getElem hj]
    exact List.all_eq_true.1 h _ (List.getElem_mem hj)
  | arr sz n f => exact h i j hi hj
  | trees _ _ => exact absurd hi (Nat.not_lt_zero _)
def LkAll (P : Nat → AObj → Prop) : Heap → Prop
  | [] => True
  | (k, o) :: l => P k o ∧ LkAll P l
theorem LkAll.get {P : Nat → AObj → Prop} : ∀ {l : Heap}, LkAll P l → ∀ {k : Nat} {o : AObj}, l.lookup k = some o → P k o
  | [], _, _, _, h => by simp at h
  | (k', o') :: l, ⟨h1, h2⟩, k, o, h => by
    rcases lookup_put h with ⟨rfl, rfl⟩ | ⟨_, h⟩
    · exact h1
    · exact LkAll.get h2 h
def FrAll (σ : Sig) : List (Nat × Nat) → Prop
  | [] => True
  | (id, _) :: l => Fr id σ ∧ FrAll σ l
theorem FrAll.get {σ : Sig} : ∀ {l : List (Nat × Nat)}, FrAll σ l → ∀ {id k : Nat}, l.lookup id = some k → Fr id σ
  | [], _, _, _, h => by simp at h
  | (k', o') :: l, ⟨h1, h2⟩, k, o, h => by
    rcases lookup_put h with ⟨rfl, rfl⟩ | ⟨_, h⟩
    · exact h1
    · exact FrAll.get h2 h
def distB : List Nat → Bool
  | [] => true
  | x :: l => !l.contains x && distB l
theorem distB_map {g : Nat → Nat} : ∀ {l : List Nat}, distB (l.map g) = true → ∀ k k', k ∈ l → k' ∈ l → k ≠ k' → g k ≠ g k'
  | [], _, _, _, h, _, _ => by cases h
  | x :: l, hd, k, k', h, h', hne => by
    rw [List.map_cons, distB, Bool.and_eq_true, Bool.not_eq_true'] at hd
    obtain ⟨h1, h2⟩ := hd
    have hno : ∀ y, y ∈ l → g x ≠ g y := fun y hy e => by
      have : (l.map g).contains (g x) = true := List.contains_iff_mem.2 (e ▸ List.mem_map_of_mem hy)
      rw [h1] at this; cases this
    rcases List.mem_cons.1 h with e1 | g1
    · rcases List.mem_cons.1 h' with e2 | g2
      · exact absurd (e1.trans e2.symm) hne
      · rw [e1]; exact hno k' g2
    · rcases List.mem_cons.1 h' with e2 | g2
      · rw [e2]; exact fun e => hno k g1 e.symm
      · exact distB_map h2 k k' g1 g2 hne
def Rho.mix (ρ ρ' : Rho) (T : List (Nat × Nat)) : Rho :=
  ⟨fun id => match T.lookup id with | some k => ρ'.m k | none => ρ.m id, ρ.base, fun id => match T.lookup id with | some k => ρ'.tv k | none => ρ.tv id, fun id => match T.lookup id with | some k => ρ'.tb k | none => ρ.tb id, fun id => match T.lookup id with | some k => ρ'.tn k | none => ρ.tn id⟩
theorem Rho.mix_old {ρ ρ' : Rho} {T : List (Nat × Nat)} {id : Nat} (h : T.lookup id = none) : Rho.At ρ (ρ.mix ρ' T) id := by
  constructor <;> simp only [Rho.mix, h]
theorem Rho.mix_new {ρ ρ' : Rho} {T : List (Nat × Nat)} {id k : Nat} (h : T.lookup id = some k) : AtR ρ' (ρ.mix ρ' T) k id := by
  constructor <;> simp only [Rho.mix, h]
theorem heap_key {H : Heap} {k : Nat} {o : AObj} (h : H.lookup k = some o) : k ∈ H.map (·.1) := List.mem_map.2 ⟨(k, o), lookup_mem h, rfl⟩
section
variable {P : Program} {N : Nat} {w0 : Start} {σ : Sig} {ops : Array Oper} {rest : List Oper} {o : Oper} {Q : Sig → Prop}
theorem St.mutxR {ρ : Rho} {S : Nat → Prop} {a : Act} {w : World} (hs : St N w0 ρ S σ a w) {f : FuncId} {vs : List Value} {args : List SV} {H H' Hr Hn : Heap} {r : SV} {g g' : Nat → Nat} {K : List Nat} {T : List (Nat × Nat)}
    (hF : FnG P f args H r H') (hvs : RSs (ρ.ren g) w (withOwn ρ Hr S) args vs)
    (hH : LkAll (fun id p => ∃ p', σ.heap.lookup (g id) = some p' ∧ AObj.Rt g p p') H)
    (hr : LkAll (fun id p => σ.heap.lookup id = some p ∧ ((H.map (·.1)).map g).contains id = false) Hr)
    (hg : distB ((H.map (·.1)).map g) = true) (hT : FrAll σ T)
    (hK : K.all (fun k => (Nat.ble 1000000 k && (g' k == g k) && (T.lookup (g k)).isNone) || (T.lookup (g' k) == some k)) = true) (hgi : distB (K.map g') = true)
    (hx : r.hx K = true)
    (hn : LkAll (fun id p => Hr.lookup id = some p ∨ ∃ k q, K.contains k = true ∧ g' k = id ∧ H'.lookup k = some q ∧ AObj.Rt g' q p ∧ q.Hx K) Hn) :
    Calls P f vs.toArray w fun e w' => ∃ v ρn, e = .returned v ∧ St N w0 ρn S ⟨σ.env, Hn⟩ a w' ∧ RS ρn w' S (r.ren g') v := by
  have hHr : ∀ id p, Hr.lookup id = some p → σ.heap.lookup id = some p := fun id p h => (hr.get h).1
  have hoff : ∀ id p, Hr.lookup id = some p → ∀ k q, H.lookup k = some q → g k ≠ id := fun id p h k q hq e => by
    have h1 := (hr.get h).2
    have : ((H.map (·.1)).map g).contains id = true := List.contains_iff_mem.2 (e ▸ List.mem_map_of_mem (heap_key hq))
    rw [h1] at this; cases this
  have hgd : ∀ k k' q q', H.lookup k = some q → H.lookup k' = some q' → k ≠ k' → g k ≠ g k' := fun k k' q q' h h' => distB_map hg k k' (heap_key h) (heap_key h')
  have hgi' : ∀ k k', K.contains k = true → K.contains k' = true → k ≠ k' → g' k ≠ g' k' := fun k k' h h' => distB_map hgi k k' (List.contains_iff_mem.1 h) (List.contains_iff_mem.1 h')
  have hmr : MemOk w0.base ρ S Hr w := hs.mem.le' fun k p hk => HLe.refl (hHr k p hk)
  have hsame : Same S w (withOwn ρ Hr S) w := ⟨fun _ h => .inl h, fun _ _ => rfl⟩
  have hrb : (ρ.ren g).base = w0.base := hs.mem.base
  have hm : MemOk (ρ.ren g).base (ρ.ren g) (withOwn ρ Hr S) H w := by
    refine ⟨rfl, by rw [hrb]; exact hs.mem.low, ?_, ?_, ?_, ?_, ?_⟩
    · rintro b (hb | ⟨id, p, hp, hc, rfl⟩ | ⟨id, n, X, i, hX, hi, hb⟩)
      · exact hs.mem.lt b hb
      · exact hs.mem.blk (hHr id p hp) hc
      · exact ((hs.mem.tree id n X (hHr id _ hX) i hi).2 b hb).2.1
    · intro id p hp
      obtain ⟨p', hp', hrt⟩ := hH.get hp
      rw [← hrt.shape.2]
      exact hs.mem.cap (g id) p' hp'
    · intro id p hp hc
      obtain ⟨p', hp', hrt⟩ := hH.get hp
      obtain ⟨cs, e, h1, h2, h3, h4, h5, h6, h7⟩ := hs.mem.obj (g id) p' hp' hc
      rw [hrt.shape.1] at h2 h7
      rw [hrt.shape.2] at h3 h7
      refine ⟨cs, e, h1, h2, h3, h4, by rw [hrb]; exact h5, ?_, fun i j hi hj => ?_⟩
      · rintro (hb | ⟨id', p2, hp2, hc', e'⟩ | ⟨id', n', X', i', hX', hi', hb'⟩)
        · exact h6 hb
        · exact hs.mem.inj id' (g id) p2 p' (hHr id' p2 hp2) hp' (fun e => hoff id' p2 hp2 id p hp e.symm) hc' hc e'
        · exact ((hs.mem.tree id' n' X' (hHr id' _ hX') i' hi').2 _ hb').2.2.2.1 (g id) p' hp' hc rfl
      · obtain ⟨u, hu, hru⟩ := h7 i j hi hj
        rw [hrt.at_ hi hj] at hru
        exact ⟨u, hu, (R.ren hru).keep hsame (Rn.refl _ _)⟩
    · intro k k' q q' hq hq' hne hc hc'
      obtain ⟨p, hp, _⟩ := hH.get hq
      obtain ⟨p', hp', _⟩ := hH.get hq'
      exact hs.mem.inj _ _ p p' hp hp' (hgd k k' q q' hq hq' hne) hc hc'
    · intro id n X hX
      obtain ⟨p', hp', hrt⟩ := hH.get hX
      obtain ⟨X', rfl, hXX⟩ := hrt.trees'
      refine ⟨(hs.mem.tree0 (g id) n X' hp').1, fun i hi => ?_⟩
      obtain ⟨k1, k2⟩ := hs.mem.tree (g id) n X' hp' i hi
      rw [hXX i hi] at k1
      refine ⟨k1, fun b hb => ?_⟩
      obtain ⟨q1, q2, q3, q4, q5⟩ := k2 b hb
      refine ⟨by rw [hrb]; exact q1, q2, ?_, fun id' p2 hp2 hc => ?_, fun id' n' Y i' hY hi' hne => ?_⟩
      · rintro (hb2 | ⟨id', p2, hp2, hc', e'⟩ | ⟨id', n', Y, i', hY, hi', hb'⟩)
        · exact q3 hb2
        · exact q4 id' p2 (hHr id' p2 hp2) hc' e'
        · exact q5 id' n' Y i' (hHr id' _ hY) hi' (fun h => hoff id' _ hY id _ hX h.1.symm) hb'
      · obtain ⟨p3, hp3, _⟩ := hH.get hp2
        exact q4 (g id') p3 hp3 hc
      · obtain ⟨p3, hp3, hrt3⟩ := hH.get hY
        obtain ⟨Y', rfl, _⟩ := hrt3.trees'
        refine q5 (g id') n' Y' i' hp3 hi' fun h => hne ⟨?_, h.2⟩
        rcases Nat.decEq id' id with hd | hd
        · exact absurd h.1 (hgd id' id _ _ hY hX hd)
        · exact hd
  have h2 := hF (ρ.ren g) (withOwn ρ Hr S) w _ hm (show Pre ρ.base w by rw [hs.mem.base]; exact hs.preB) hvs
  refine Calls.mono h2 fun e w' ⟨v, ρ', S', he, hb, hsm, hbase, hids, hm', hv⟩ => ?_
  rw [hrb] at hb hm'
  have hkeep : Same S w S w' := ⟨fun _ h => h, fun b hb' => hsm.blk b (.inl hb')⟩
  have hSS : ∀ b, S b → S' b := fun b h => hsm.sub b (.inl h)
  have hnone : ∀ id, (σ.heap.lookup id).isSome = true → T.lookup id = none := fun id h => by
    cases hl : T.lookup id with
    | none => rfl
    | some k =>
      obtain ⟨p, hp⟩ := Option.isSome_iff_exists.1 h
      exact absurd rfl ((hT.get hl).heap.get hp).1
  have hnr : ∀ id p, Hr.lookup id = some p → T.lookup id = none := fun id p h => hnone id (by rw [hHr id p h]; rfl)
  have hat : ∀ k, K.contains k = true → AtR ρ' (ρ.mix ρ' T) k (g' k) := fun k hkk => by
    have := List.all_eq_true.1 hK k (List.contains_iff_mem.1 hkk)
    rw [Bool.or_eq_true] at this
    rcases this with h | h
    · rw [Bool.and_eq_true, Bool.and_eq_true] at h
      obtain ⟨⟨h1, h2⟩, h3⟩ := h
      have h2 : g' k = g k := by simpa using h2
      have h3 : T.lookup (g k) = none := by simpa using h3
      have i1 := hids k (Nat.le_of_ble_eq_true h1)
      have i2 := Rho.mix_old (ρ := ρ) (ρ' := ρ') h3
      rw [h2]
      exact ⟨i2.m.trans i1.m.symm, i2.v.trans i1.v.symm, i2.b.trans i1.b.symm, i2.n.trans i1.n.symm⟩
    · exact Rho.mix_new (by simpa using h)
  have hrn : ∀ p : Nat → Prop, (∀ id k, T.lookup id = some k → p id) → Rn ρ (ρ.mix ρ' T) p := fun p hp => ⟨rfl, fun id => by
    cases hl : T.lookup id with
    | none => exact .inl (Rho.mix_old hl)
    | some k => exact .inr (hp id k hl)⟩
  have hro : ∀ id p, Hr.lookup id = some p → (ρ.mix ρ' T) id = ρ id := fun id p h => (Rho.mix_old (hnr id p h)).m
  refine ⟨v, ρ.mix ρ' T, he, ⟨hs.size, hs.defers, ⟨hs.below.old.trans hb, hs.below.same.trans hkeep, fun id hid => (hs.below.ids id hid).trans ?_⟩, ⟨hs.mem.base, Nat.le_trans hs.mem.low hb.size, fun b hb' => Nat.lt_of_lt_of_le (hs.mem.lt b hb') hb.size, ?_, ?_, ?_, ?_⟩, fun t s ht => (hs.env t s ht).keep hkeep (hrn _ fun id k hl => ?_)⟩, SV.hx_r hat hx hv⟩
  · cases hl : T.lookup id with
    | none => exact Rho.mix_old hl
    | some k => have := (hT.get hl).small; omega
  · intro id p hp
    rcases hn.get hp with hp2 | ⟨k, q, hkk, rfl, hq, hrt, _⟩
    · rw [hro id p hp2]; exact hmr.cap id p hp2
    · have := hm'.cap k q hq
      rw [(hat k hkk).m, hrt.shape.2]; exact this
  · intro id p hp hc
    rcases hn.get hp with hp2 | ⟨k, q, hkk, rfl, hq, hrt, hqx⟩
    · rw [hro id p hp2] at hc ⊢
      obtain ⟨cs, e, h1, h2, h3, h4, h5, h6, h7⟩ := hmr.obj id p hp2 hc
      refine ⟨cs, e, by rw [hsm.blk _ (.inr (.inl ⟨id, p, hp2, hc, rfl⟩))]; exact h1, h2, h3, h4, h5, h6, fun i j hi hj => ?_⟩
      obtain ⟨u, hu, hru⟩ := h7 i j hi hj
      exact ⟨u, hu, hru.keep hkeep (hrn _ fun id' k' hl => ((hT.get hl).heap.get (hHr id p hp2)).2.at_ i j)⟩
    · rw [(hat k hkk).m] at hc ⊢
      obtain ⟨cs, e, h1, h2, h3, h4, h5, h6, h7⟩ := hm'.obj k q hq hc
      refine ⟨cs, e, h1, by rw [hrt.shape.1]; exact h2, by rw [hrt.shape.2]; exact h3, h4, h5, fun hb' => h6 (hSS _ hb'), fun i j hi hj => ?_⟩
      rw [hrt.shape.2] at hi
      rw [hrt.shape.1] at hj ⊢
      obtain ⟨u, hu, hru⟩ := h7 i j hi hj
      refine ⟨u, hu, ?_⟩
      rw [hrt.at_ hi hj]
      exact AV.hx_r hat (hqx.at_ hi hj) hru
  · intro id id' p p' hp hp' hne hc hc'
    rcases hn.get hp with hp2 | ⟨k, q, hkk, rfl, hq, hrt, hqx⟩
    · rw [hro id p hp2] at hc ⊢
      rcases hn.get hp' with hp3 | ⟨k', q', hkk', rfl, hq', hrt', hqx'⟩
      · rw [hro id' p' hp3] at hc' ⊢
        exact hmr.inj id id' p p' hp2 hp3 hne hc hc'
      · rw [(hat k' hkk').m] at hc' ⊢
        obtain ⟨_, _, _, _, _, _, _, h6, _⟩ := hm'.obj k' q' hq' hc'
        exact fun e => h6 (hsm.sub _ (.inr (.inl ⟨id, p, hp2, hc, e⟩)))
    · rw [(hat k hkk).m] at hc ⊢
      rcases hn.get hp' with hp3 | ⟨k', q', hkk', rfl, hq', hrt', hqx'⟩
      · rw [hro id' p' hp3] at hc' ⊢
        obtain ⟨_, _, _, _, _, _, _, h6, _⟩ := hm'.obj k q hq hc
        exact fun e => h6 (hsm.sub _ (.inr (.inl ⟨id', p', hp3, hc', e.symm⟩)))
      · rw [(hat k' hkk').m] at hc' ⊢
        exact hm'.inj k k' q q' hq hq' (fun e => hne (by rw [e])) hc hc'
  · intro id n X hX
    rcases hn.get hX with hp2 | ⟨k, q, hkk, rfl, hq, hrt, hqx⟩
    · have o2 := Rho.mix_old (ρ := ρ) (ρ' := ρ') (hnr id _ hp2)
      refine ⟨o2.n.trans (hmr.tree0 id n X hp2).1, fun i hi => ?_⟩
      obtain ⟨k1, k2⟩ := hmr.tree id n X hp2 i hi
      rw [o2.v, o2.b]
      have hin : ∀ b, ρ.tb id i b → withOwn ρ Hr S b := fun b hb' => .inr (.inr ⟨id, n, X, i, hp2, hi, hb'⟩)
      refine ⟨k1.keep fun b hb' => hsm.blk b (hin b hb'), fun b hb' => ?_⟩
      obtain ⟨q1, q2, q3, q4, q5⟩ := k2 b hb'
      refine ⟨q1, Nat.lt_of_lt_of_le q2 hb.size, q3, fun id' p' hp' hc => ?_, fun id' n' Y i' hY hi' hne => ?_⟩
      · rcases hn.get hp' with hp3 | ⟨k', q', hkk', rfl, hq', hrt', hqx'⟩
        · rw [hro id' p' hp3] at hc ⊢
          exact q4 id' p' hp3 hc
        · rw [(hat k' hkk').m] at hc ⊢
          obtain ⟨_, _, _, _, _, _, _, h6, _⟩ := hm'.obj k' q' hq' hc
          exact fun e => h6 (hsm.sub _ (by rw [e]; exact hin b hb'))
      · rcases hn.get hY with hp3 | ⟨k', q', hkk', rfl, hq', hrt', hqx'⟩
        · rw [(Rho.mix_old (ρ := ρ) (ρ' := ρ') (hnr id' _ hp3)).b]
          exact q5 id' n' Y i' hp3 hi' hne
        · obtain ⟨Y', rfl, _⟩ := hrt'.trees
          rw [(hat k' hkk').b]
          exact fun h => ((hm'.tree k' n' Y' hq' i' hi').2 b h).2.2.1 (hsm.sub _ (hin b hb'))
    · obtain ⟨X', rfl, hXX⟩ := hrt.trees
      have a2 := hat k hkk
      refine ⟨a2.n.trans (hm'.tree0 k n X' hq).1, fun i hi => ?_⟩
      obtain ⟨k1, k2⟩ := hm'.tree k n X' hq i hi
      rw [a2.v, a2.b, hXX i hi]
      refine ⟨k1, fun b hb' => ?_⟩
      obtain ⟨q1, q2, q3, q4, q5⟩ := k2 b hb'
      refine ⟨q1, q2, fun h => q3 (hSS b h), fun id' p' hp' hc => ?_, fun id' n' Y i' hY hi' hne => ?_⟩
      · rcases hn.get hp' with hp3 | ⟨k', q', hkk', rfl, hq', hrt', hqx'⟩
        · rw [hro id' p' hp3] at hc ⊢
          exact fun e => q3 (hsm.sub _ (.inr (.inl ⟨id', p', hp3, hc, e⟩)))
        · rw [(hat k' hkk').m] at hc ⊢
          exact q4 k' q' hq' hc
      · rcases hn.get hY with hp3 | ⟨k', q', hkk', rfl, hq', hrt', hqx'⟩
        · rw [(Rho.mix_old (ρ := ρ) (ρ' := ρ') (hnr id' _ hp3)).b]
          exact fun h => q3 (hsm.sub _ (.inr (.inr ⟨id', n', Y, i', hp3, hi', h⟩)))
        · obtain ⟨Y', rfl, _⟩ := hrt'.trees
          rw [(hat k' hkk').b]
          exact q5 k' n' Y' i' hq' hi' fun h => hne ⟨by rw [h.1], h.2⟩
  · exact List.all_eq_true.1 (hT.get hl).env _ (lookup_mem ht)
theorem St.mutx {ρ : Rho} {S : Nat → Prop} {a : Act} {w : World} (hs : St N w0 ρ S σ a w) {f : FuncId} {xs : List Operand} {args : List SV} {H H' Hr Hn : Heap} {r : SV} {g g' : Nat → Nat} {K : List Nat} {T : List (Nat × Nat)}
    (hF : FnG P f args H r H') (hk : KnG σ Hr g xs args)
    (hH : LkAll (fun id p => ∃ p', σ.heap.lookup (g id) = some p' ∧ AObj.Rt g p p') H)
    (hr : LkAll (fun id p => σ.heap.lookup id = some p ∧ ((H.map (·.1)).map g).contains id = false) Hr)
    (hg : distB ((H.map (·.1)).map g) = true) (hT : FrAll σ T)
    (hK : K.all (fun k => (Nat.ble 1000000 k && (g' k == g k) && (T.lookup (g k)).isNone) || (T.lookup (g' k) == some k)) = true) (hgi : distB (K.map g') = true)
    (hx : r.hx K = true)
    (hn : LkAll (fun id p => Hr.lookup id = some p ∨ ∃ k q, K.contains k = true ∧ g' k = id ∧ H'.lookup k = some q ∧ AObj.Rt g' q p ∧ q.Hx K) Hn) :
    Calls P f (xs.map a.eval).toArray w fun e w' => ∃ v ρn, e = .returned v ∧ St N w0 ρn S ⟨σ.env, Hn⟩ a w' ∧ RS ρn w' S (r.ren g') v := by
  have hmr : MemOk w0.base ρ S Hr w := hs.mem.le' fun k p hk => HLe.refl ((hr.get hk).1)
  have hsame : Same S w (withOwn ρ Hr S) w := ⟨fun _ h => .inl h, fun _ _ => rfl⟩
  exact hs.mutxR hF (hk.sound hs hmr hsame) hH hr hg hT hK hgi hx hn
theorem RSs.app {ρ : Rho} {w : World} {S : Nat → Prop} : ∀ {l m : List SV} {us vs : List Value}, RSs ρ w S l us → RSs ρ w S m vs → RSs ρ w S (l ++ m) (us ++ vs)
  | [], m, us, vs, h, h2 => by rw [show us = [] from h]; exact h2
  | _ :: _, _, _, _, ⟨u, us, e, h1, h3⟩, h2 => by subst e; exact ⟨u, us ++ _, rfl, h1, RSs.app h3 h2⟩
theorem capR {ρ : Rho} {w : World} {S : Nat → Prop} {cv : Nat → AV} : ∀ (m i : Nat) (vs : List Value), vs.length = m → (∀ j, j < m → ∃ u, vs[j]? = some u ∧ R ρ w S (cv (i + j)) u) → RSs ρ w S ((List.range' i m).map fun j => .one (cv j)) vs
  | 0, _, vs, hl, _ => List.eq_nil_of_length_eq_zero hl
  | m + 1, i, [], hl, _ => by simp at hl
  | m + 1, i, v :: vs, hl, h => by
    obtain ⟨u, hu, hd⟩ := h 0 (by omega)
    cases hu
    refine ⟨_, vs, rfl, hd, capR m (i + 1) vs (by simpa using hl) fun j hj => ?_⟩
    obtain ⟨u, hu, hd⟩ := h (j + 1) (by omega)
    exact ⟨u, by simpa using hu, by rw [show i + 1 + j = i + (j + 1) by omega]; exact hd⟩
theorem St.mutxV {ρ : Rho} {S : Nat → Prop} {a : Act} {w : World} (hs : St N w0 ρ S σ a w) {f : FuncId} {xs : List Operand} {us : List Value} {m : Nat} {cv caps : Nat → AV} {args : List SV} {H H' Hr Hn : Heap} {r : SV} {g g' : Nat → Nat} {K : List Nat} {T : List (Nat × Nat)}
    (hF : FnG P f (args ++ capL m cv) H r H') (hk : KnG σ Hr g xs args) (hm : us.length = m) (hu : ∀ j, j < m → ∃ u, us[j]? = some u ∧ R ρ w S (caps j) u) (hcv : ∀ j, j < m → caps j = (cv j).ren g)
    (hH : LkAll (fun id p => ∃ p', σ.heap.lookup (g id) = some p' ∧ AObj.Rt g p p') H)
    (hr : LkAll (fun id p => σ.heap.lookup id = some p ∧ ((H.map (·.1)).map g).contains id = false) Hr)
    (hg : distB ((H.map (·.1)).map g) = true) (hT : FrAll σ T)
    (hK : K.all (fun k => (Nat.ble 1000000 k && (g' k == g k) && (T.lookup (g k)).isNone) || (T.lookup (g' k) == some k)) = true) (hgi : distB (K.map g') = true)
    (hx : r.hx K = true)
    (hn : LkAll (fun id p => Hr.lookup id = some p ∨ ∃ k q, K.contains k = true ∧ g' k = id ∧ H'.lookup k = some q ∧ AObj.Rt g' q p ∧ q.Hx K) Hn) :
    Calls P f (xs.map a.eval ++ us).toArray w fun e w' => ∃ v ρn, e = .returned v ∧ St N w0 ρn S ⟨σ.env, Hn⟩ a w' ∧ RS ρn w' S (r.ren g') v := by
  have hmr : MemOk w0.base ρ S Hr w := hs.mem.le' fun k p hk => HLe.refl ((hr.get hk).1)
  have hsame : Same S w (withOwn ρ Hr S) w := ⟨fun _ h => .inl h, fun _ _ => rfl⟩
  refine hs.mutxR hF ((hk.sound hs hmr hsame).app (capR m 0 us hm fun j hj => ?_)) hH hr hg hT hK hgi hx hn
  obtain ⟨u, h1, h2⟩ := hu j hj
  rw [hcv j hj] at h2
  exact ⟨u, h1, by rw [Nat.zero_add]; exact (R.ren h2).keep hsame (Rn.refl _ _)⟩
theorem ARun.mutx {f d : Nat} {xs : List Operand} {ts : Array TypeId} {args : List SV} {H H' Hr Hn : Heap} {r : SV} {g g' : Nat → Nat} {K : List Nat} {T : List (Nat × Nat)} (ho : o.op = .call { callee := .value (.func f), args := xs.toArray, argTypes := ts })
    (hF : FnG P f args H r H') (hB : callB P f = true) (hk : KnG σ Hr g xs args)
    (hH : LkAll (fun id p => ∃ p', σ.heap.lookup (g id) = some p' ∧ AObj.Rt g p p') H)
    (hr : LkAll (fun id p => σ.heap.lookup id = some p ∧ ((H.map (·.1)).map g).contains id = false) Hr)
    (hg : distB ((H.map (·.1)).map g) = true) (hT : FrAll σ T)
    (hK : K.all (fun k => (Nat.ble 1000000 k && (g' k == g k) && (T.lookup (g k)).isNone) || (T.lookup (g' k) == some k)) = true) (hgi : distB (K.map g') = true)
    (hx : r.hx K = true)
    (hn : LkAll (fun id p => Hr.lookup id = some p ∨ ∃ k q, K.contains k = true ∧ g' k = id ∧ H'.lookup k = some q ∧ AObj.Rt g' q p ∧ q.Hx K) Hn)
    (hgd : o.guard = none) (hd : o.dst = some d) (hdN : d < N) {r' : SV} (hr' : r.ren g' = r') (h : ARun P N w0 ops Q rest ⟨(d, r') :: σ.env, Hn⟩) : ARun P N w0 ops Q (o :: rest) σ := by
  subst hr'
  intro ρ S a w Q' hQ hs
  refine wpList_plain hgd fun K' hK' => ?_
  have e : (execOp a.eval o).run P w = .ok (.enter f (xs.map a.eval).toArray) w := by
    have := execCall (P := P) (ev := a.eval) (caps := #[]) ho rfl hB w
    simpa using this
  unfold Oper.wp
  rw [e]
  refine Calls.mono (hs.mutx hF hk hH hr hg hT hK hgi hx hn) fun e w' ⟨v, ρn, he, hst, hv⟩ => ?_
  subst he
  rw [hd]
  exact hK' _ _ (h ρn S _ w' Q' hQ (hst.put hdN hv))
theorem ARun.mutxV {f d m : Nat} {c : Operand} {cv caps : Nat → AV} {xs : List Operand} {ts : Array TypeId} {args : List SV} {H H' Hr Hn : Heap} {r : SV} {g g' : Nat → Nat} {K : List Nat} {T : List (Nat × Nat)} (ho : o.op = .call { callee := .value c, args := xs.toArray, argTypes := ts })
    (hc : Kn σ c (.one (.fn f m caps))) (hF : FnG P f (args ++ capL m cv) H r H') (hcv : ∀ j, j < m → caps j = (cv j).ren g) (hB : callB P f = true) (hk : KnG σ Hr g xs args)
    (hH : LkAll (fun id p => ∃ p', σ.heap.lookup (g id) = some p' ∧ AObj.Rt g p p') H)
    (hr : LkAll (fun id p => σ.heap.lookup id = some p ∧ ((H.map (·.1)).map g).contains id = false) Hr)
    (hg : distB ((H.map (·.1)).map g) = true) (hT : FrAll σ T)
    (hK : K.all (fun k => (Nat.ble 1000000 k && (g' k == g k) && (T.lookup (g k)).isNone) || (T.lookup (g' k) == some k)) = true) (hgi : distB (K.map g') = true)
    (hx : r.hx K = true)
    (hn : LkAll (fun id p => Hr.lookup id = some p ∨ ∃ k q, K.contains k = true ∧ g' k = id ∧ H'.lookup k = some q ∧ AObj.Rt g' q p ∧ q.Hx K) Hn)
    (hgd : o.guard = none) (hd : o.dst = some d) (hdN : d < N) {r' : SV} (hr' : r.ren g' = r') (h : ARun P N w0 ops Q rest ⟨(d, r') :: σ.env, Hn⟩) : ARun P N w0 ops Q (o :: rest) σ := by
  subst hr'
  intro ρ S a w Q' hQ hs
  refine wpList_plain hgd fun K' hK' => ?_
  obtain ⟨us, ec, hm, hcc⟩ := hc.sound hs
  have e : (execOp a.eval o).run P w = .ok (.enter f (xs.map a.eval ++ us.toList).toArray) w := by
    have := execCall (P := P) (ev := a.eval) (caps := us) ho ec hB w
    rw [this]; simp
  unfold Oper.wp
  rw [e]
  refine Calls.mono (hs.mutxV (us := us.toList) (caps := caps) (cv := cv) hF hk (by simpa using hm) (fun j hj => by obtain ⟨u, h1, h2⟩ := hcc j hj; exact ⟨u, by simpa using h1, h2⟩) hcv hH hr hg hT hK hgi hx hn) fun e w' ⟨v, ρn, he, hst, hv⟩ => ?_
  subst he
  rw [hd]
  exact hK' _ _ (h ρn S _ w' Q' hQ (hst.put hdN hv))
end
end Go.Proofs.Ytonfeiloekofdaa

namespace Go.Proofs.Ytonfeiloekofdaa
open Go.ChangeShapes Go.WideShapes Go.ChangeAt Go.RowKit Go.BigFrame Go.Deep
set_option linter.unusedVariables false
set_option linter.unusedSimpArgs false
def FnC2 (P : Program) (f : FuncId) (n : Nat) (F : Nat → Nat) (args : List SV) (p s : Nat) {X : Type} (φ : X → Nat → Nat → Prop) (r : X → SV) : Prop :=
  ∀ (c : Value) (ρ : Rho) (S : Nat → Prop) (w : World) (vs : List Value), MemOk ρ.base ρ S [(1000000, curO c n F p s)] w → Pre ρ.base w → RSs ρ w S (.one (.ptr 1000000 3 0 0) :: args) vs →
    Calls P f vs.toArray w fun e w' => ∃ x p' s' v S', φ x p' s' ∧ e = .returned v ∧ Below ρ.base w w' ∧ Same S w S' w' ∧ MemOk ρ.base ρ S' [(1000000, curO c n F p' s')] w' ∧ DR w' (freshS ρ S') (r x) v
inductive Fx (H : Heap) : AV → AV → Prop
  | int {k : IntKind} {n : Int} : Fx H (.int k n) (.int k n)
  | bool {b : Bool} : Fx H (.bool b) (.bool b)
  | str {s : ByteArray} : Fx H (.str s) (.str s)
  | frs {x : AV} : Fx H (.frs x) x
  | cnil {sz : Nat} {g : Nat → Nat → AV} : Fx H (.con (.slice none 0 0)) (.lst sz 0 g)
  | own {id sz n : Nat} {g : Nat → Nat → AV} {o : AObj} : (id == 1000000) = false → H.lookup id = some o → o.sz = sz → n ≤ o.n → (∀ i j, i < n → j < sz → Fx H (o.f i j) (g i j)) → Fx H (.own id sz n) (.lst sz n g)
  | tre {id i n : Nat} {X : Nat → AV} : (id == 1000000) = false → H.lookup id = some (.trees n X) → i < n → Fx H (.tre id i) (X i)
abbrev giveUp (ρ : Rho) (H : Heap) (S : Nat → Prop) : Nat → Prop := withOwn ρ (H.filter fun p => p.1 != 1000000) S
theorem lookup_keep {id : Nat} : ∀ {H : Heap} {k : Nat} {q : AObj}, H.lookup k = some q → k ≠ id → (H.filter fun p => p.1 != id).lookup k = some q
  | [], _, _, h, _ => by simp at h
  | (a, b) :: l, k, q, h, hne => by
    rcases lookup_put h with ⟨rfl, rfl⟩ | ⟨h1, h2⟩
    · rw [List.filter_cons_of_pos (by simpa using hne)]; simp
    · by_cases e : a = id
      · subst e
        rw [List.filter_cons_of_neg (by simp)]
        exact lookup_keep h2 hne
      · rw [List.filter_cons_of_pos (by simpa using e), List.lookup_cons, show (k == a) = false by simpa using h1]
        exact lookup_keep h2 hne
theorem Fx.sound {B : Nat} {ρ : Rho} {S : Nat → Prop} {H : Heap} {w : World} (hm : MemOk B ρ S H w) {x y : AV} (h : Fx H x y) : ∀ {v : Value}, R ρ w S x v → D w (freshS ρ (giveUp ρ H S)) y v := by
  induction h with
  | int => exact fun h => h
  | bool => exact fun h => h
  | str => exact fun h => h
  | frs => exact fun h => D.keep (S := freshS ρ S) ⟨fun _ hb => ⟨.inl hb.1, hb.2⟩, fun _ _ => rfl⟩ h
  | cnil =>
    intro v hv
    have e : v = Value.slice none 0 0 := hv
    exact ⟨none, 0, e, Nat.le_refl _, by decide, fun _ => rfl, fun i hi => absurd hi (by omega)⟩
  | @tre id i n X hid hX hi =>
    intro v hv
    obtain ⟨e, _⟩ := hv
    rw [e]
    obtain ⟨t1, t2⟩ := hm.tree id n X hX i hi
    exact t1.d fun b hb => ⟨.inr (.inr ⟨id, n, X, i, lookup_keep hX (by simpa using hid), hi, hb⟩), by rw [hm.base]; exact (t2 b hb).1⟩
  | @own id sz n g o hid ho hsz hn _ ih =>
    intro v hv
    subst hsz
    obtain ⟨A, hv, hn1, hn2, hA⟩ := hv
    refine ⟨A, _, hv, hn1, hn2, (fun e => by rcases hA with h | ⟨_, h⟩; (· rw [h] at e; cases e); (· exact h)), fun i hi => ?_⟩
    have hc : (ρ id).2 ≠ 0 := by omega
    obtain ⟨cs, e, k1, k2, k3, k4, k5, k6, k7⟩ := hm.obj id o ho hc
    refine ⟨(ρ id).1, 0, by rcases hA with h | ⟨_, h⟩; (· exact h); (· exact absurd h hc), ⟨.inr (.inl ⟨id, o, lookup_keep ho (by simpa using hid), hc, rfl⟩), by rw [hm.base]; exact k5⟩, fun j hj => ?_⟩
    obtain ⟨u, hu, hr⟩ := k7 i j (by omega) hj
    refine ⟨u, ?_, ih i j hi hj hr⟩
    simp [World.cell?, k1, hu]
def FxL (H : Heap) : List AV → List AV → Prop
  | [], [] => True
  | x :: l, y :: m => Fx H x y ∧ FxL H l m
  | _, _ => False
theorem FxL.sound {B : Nat} {ρ : Rho} {S : Nat → Prop} {H : Heap} {w : World} (hm : MemOk B ρ S H w) : ∀ {l m : List AV} {us : List Value}, FxL H l m → RL ρ w S l us → DL w (freshS ρ (giveUp ρ H S)) m us
  | [], [], _, _, h => h
  | _ :: _, _ :: _, _, ⟨g1, g2⟩, ⟨u, us, e, k1, k2⟩ => ⟨u, us, e, g1.sound hm k1, FxL.sound hm g2 k2⟩
  | [], _ :: _, _, h, _ => h.elim
  | _ :: _, [], _, h, _ => h.elim
def FxS (H : Heap) : SV → SV → Prop
  | .one x, .one y => Fx H x y
  | .agg l, .agg m => FxL H l m
  | .tup2 (.one a) (.one b), .tup2 (.one c) (.one d) => Fx H a c ∧ Fx H b d
  | .tup3 (.one a) (.one b) (.one e), .tup3 (.one c) (.one d) (.one f) => Fx H a c ∧ Fx H b d ∧ Fx H e f
  | _, _ => False
theorem FxS.sound {B : Nat} {ρ : Rho} {S : Nat → Prop} {H : Heap} {w : World} (hm : MemOk B ρ S H w) {s t : SV} {v : Value} (h : FxS H s t) (hr : RS ρ w S s v) : DR w (freshS ρ (giveUp ρ H S)) t v := by
  unfold FxS at h
  split at h
  · exact h.sound hm hr
  · obtain ⟨us, e, hl⟩ := hr
    exact ⟨us, e, FxL.sound hm h hl⟩
  · obtain ⟨a, b, e, g1, g2⟩ := hr
    exact ⟨a, b, e, h.1.sound hm g1, h.2.sound hm g2⟩
  · obtain ⟨a, b, c, e, g1, g2, g3⟩ := hr
    exact ⟨a, b, c, e, h.1.sound hm g1, h.2.1.sound hm g2, h.2.2.sound hm g3⟩
  · exact h.elim
def RetC2 (P : Program) (fn : Func) (c : Value) (n : Nat) (F : Nat → Nat) {X : Type} (φ : X → Nat → Nat → Prop) (r : X → SV) : Exit → Sig → Prop
  | .ret, σ => ∃ x p' s' t, φ x p' s' ∧ ResL P σ fn.results.toList t ∧ FxS σ.heap t (r x) ∧ σ.heap.lookup 1000000 = some (curO c n F p' s')
  | .normal, σ => ∃ x p' s' t, φ x p' s' ∧ ResL P σ fn.results.toList t ∧ FxS σ.heap t (r x) ∧ σ.heap.lookup 1000000 = some (curO c n F p' s')
  | _, _ => False
theorem cur_only {c : Value} {n p s : Nat} {F : Nat → Nat} {k : Nat} {q : AObj} (ho : ([(1000000, curO c n F p s)] : Heap).lookup k = some q) : k = 1000000 ∧ q = curO c n F p s := by
  rcases lookup_put ho with ⟨rfl, rfl⟩ | ⟨_, ho⟩
  · exact ⟨rfl, rfl⟩
  · simp at ho
theorem FnC2.of_body {P : Program} {f : FuncId} {fn : Func} {b : Code} {n : Nat} {F : Nat → Nat} {args : List SV} {p s : Nat} {X : Type} {φ : X → Nat → Nat → Prop} {r : X → SV} (hf : P.funcs[f]? = some fn) (hb : fn.body = some b) (hle : args.length + 1 ≤ fn.ntmps)
    (h : ∀ w0 c, AW P fn.ntmps w0 b (RetC2 P fn c n F φ r) ⟨enumE 0 (.one (.ptr 1000000 3 0 0) :: args), [(1000000, curO c n F p s)]⟩) : FnC2 P f n F args p s φ r := by
  intro c ρ0 S w vs hm hpre hd
  have hl := hd.len
  refine calls_of_wp hf hb ?_
  refine h ⟨ρ0.base, w, S, w, ρ0, hpre⟩ c ρ0 S _ w _ (fun e ρ S' σ a w' hs hq => ?_) ⟨?_, rfl, ⟨Below.refl _ _, Same.refl _ _, fun _ _ => .refl _ _⟩, hm, ?_⟩
  · have fin : (∃ x p' s' t, φ x p' s' ∧ ResL P σ fn.results.toList t ∧ FxS σ.heap t (r x) ∧ σ.heap.lookup 1000000 = some (curO c n F p' s')) → a.defers = [] ∧ ∃ v, (results fn a.tmps).run P w' = .ok v w' ∧
        (∃ x p' s' v' S', φ x p' s' ∧ Ending.returned v = .returned v' ∧ Below ρ0.base w w' ∧ Same S w S' w' ∧ MemOk ρ0.base ρ0 S' [(1000000, curO c n F p' s')] w' ∧ DR w' (freshS ρ0 S') (r x) v') := fun ⟨x, p', s', t, hφ, hr, hfw, hcur⟩ => by
      obtain ⟨v, hv, hrun⟩ := hr.run hs
      have hid := hs.below.ids 1000000 (Nat.le_refl _)
      have e1 : (ρ 1000000) = (ρ0 1000000) := hid.m
      have hpos : (ρ 1000000).2 ≠ 0 := hs.mem.pos hcur (i := 0) Nat.zero_lt_one
      obtain ⟨cs, e, g1, g2, g3, g4, g5, g6, g7⟩ := hs.mem.obj _ _ hcur hpos
      have hnot : ¬ giveUp ρ σ.heap S' (ρ 1000000).1 := by
        rintro (hb | ⟨id', p', hp', hc', e'⟩ | ⟨id', n', X', i', hX', hi', hb'⟩)
        · exact g6 hb
        · obtain ⟨h1, h2⟩ := lookup_drop hp'
          exact hs.mem.inj id' _ p' _ h1 hcur h2 hc' hpos e'
        · obtain ⟨h1, h2⟩ := lookup_drop hX'
          exact ((hs.mem.tree id' n' X' h1 i' hi').2 _ hb').2.2.2.1 _ _ hcur hpos rfl
      have hsame : Same S' w' (giveUp ρ σ.heap S') w' := ⟨fun _ h => .inl h, fun _ _ => rfl⟩
      have hfr : freshS ρ0 (giveUp ρ σ.heap S') = freshS ρ (giveUp ρ σ.heap S') := by
        have : ρ.base = ρ0.base := hs.mem.base
        funext b
        simp only [freshS, this]
      refine ⟨hs.defers, v, hrun, x, p', s', v, giveUp ρ σ.heap S', hφ, rfl, hs.below.old, hs.below.same.trans hsame, ?_, by rw [hfr]; exact hfw.sound hs.mem hv⟩
      rw [e1] at g1 g2 g3 g4 g5 g6 hnot
      refine ⟨rfl, hs.mem.low, ?_, fun id o ho => ?_, fun id o ho hc => ?_, fun id id' o o' ho ho' hne => ?_, fun id m X hX => ?_⟩
      · rintro q (hb | ⟨id, p, hp, hc, rfl⟩ | ⟨id, n, X, i, hX, hi, hb⟩)
        · exact hs.mem.lt q hb
        · exact hs.mem.blk (lookup_drop hp).1 hc
        · exact ((hs.mem.tree id n X (lookup_drop hX).1 i hi).2 q hb).2.1
      · obtain ⟨rfl, rfl⟩ := cur_only ho; exact g3
      · obtain ⟨rfl, rfl⟩ := cur_only ho
        refine ⟨cs, e, g1, g2, g3, g4, g5, hnot, fun i j hi hj => ?_⟩
        obtain ⟨u, hu, hr⟩ := g7 i j hi hj
        refine ⟨u, hu, ?_⟩
        unfold curO AObj.f at hr ⊢
        match j with
        | 0 =>
          have hr : u = c ∧ D w' S' _ u := hr
          exact ⟨hr.1, hr.2.keep hsame⟩
        | 1 => exact hr
        | 2 => exact hr
        | k + 3 => exact hr
      · exact absurd ((cur_only ho).1.trans (cur_only ho').1.symm) hne
      · cases (cur_only hX).2
    cases e
    case ret => exact fin hq
    case normal => exact fin hq
    all_goals exact hq.elim
  · simp [hl]; omega
  · intro t s' ht
    obtain ⟨j, u, e1, e2, e3⟩ := hd.get ht
    have hj : j < vs.length := (List.getElem?_eq_some_iff.1 e2).1
    have : ((vs.toArray ++ Array.replicate (fn.ntmps - vs.toArray.size) undef).getD t undef) = u := by
      rw [Array.getD_eq_getD_getElem?, Array.getElem?_append_left (by simp; omega)]
      simp [show t = j by omega, e2]
    show RS _ w S s' ((vs.toArray ++ Array.replicate (fn.ntmps - vs.toArray.size) undef).getD t undef)
    rw [this]
    exact e3
section
variable {P : Program} {N : Nat} {w0 : Start} {σ : Sig} {ops : Array Oper} {rest : List Oper} {o : Oper} {Q : Sig → Prop}
theorem withOwn_nil {ρ : Rho} {S : Nat → Prop} : withOwn ρ [] S = S := funext fun b => propext ⟨fun h => by
  rcases h with h | ⟨_, _, h, _⟩ | ⟨_, _, _, _, h, _⟩
  · exact h
  · simp at h
  · simp at h, .inl⟩
end
end Go.Proofs.Ytonfeiloekofdaa

namespace Go.Proofs.Ytonfeiloekofdaa
open Go.ChangeShapes Go.WideShapes Go.ChangeAt Go.RowKit Go.BigFrame Go.Deep
set_option linter.unusedVariables false
set_option linter.unusedSimpArgs false
theorem Oper.wp_only {P : Program} {o : Oper} {a : Act} {w : World} {K : Act → World → Prop} {Q Q2 : Exit → Act → World → Prop} (h1 : ∀ c a w, ¬ Q2 (.panic c) a w) (h2 : ∀ a w, ¬ Q2 .outgrown a w) (hh : o.wp P a w K Q2) : o.wp P a w K Q := by
  unfold Oper.wp at *
  generalize (execOp a.eval o).run P w = r at *
  cases r with
  | ok n w' => cases n <;> simp only [Oper.upon] at hh ⊢ <;> first | exact hh | exact Calls.mono hh (fun e w'' he => by cases e <;> first | exact he | exact absurd he (h1 _ _ _) | (obtain ⟨_, _, he⟩ := he; exact absurd he (h2 _ _)))
  | halt x w' => cases x <;> simp only [Oper.upon] at hh ⊢ <;> first | exact hh | exact absurd hh (h1 _ _ _)
def pathB (md : Region.Mode) (ops : Array Oper) : List Nat → Bool
  | i :: j :: r => Nat.blt j i && (match ops[i]? with | some o => o.after.any (fun e => Region.binds md e && e.on == j) | none => false) && pathB md ops (j :: r)
  | _ => true
theorem path_lt {md : Region.Mode} {ops : Array Oper} : ∀ {r : List Nat} {i j : Nat}, pathB md ops (i :: r) = true → j ∈ r → j < i
  | [], _, _, _, h => by cases h
  | k :: r, i, j, hp, h => by
    simp only [pathB, Bool.and_eq_true] at hp
    have hk : k < i := by simpa [Nat.blt_eq] using hp.1.1
    rcases List.mem_cons.1 h with e | h
    · rw [e]; exact hk
    · have := path_lt hp.2 h; omega
theorem path_all {md : Region.Mode} {ops : Array Oper} {listed : Array Bool} (hcl : ∀ j o, ops[j]? = some o → listed.getD j false = true → ∀ e ∈ o.after, Region.binds md e = true → listed.getD e.on false = true) :
    ∀ {r : List Nat} {i : Nat}, pathB md ops (i :: r) = true → (∀ o, ops[i]? = some o → ∀ e ∈ o.after, Region.binds md e = true → listed.getD e.on false = true) → ∀ j ∈ r, listed.getD j false = true
  | [], _, _, _, _, h => by cases h
  | k :: r, i, hp, hi, j, h => by
    simp only [pathB, Bool.and_eq_true] at hp
    have hk : listed.getD k false = true := by
      cases ho : ops[i]? with
      | none => rw [ho] at hp; cases hp.1.2
      | some o =>
        have h2 := hp.1.2
        simp only [ho] at h2
        obtain ⟨e, he, hb⟩ := Array.any_eq_true'.1 h2
        rw [Bool.and_eq_true, beq_iff_eq] at hb
        rw [← hb.2]; exact hi o ho e he hb.1
    rcases List.mem_cons.1 h with e | h
    · rw [e]; exact hk
    · exact path_all hcl hp.2 (fun o ho => hcl k o ho hk) j h
theorem path_ready {md : Region.Mode} {ops : Array Oper} {listed : Array Bool} (hcl : ∀ j o, ops[j]? = some o → listed.getD j false = true → ∀ e ∈ o.after, Region.binds md e = true → listed.getD e.on false = true) :
    ∀ {l : List Nat} {i j : Nat}, pathB md ops l = true → i ∈ l → j ∈ l → j < i → (∀ o, ops[i]? = some o → ∀ e ∈ o.after, Region.binds md e = true → listed.getD e.on false = true) → listed.getD j false = true
  | [], _, _, _, h, _, _, _ => by cases h
  | k :: r, i, j, hp, h, h', hji, hi => by
    have htail : pathB md ops r = true := by
      cases r with
      | nil => rfl
      | cons x r => simp only [pathB, Bool.and_eq_true] at hp; exact hp.2
    rcases List.mem_cons.1 h with e | h
    · rcases List.mem_cons.1 h' with e' | h'
      · omega
      · rw [← e] at hp; exact path_all hcl hp hi j h'
    · rcases List.mem_cons.1 h' with e' | h'
      · have := path_lt hp h; omega
      · exact path_ready hcl htail h h' hji hi
def consO (d : Option Nat) (s : SV) (e : Env) : Env := match d with | some d => (d, s) :: e | none => e
def FOk (d : Option Nat) (F : Env) (s : SV) : Prop := match d with | some d => F.lookup d = some s ∧ F.all (fun p => p.1 == d) = true | none => F = [] ∧ s = .one (.con undef)
def EffStep (P : Program) (N : Nat) (w0 : Start) (ops : Array Oper) (o : Oper) (σ : Sig) (new : List Nat) (F : Env) (H' : Heap) : Prop :=
  ∀ E : Env, (new.all fun id => E.all fun p => p.2.no id) = true → ∀ (Q : Sig → Prop) (rest : List Oper), ARun P N w0 ops Q rest ⟨F ++ (σ.env ++ E), H'⟩ → ARun P N w0 ops Q (o :: rest) ⟨σ.env ++ E, σ.heap⟩
def Sub (Hc H : Heap) : Prop := LkAll (fun id o => H.lookup id = some o) Hc
def edgeB (md : Region.Mode) (ops : Array Oper) (q k : Nat) : Bool := match ops[q]? with | some o => o.after.any (fun e => Region.binds md e && e.on == k) | none => false
inductive ADsE (P : Program) (N : Nat) (w0 : Start) (md : Region.Mode) (ops : Array Oper) (Hc He : Heap) (q : Nat) (effs : List Nat) : Nat → List Nat → List Oper → Sig → Sig → Prop
  | nil {k : Nat} {nw : List Nat} {σ : Sig} : ADsE P N w0 md ops Hc He q effs k nw [] σ σ
  | pure {k : Nat} {nw : List Nat} {o : Oper} {rest : List Oper} {σ τ : Sig} {d : Nat} {s : SV} {Hp : Heap} : effs.contains k = false → o.dst = some d → d < N → OpStep P ops o (Sig.only ⟨σ.env, Hp⟩ (o.looksAt ops)) s → (Hp = Hc ∨ (Hp = He ∧ edgeB md ops q k = true)) →
      mentB nw (σ.env.filter fun p => (o.looksAt ops).contains p.1) s = true → ADsE P N w0 md ops Hc He q effs (k + 1) nw rest ⟨(d, s) :: σ.env, σ.heap⟩ τ → ADsE P N w0 md ops Hc He q effs k nw (o :: rest) σ τ
  | eff {k : Nat} {nw new : List Nat} {o : Oper} {rest : List Oper} {σ τ : Sig} {s : SV} {F : Env} {H' : Heap} : effs.contains k = true → (∀ d, o.dst = some d → d < N) → EffStep P N w0 ops o (Sig.only σ (o.looksAt ops)) new F H' → FOk o.dst F s →
      (new.all fun id => σ.env.all fun p => p.2.no id) = true → mentB nw (σ.env.filter fun p => (o.looksAt ops).contains p.1) s = true → Sub Hc H' → (k < q → Sub He H') → ADsE P N w0 md ops Hc He q effs (k + 1) (new ++ nw) rest ⟨consO o.dst s σ.env, H'⟩ τ → ADsE P N w0 md ops Hc He q effs k nw (o :: rest) σ τ
section
variable {P : Program} {N : Nat} {w0 : Start} {ops : Array Oper} {md : Region.Mode} {Hc He : Heap} {q : Nat} {effs : List Nat}
theorem ADsE.lay {k0 : Nat} {nw0 : List Nat} {l : List Oper} {σ τ : Sig} (h : ADsE P N w0 md ops Hc He q effs k0 nw0 l σ τ) : ∃ (s : Nat → SV) (e : Nat → Env) (Hs : Nat → Heap) (nw nf : Nat → List Nat), e 0 = σ.env ∧ Hs 0 = σ.heap ∧ nw 0 = nw0 ∧ τ = ⟨e l.length, Hs l.length⟩ ∧
    ∀ k o, l[k]? = some o → (∀ d, o.dst = some d → d < N) ∧ e (k + 1) = consO o.dst (s k) (e k) ∧ nw (k + 1) = nf k ++ nw k ∧ mentB (nw k) ((e k).filter fun p => (o.looksAt ops).contains p.1) (s k) = true ∧ ((nf k).all fun id => (e k).all fun p => p.2.no id) = true ∧ (Sub Hc (Hs k) → Sub Hc (Hs (k + 1))) ∧ (k0 + k < q → Sub He (Hs k) → Sub He (Hs (k + 1))) ∧
      ((effs.contains (k0 + k) = false ∧ o.dst.isSome = true ∧ nf k = [] ∧ Hs (k + 1) = Hs k ∧ ∃ Hp, (Hp = Hc ∨ (Hp = He ∧ edgeB md ops q (k0 + k) = true)) ∧ OpStep P ops o (Sig.only ⟨e k, Hp⟩ (o.looksAt ops)) (s k)) ∨
       (effs.contains (k0 + k) = true ∧ ∃ F, EffStep P N w0 ops o (Sig.only ⟨e k, Hs k⟩ (o.looksAt ops)) (nf k) F (Hs (k + 1)) ∧ FOk o.dst F (s k))) := by
  induction h with
  | @nil k nw σ => exact ⟨fun _ => .one (.con undef), fun _ => σ.env, fun _ => σ.heap, fun _ => nw, fun _ => [], rfl, rfl, rfl, rfl, fun k o hk => by simp at hk⟩
  | @pure k1 nw1 o rest σ τ d0 s0 Hp hk hd hN hs hp hm _ ih =>
    obtain ⟨s, e, Hs, nw, nf, h1, h2, h3, h4, h5⟩ := ih
    refine ⟨fun k => if k = 0 then s0 else s (k - 1), fun k => if k = 0 then σ.env else e (k - 1), fun k => if k = 0 then σ.heap else Hs (k - 1), fun k => if k = 0 then nw1 else nw (k - 1), fun k => if k = 0 then [] else nf (k - 1), rfl, rfl, rfl, by rw [h4]; simp, fun k o' hk' => ?_⟩
    cases k with
    | zero =>
      simp at hk'
      subst hk'
      refine ⟨fun d e => by rw [hd] at e; cases e; exact hN, by simp [h1, hd, consO], by simp [h3], by simpa using hm, by simp, by simp [h2], by simp [h2], .inl ⟨by simpa using hk, by rw [hd]; rfl, by simp, by simp [h2], Hp, by simpa using hp, by simpa using hs⟩⟩
    | succ k =>
      obtain ⟨g1, g2, g3, g4, g5, g6, g6b, g7⟩ := h5 k o' (by simpa using hk')
      exact ⟨g1, by simpa using g2, by simpa using g3, by simpa using g4, by simpa using g5, by simpa using g6, by rw [show k1 + (k + 1) = k1 + 1 + k by omega]; simpa using g6b, by rw [show k1 + (k + 1) = k1 + 1 + k by omega]; simpa using g7⟩
  | @eff k1 nw1 new o rest σ τ s0 F H' hk hN hs hF hno hm hsub hsub2 _ ih =>
    obtain ⟨s, e, Hs, nw, nf, h1, h2, h3, h4, h5⟩ := ih
    refine ⟨fun k => if k = 0 then s0 else s (k - 1), fun k => if k = 0 then σ.env else e (k - 1), fun k => if k = 0 then σ.heap else Hs (k - 1), fun k => if k = 0 then nw1 else nw (k - 1), fun k => if k = 0 then new else nf (k - 1), rfl, rfl, rfl, by rw [h4]; simp, fun k o' hk' => ?_⟩
    cases k with
    | zero =>
      simp at hk'
      subst hk'
      refine ⟨hN, by simp [h1], by simp [h3], by simpa using hm, by simpa using hno, fun _ => by simpa [h2] using hsub, fun hlt _ => by simpa [h2] using hsub2 (by simpa using hlt), .inr ⟨by simpa using hk, F, by simpa [h2] using hs, by simpa using hF⟩⟩
    | succ k =>
      obtain ⟨g1, g2, g3, g4, g5, g6, g6b, g7⟩ := h5 k o' (by simpa using hk')
      exact ⟨g1, by simpa using g2, by simpa using g3, by simpa using g4, by simpa using g5, by simpa using g6, by rw [show k1 + (k + 1) = k1 + 1 + k by omega]; simpa using g6b, by rw [show k1 + (k + 1) = k1 + 1 + k by omega]; simpa using g7⟩
theorem consO_get {d : Option Nat} {s : SV} {e : Env} {t : Nat} {x : SV} (h : (consO d s e).lookup t = some x) : (d = some t ∧ x = s) ∨ (d ≠ some t ∧ e.lookup t = some x) := by
  cases d with
  | none => exact .inr ⟨by simp, h⟩
  | some d =>
    rcases lookup_put (show ((d, s) :: e).lookup t = some x from h) with ⟨rfl, rfl⟩ | ⟨hne, h⟩
    · exact .inl ⟨rfl, rfl⟩
    · exact .inr ⟨fun e => hne (Option.some.inj e).symm, h⟩
theorem consO_mem {d : Option Nat} {s : SV} {e : Env} {q : Nat × SV} (h : q ∈ consO d s e) : (∃ t, d = some t ∧ q = (t, s)) ∨ q ∈ e := by
  cases d with
  | none => exact .inr h
  | some d =>
    rcases List.mem_cons.1 (show q ∈ (d, s) :: e from h) with h | h
    · exact .inl ⟨d, rfl, h⟩
    · exact .inr h
theorem consO_mem' {d : Option Nat} {s : SV} {e : Env} {q : Nat × SV} (h : q ∈ e) : q ∈ consO d s e := by
  cases d with
  | none => exact h
  | some d => exact List.mem_cons_of_mem _ h
theorem lookup_app {α : Type} {t : Nat} {x : α} : ∀ {l m : List (Nat × α)}, (l ++ m).lookup t = some x → l.lookup t = some x ∨ (l.lookup t = none ∧ m.lookup t = some x)
  | [], m, h => .inr ⟨rfl, h⟩
  | (k, v) :: l, m, h => by
    rcases lookup_put (show ((k, v) :: (l ++ m)).lookup t = some x from h) with ⟨rfl, rfl⟩ | ⟨hne, h⟩
    · exact .inl (by simp)
    · have : (t == k) = false := by simpa using hne
      rcases lookup_app h with h | ⟨h1, h2⟩
      · exact .inl (by rw [List.lookup_cons, this]; exact h)
      · exact .inr ⟨by rw [List.lookup_cons, this]; exact h1, h2⟩
theorem lookup_none_app {α : Type} {t : Nat} : ∀ {l m : List (Nat × α)}, l.lookup t = none → (l ++ m).lookup t = m.lookup t
  | [], m, _ => rfl
  | (k, v) :: l, m, h => by
    rw [List.lookup_cons] at h
    cases hb : t == k with
    | true => rw [hb] at h; cases h
    | false =>
      rw [hb] at h
      show ((k, v) :: (l ++ m)).lookup t = _
      rw [List.lookup_cons, hb]; exact lookup_none_app h
theorem lookup_some_app {α : Type} {t : Nat} {x : α} : ∀ {l m : List (Nat × α)}, l.lookup t = some x → (l ++ m).lookup t = some x
  | [], m, h => by simp at h
  | (k, v) :: l, m, h => by
    show ((k, v) :: (l ++ m)).lookup t = _
    rw [List.lookup_cons] at h ⊢
    cases hb : t == k with
    | true => rw [hb] at h; exact h
    | false => rw [hb] at h; exact lookup_some_app h
theorem F_other {F : Env} {d t : Nat} (h : F.all (fun p => p.1 == d) = true) (hne : t ≠ d) : F.lookup t = none := by
  induction F with
  | nil => rfl
  | cons p F ih =>
    rw [List.all_cons, Bool.and_eq_true, beq_iff_eq] at h
    obtain ⟨k, v⟩ := p
    rw [List.lookup_cons, show (t == k) = false by have := h.1; simp at this; rw [this]; simpa using hne]
    exact ih h.2
structure MidE (P : Program) (N : Nat) (w0 : Start) (ops : Array Oper) (md : Region.Mode) (effs : List Nat) (s : Nat → SV) (Hs : Nat → Heap) (σ : Sig) (listed : Array Bool) (ρ : Rho) (S : Nat → Prop) (a : Act) (w : World) : Prop where
  len : listed.size = ops.size
  closed : ∀ j o, ops[j]? = some o → listed.getD j false = true → ∀ e ∈ o.after, Region.binds md e = true → listed.getD e.on false = true
  mem : ∃ nx, nx ≤ ops.size ∧ (∀ j, j < nx → effs.contains j = true → listed.getD j false = true) ∧ (∀ j, nx ≤ j → j < ops.size → effs.contains j = true → listed.getD j false = false) ∧ (nx < ops.size → effs.contains nx = true) ∧ St N w0 ρ S ⟨[], Hs nx⟩ a w
  done : ∀ j o d, ops[j]? = some o → o.dst = some d → listed.getD j false = true → RS ρ w S (s j) (a.tmps.getD d undef)
  old : ∀ t x, σ.env.lookup t = some x → (∀ j o, ops[j]? = some o → o.dst = some t → listed.getD j false = false) → RS ρ w S x (a.tmps.getD t undef)
theorem any_orderE {path : List Nat} {σ τ : Sig} {Q : Exit → Act → World → Prop} (hord : ordB md ops = true) (hpath : pathB md ops path = true) (hin : effs.all (fun i => path.contains i) = true) (hqe : effs.contains q = true) (hc0 : Sub Hc σ.heap) (hc1 : Sub He σ.heap) (h : ADsE P N w0 md ops Hc He q effs 0 [] ops.toList σ τ)
    (hQ : ∀ ρ S a w, St N w0 ρ S τ a w → Q .normal a w) :
    ∀ (ρ : Rho) (S : Nat → Prop) (a : Act) (w : World), St N w0 ρ S σ a w → wpAny P md ops Q ops.size (Array.replicate ops.size false) a w := by
  obtain ⟨s, e, Hs, nw, nf, he0, hH0, hnw0, hτ, hst⟩ := h.lay
  have hlen : ops.toList.length = ops.size := by simp
  have hstep : ∀ k o, ops[k]? = some o → _ := fun k o hk => hst k o (by first | exact hk | (rw [Array.getElem?_toList]; exact hk) | simpa using hk)
  simp only [Nat.zero_add] at hstep
  have hget0 : ∀ k (hk : k < ops.size), ops[k]? = some (ops[k]'hk) := fun k hk => Array.getElem?_eq_getElem hk
  have hdst : ∀ (i j : Nat) (oi oj : Oper) (d : Nat), ops[i]? = some oi → ops[j]? = some oj → oi.dst = some d → oj.dst = some d → i = j := fun i j oi oj d hi hj h1 h2 => by
    rcases Nat.decEq i j with hd | hd
    · exact absurd (by rw [h1, h2]) ((ordB_pair hord hi hj).1 hd (by rw [h2]; simp))
    · exact hd
  -- what the laid slots hold
  have hget : ∀ k, k ≤ ops.size → ∀ t x, (e k).lookup t = some x → (∃ j o, j < k ∧ ops[j]? = some o ∧ o.dst = some t ∧ x = s j) ∨ ((∀ j o, j < k → ops[j]? = some o → o.dst ≠ some t) ∧ σ.env.lookup t = some x) := by
    intro k
    induction k with
    | zero => intro _ t x h; exact .inr ⟨fun j o hj => absurd hj (by omega), by rw [← he0]; exact h⟩
    | succ k ih =>
      intro hk t x h
      obtain ⟨_, g2, _⟩ := hstep k _ (hget0 k (by omega))
      rw [g2] at h
      rcases consO_get h with ⟨h1, rfl⟩ | ⟨h1, h2⟩
      · exact .inl ⟨k, _, by omega, hget0 k (by omega), h1, rfl⟩
      · rcases ih (by omega) t x h2 with ⟨j, o, hj, q1, q2, q3⟩ | ⟨q1, q2⟩
        · exact .inl ⟨j, o, by omega, q1, q2, q3⟩
        · refine .inr ⟨fun j o hj ho => ?_, q2⟩
          by_cases hjk : j = k
          · subst hjk; rw [hget0 j (by omega)] at ho; cases ho; exact h1
          · exact q1 j o (by omega) ho
  have hmem : ∀ k, k ≤ ops.size → ∀ q ∈ e k, (∃ j o t, j < k ∧ ops[j]? = some o ∧ o.dst = some t ∧ q = (t, s j)) ∨ q ∈ σ.env := by
    intro k
    induction k with
    | zero => intro _ q h; exact .inr (by rw [← he0]; exact h)
    | succ k ih =>
      intro hk q h
      obtain ⟨_, g2, _⟩ := hstep k _ (hget0 k (by omega))
      rw [g2] at h
      rcases consO_mem h with ⟨t, h1, h2⟩ | h
      · exact .inl ⟨k, _, t, by omega, hget0 k (by omega), h1, h2⟩
      · rcases ih (by omega) q h with ⟨j, o, t, hj, q1, q2, q3⟩ | h
        · exact .inl ⟨j, o, t, by omega, q1, q2, q3⟩
        · exact .inr h
  have hup : ∀ k, k ≤ ops.size → ∀ i, i ≤ k → ∀ q ∈ e i, q ∈ e k := by
    intro k
    induction k with
    | zero => intro _ i hi q h; obtain rfl : i = 0 := (by omega); exact h
    | succ k ih =>
      intro hk i hi q h
      by_cases hik : i = k + 1
      · subst hik; exact h
      · obtain ⟨_, g2, _⟩ := hstep k _ (hget0 k (by omega))
        rw [g2]
        exact consO_mem' (ih (by omega) i (by omega) q h)
  have hnwup : ∀ k, k ≤ ops.size → ∀ j, j < k → ∀ id ∈ nf j, id ∈ nw k := by
    intro k
    induction k with
    | zero => intro _ j hj; omega
    | succ k ih =>
      intro hk j hj id hid
      obtain ⟨_, _, g3, _⟩ := hstep k _ (hget0 k (by omega))
      rw [g3]
      by_cases hjk : j = k
      · subst hjk; exact List.mem_append_left _ hid
      · exact List.mem_append_right _ (ih (by omega) j (by omega) id hid)
  have hfr : ∀ j, j < ops.size → ∀ id ∈ nf j, ∀ q ∈ e j, q.2.no id = true := fun j hj id hid q hq => by
    obtain ⟨_, _, _, _, g5, _⟩ := hstep j _ (hget0 j hj)
    exact List.all_eq_true.1 (List.all_eq_true.1 g5 id hid) q hq
  -- what speaks of a new object stands behind what made it
  have hment : ∀ (listed : Array Bool) (_ : ∀ j o, ops[j]? = some o → listed.getD j false = true → ∀ e ∈ o.after, Region.binds md e = true → listed.getD e.on false = true) (k : Nat) (ok : Oper) (d : Nat), ops[k]? = some ok → ok.dst = some d → listed.getD k false = true → ∀ j id, j < ops.size → id ∈ nf j → (s k).no id = false → listed.getD j false = true := by
    intro listed hcl k
    induction k using Nat.strongRecOn with
    | _ k ih =>
      intro ok dk hok hdk hlk j id hj hid hn
      have hk : k < ops.size := (Array.getElem?_eq_some_iff.1 hok).1
      by_cases hjk : j = k
      · subst hjk; exact hlk
      · have hlt : j < k := by
          apply Classical.byContradiction
          intro hge
          have hin' : (dk, s k) ∈ e (k + 1) := by
            obtain ⟨_, g2, _⟩ := hstep k _ hok
            rw [g2, hdk]; exact List.mem_cons_self ..
          have := hfr j hj id hid _ (hup j (by omega) (k + 1) (by omega) _ hin')
          rw [hn] at this; cases this
        obtain ⟨_, _, _, g4, _⟩ := hstep k _ hok
        have h8 := List.all_eq_true.1 g4 id (hnwup k (by omega) j hlt id hid)
        rw [hn, Bool.false_or] at h8
        obtain ⟨q, hq, hqn⟩ := List.any_eq_true.1 h8
        obtain ⟨hqe, hql⟩ := List.mem_filter.1 hq
        simp only [Bool.not_eq_true'] at hqn
        rcases hmem k (by omega) q hqe with ⟨i, oi, t, hik, q1, q2, rfl⟩ | h0
        · have hli : listed.getD i false = true := by
            rcases (ordB_pair hord hok q1).2 _ q2 (by simpa using hql) with e1 | ⟨_, ed, hed, hb, hon⟩ | ⟨hn', _⟩
            · omega
            · rw [← hon]; exact hcl k _ hok hlk ed hed hb
            · omega
          exact ih i hik oi t q1 q2 hli j id hj hid hqn
        · have := hfr j hj id hid q (hup j (by omega) 0 (Nat.zero_le _) q (by rw [he0]; exact h0))
          rw [hqn] at this; cases this
  have hsub : ∀ k, k ≤ ops.size → Sub Hc (Hs k) := by
    intro k
    induction k with
    | zero => intro _; rw [hH0]; exact hc0
    | succ k ih =>
      intro hk
      obtain ⟨_, _, _, _, _, g6, _⟩ := hstep k _ (hget0 k (by omega))
      exact g6 (ih (by omega))
  have hsub2 : ∀ k, k ≤ ops.size → k ≤ q → Sub He (Hs k) := by
    intro k
    induction k with
    | zero => intro _ _; rw [hH0]; exact hc1
    | succ k ih =>
      intro hk hkq
      obtain ⟨_, _, _, _, _, _, g6, _⟩ := hstep k _ (hget0 k (by omega))
      exact g6 (by omega) (ih (by omega) (by omega))
  -- the next operation with effects
  have hnext : ∀ f k, f + k = ops.size → ∃ nx, k ≤ nx ∧ nx ≤ ops.size ∧ (∀ j, k ≤ j → j < nx → effs.contains j = false) ∧ (nx < ops.size → effs.contains nx = true) ∧ Hs nx = Hs k := by
    intro f
    induction f with
    | zero => intro k hk; exact ⟨k, Nat.le_refl _, by omega, fun j h1 h2 => by omega, fun h => by omega, rfl⟩
    | succ f ih =>
      intro k hk
      cases hc : effs.contains k with
      | true => exact ⟨k, Nat.le_refl _, by omega, fun j h1 h2 => by omega, fun _ => hc, rfl⟩
      | false =>
        obtain ⟨nx, h1, h2, h3, h4, h5⟩ := ih (k + 1) (by omega)
        refine ⟨nx, by omega, h2, fun j g1 g2 => ?_, h4, ?_⟩
        · by_cases hjk : j = k
          · rw [hjk]; exact hc
          · exact h3 j (by omega) g2
        · obtain ⟨_, _, _, _, _, _, _, g7⟩ := hstep k _ (hget0 k (by omega))
          rcases g7 with ⟨_, _, _, g, _⟩ | ⟨g, _⟩
          · rw [h5, g]
          · rw [hc] at g; cases g
  have key : ∀ fuel listed ρ S a w, unl listed ops.size = fuel → MidE P N w0 ops md effs s Hs σ listed ρ S a w → wpAny P md ops Q fuel listed a w := by
    intro fuel
    induction fuel with
    | zero =>
      intro listed ρ S a w hf hm
      have hall : ∀ j, j < ops.size → listed.getD j true = true := unl_zero _ hf
      have hallF : ∀ j, j < ops.size → listed.getD j false = true := fun j hj => by rw [← getD_tf (by rw [hm.len]; exact hj)]; exact hall j hj
      refine ⟨?_, ?_⟩
      · unfold Region.ready
        rw [List.filter_eq_nil_iff]
        intro i hi
        rw [hall i (List.mem_range.1 hi)]; simp
      · obtain ⟨nx, n1, n2, n3, n4, hH⟩ := hm.mem
        have hnx : nx = ops.size := by
          apply Classical.byContradiction
          intro hne
          have := n3 nx (Nat.le_refl _) (by omega) (n4 (by omega))
          rw [hallF nx (by omega)] at this; cases this
        subst hnx
        refine hQ ρ S a w ⟨hH.size, hH.defers, hH.below, by rw [hτ, hlen]; exact hH.mem, fun t x ht => ?_⟩
        rw [hτ, hlen] at ht
        rcases hget _ (Nat.le_refl _) t x ht with ⟨j, o, hj, q1, q2, rfl⟩ | ⟨h1, h2⟩
        · exact hm.done j o t q1 q2 (hallF j hj)
        · exact hm.old t x h2 fun j o ho hd => absurd hd (h1 j o (Array.getElem?_eq_some_iff.1 ho).1 ho)
    | succ fuel ih =>
      intro listed ρ S a w hf hm
      refine ⟨fun hnil => ?_, fun i hi => ?_⟩
      · exfalso
        have hex : ∃ j, j < ops.size ∧ listed.getD j true = false := by
          by_cases hall : ∀ j, j < ops.size → listed.getD j true = true
          · have : ∀ k, k ≤ ops.size → unl listed k = 0 := by
              intro k
              induction k with
              | zero => intro _; rfl
              | succ k ihk => intro hk; simp only [unl]; rw [ihk (by omega), hall k (by omega)]; rfl
            have := this _ (Nat.le_refl _)
            omega
          · apply Classical.byContradiction
            intro hno
            exact hall fun j hj => by
              cases hb : listed.getD j true with
              | true => rfl
              | false => exact absurd ⟨j, hj, hb⟩ hno
        obtain ⟨j0, hj0⟩ := hex
        obtain ⟨j, ⟨hj, hb⟩, hmin⟩ := exists_min (p := fun j => j < ops.size ∧ listed.getD j true = false) j0 hj0
        have : j ∈ Region.ready md ops listed := by
          refine mem_ready.2 ⟨hb, _, hget0 j hj, fun ed hed hbd => ?_⟩
          have hlt := ordB_after hord (hget0 j hj) ed hed hbd
          have h1 : listed.getD ed.on true = true := by
            cases hc : listed.getD ed.on true with
            | true => rfl
            | false => have := hmin ed.on ⟨by omega, hc⟩; omega
          rw [← getD_tf (by rw [hm.len]; omega)]; exact h1
        rw [hnil] at this
        cases this
      · obtain ⟨hun, o, ho, hpre⟩ := mem_ready.1 hi
        have hilt : i < ops.size := (Array.getElem?_eq_some_iff.1 ho).1
        have hunf : listed.getD i false = false := by rw [← getD_tf (by rw [hm.len]; exact hilt)]; exact hun
        obtain ⟨hN, hen, hnwi, hmen, hnoi, _, _, hop⟩ := hstep i o ho
        obtain ⟨nx, n1, n2, n3, n4, hH⟩ := hm.mem
        -- the slots that it looks at
        have hlook : ∀ t x, ((e i).filter fun p => (o.looksAt ops).contains p.1).lookup t = some x → RS ρ w S x (a.tmps.getD t undef) ∧ ((∃ j oj, ops[j]? = some oj ∧ oj.dst = some t ∧ listed.getD j false = true ∧ x = s j) ∨ (∀ j oj, ops[j]? = some oj → oj.dst = some t → listed.getD j false = false) ∧ σ.env.lookup t = some x) := by
          intro t x ht
          obtain ⟨htl, ht⟩ := lookup_filter ht
          rcases hget i (by omega) t x ht with ⟨j, oj, hj, q1, q2, rfl⟩ | ⟨h1, h2⟩
          · rcases (ordB_pair hord ho q1).2 _ q2 htl with e1 | ⟨_, ed, hed, hb, hon⟩ | ⟨hn, _⟩
            · omega
            · have hlj : listed.getD j false = true := by rw [← hon]; exact hpre ed hed hb
              exact ⟨hm.done j oj t q1 q2 hlj, .inl ⟨j, oj, q1, q2, hlj, rfl⟩⟩
            · exact absurd hj hn
          · have hno : ∀ j oj, ops[j]? = some oj → oj.dst = some t → listed.getD j false = false := fun j oj hj hdj => by
              rcases (ordB_pair hord ho hj).2 _ hdj htl with e1 | ⟨hlt, _⟩ | ⟨hn, ed, hed, hb, hon⟩
              · subst e1; exact hunf
              · exact absurd hdj (h1 j oj hlt hj)
              · cases hc : listed.getD j false with
                | false => rfl
                | true =>
                  have := hm.closed j _ hj hc ed hed hb
                  rw [hon, hunf] at this
                  cases this
            exact ⟨hm.old t x h2 hno, .inr ⟨hno, h2⟩⟩
        have hclosed' : ∀ j oj, ops[j]? = some oj → (listed.setIfInBounds i true).getD j false = true → ∀ ed ∈ oj.after, Region.binds md ed = true → (listed.setIfInBounds i true).getD ed.on false = true := by
          intro j oj hoj hl ed hed hb
          by_cases hji : j = i
          · subst hji
            rw [ho] at hoj
            obtain rfl := Option.some.inj hoj
            exact getD_set_true (hpre ed hed hb)
          · rw [getD_set_ne false (Ne.symm hji)] at hl
            exact getD_set_true (hm.closed j oj hoj hl ed hed hb)
        have hunl' : unl (listed.setIfInBounds i true) ops.size = fuel := by
          have := unl_set hun ops.size
          rw [if_pos hilt] at this
          omega
        have hqd : ∀ q', q' < nx → q' = q → listed.getD q' false = true := fun q' h1 h2 => by subst h2; exact n2 q' h1 hqe
        rcases hop with ⟨hpe, hds, hnf, hHn, Hp, hpp, hps⟩ | ⟨hee, F, heff, hF⟩
        · -- a quiet one
          obtain ⟨d, hd⟩ := Option.isSome_iff_exists.1 hds
          have hdN := hN d hd
          have hpn : Sub Hp (Hs nx) := by
            rcases hpp with rfl | ⟨rfl, hed⟩
            · exact hsub nx n1
            · refine hsub2 nx n1 ?_
              unfold edgeB at hed
              cases hq : ops[q]? with
              | none => rw [hq] at hed; cases hed
              | some oq =>
                simp only [hq] at hed
                obtain ⟨ed, hed1, hb⟩ := Array.any_eq_true'.1 hed
                rw [Bool.and_eq_true, beq_iff_eq] at hb
                apply Classical.byContradiction
                intro hgt
                have hqs : ops.size > q := (Array.getElem?_eq_some_iff.1 hq).1
                have hlq : listed.getD q false = true := hqd q (by omega) rfl
                have := hm.closed q oq hq hlq ed hed1 hb.1
                rw [hb.2, hunf] at this; cases this
          have hpre' : St N w0 ρ S (Sig.only ⟨e i, Hp⟩ (o.looksAt ops)) a w := ⟨hH.size, hH.defers, hH.below, hH.mem.le' fun id ob hob => HLe.refl (hpn.get hob), fun t x ht => (hlook t x ht).1⟩
          have hnext' : ∀ v S' w', Same S w S' w' → Below w.heap.size w w' → (∀ b, S' b → S b ∨ w.heap.size ≤ b) → St N w0 ρ S' (Sig.only ⟨e i, Hp⟩ (o.looksAt ops)) a w' → RS ρ w' S' (s i) v → wpAny P md ops Q fuel (listed.setIfInBounds i true) (a.put o.dst v) w' := by
            intro v S' w' hsame hbel hSS hs' hv
            have hj1 : St N w0 ρ S' ⟨[], oH none ++ Hs nx⟩ a w' := St.join (H1 := Hp) hH hbel hSS hsame rfl (fun _ _ => .refl _ _) (fun p h => by cases h) (fun p _ _ _ _ h => by cases h) ⟨hs'.size, hs'.defers, hs'.below, hs'.mem, fun t s hs => by simp at hs⟩ (fun p h => by cases h)
            have hj1 : St N w0 ρ S' ⟨[], Hs nx⟩ a w' := hj1
            refine ih _ ρ S' _ w' hunl' ⟨by simp [hm.len], hclosed', ⟨nx, n1, fun j h1 h2 => getD_set_true (n2 j h1 h2), fun j h1 h2 h3 => ?_, n4, ?_⟩, ?_, ?_⟩
            · have hji : i ≠ j := fun e => by rw [e, h3] at hpe; cases hpe
              rw [getD_set_ne false hji]; exact n3 j h1 h2 h3
            · rw [hd]; exact (hj1.put hdN hv).memOnly
            · intro j oj t hj hdj hl
              have hsz : d < a.tmps.size := by rw [hH.size]; exact hdN
              rw [hd, getD_put hsz]
              by_cases hji : j = i
              · subst hji
                rw [ho] at hj; cases hj
                rw [hd] at hdj; cases hdj
                rw [if_pos rfl]; exact hv
              · rw [if_neg (fun e => hji (hdst j i oj o t hj ho hdj (by rw [e]; exact hd)))]
                rw [getD_set_ne false (Ne.symm hji)] at hl
                exact (hm.done j oj t hj hdj hl).keep hsame (Rn.refl _ _)
            · intro t x ht hno
              have hsz : d < a.tmps.size := by rw [hH.size]; exact hdN
              have hti : t ≠ d := fun e => by
                have := hno i o ho (by rw [e]; exact hd)
                rw [show (listed.setIfInBounds i true).getD i false = true by simp [hm.len, hilt]] at this
                cases this
              rw [hd, getD_put hsz, if_neg hti]
              refine (hm.old t x ht fun j oj hj hdj => ?_).keep hsame (Rn.refl _ _)
              have hji : i ≠ j := fun e => by
                subst e
                rw [ho] at hj; cases hj
                rw [hd] at hdj; exact hti (Option.some.inj hdj).symm
              have := hno j oj hj hdj
              rwa [getD_set_ne false hji] at this
          have h1 := hps.run N w0 ρ S a w (wpAny P md ops Q fuel (listed.setIfInBounds i true)) Q hpre' hnext'
          unfold wpOp
          simp only [ho]
          split
          · rename_i hw; rw [if_pos hw] at h1; exact .inl h1
          · rename_i hw; rw [if_neg hw] at h1; exact h1
        · -- one with effects: it is the next of them
          have hinp : ∀ j, effs.contains j = true → j ∈ path := fun j hj => List.contains_iff_mem.1 (List.all_eq_true.1 hin j (List.contains_iff_mem.1 hj))
          have hnx : nx = i := by
            rcases Nat.lt_trichotomy nx i with hlt | heq | hgt
            · have := path_ready hm.closed hpath (hinp i hee) (hinp nx (n4 (by omega))) hlt (fun o' ho' => by rw [ho] at ho'; cases ho'; exact hpre)
              rw [n3 nx (Nat.le_refl _) (by omega) (n4 (by omega))] at this; cases this
            · exact heq
            · have := n2 i hgt hee
              rw [hunf] at this; cases this
          subst hnx
          let L : Env := (List.range ops.size).filterMap fun j => if listed.getD j false = true then ((ops[j]?).bind (·.dst)).map (fun d => (d, s j)) else none
          let O : Env := σ.env.filter fun p => (List.range ops.size).all fun j => !(listed.getD j false && ((ops[j]?).bind (·.dst)) == some p.1)
          have hL : ∀ q ∈ L, ∃ j oj, ops[j]? = some oj ∧ oj.dst = some q.1 ∧ listed.getD j false = true ∧ q.2 = s j := by
            intro q hq
            obtain ⟨j, hj, hjq⟩ := List.mem_filterMap.1 hq
            have hjl := List.mem_range.1 hj
            split at hjq
            · rename_i hl
              rw [hget0 j hjl] at hjq
              obtain ⟨d, hd, rfl⟩ := Option.map_eq_some_iff.1 hjq
              exact ⟨j, _, hget0 j hjl, hd, hl, rfl⟩
            · cases hjq
          have hLin : ∀ j oj d, ops[j]? = some oj → oj.dst = some d → listed.getD j false = true → (d, s j) ∈ L := by
            intro j oj d hj hd hl
            have hjl : j < ops.size := (Array.getElem?_eq_some_iff.1 hj).1
            refine List.mem_filterMap.2 ⟨j, List.mem_range.2 hjl, ?_⟩
            rw [if_pos hl, hj]
            show (oj.dst).map _ = _
            rw [hd]; rfl
          have hO : ∀ q ∈ O, q ∈ σ.env ∧ ∀ j oj, ops[j]? = some oj → oj.dst = some q.1 → listed.getD j false = false := by
            intro q hq
            obtain ⟨h1, h2⟩ := List.mem_filter.1 hq
            refine ⟨h1, fun j oj hj hd => ?_⟩
            have hjl : j < ops.size := (Array.getElem?_eq_some_iff.1 hj).1
            have := List.all_eq_true.1 h2 j (List.mem_range.2 hjl)
            rw [hj] at this
            cases hb : listed.getD j false with
            | false => rfl
            | true =>
              rw [hb] at this
              simp [hd] at this
          have hOlk : ∀ t x, O.lookup t = some x → σ.env.lookup t = some x := by
            intro t x
            show (σ.env.filter _).lookup t = some x → _
            generalize σ.env = en
            induction en with
            | nil => intro h; simp at h
            | cons p en ihh =>
              intro h
              obtain ⟨k, v⟩ := p
              by_cases hk : ((List.range ops.size).all fun j => !(listed.getD j false && ((ops[j]?).bind (·.dst)) == some k)) = true
              · rw [List.filter_cons_of_pos (by simpa using hk)] at h
                rcases lookup_put h with ⟨rfl, rfl⟩ | ⟨hne, h⟩
                · simp
                · rw [List.lookup_cons, show (t == k) = false by simpa using hne]; exact ihh h
              · rw [List.filter_cons_of_neg (by simpa using hk)] at h
                have hne : t ≠ k := by
                  intro e
                  subst e
                  obtain ⟨_, h2⟩ := List.mem_filter.1 (lookup_mem h)
                  exact hk (by simpa using h2)
                rw [List.lookup_cons, show (t == k) = false by simpa using hne]; exact ihh h
          have hOget : ∀ t x, σ.env.lookup t = some x → (∀ j oj, ops[j]? = some oj → oj.dst = some t → listed.getD j false = false) → O.lookup t = some x := by
            intro t x ht hno
            show (σ.env.filter _).lookup t = some x
            generalize σ.env = en at ht
            induction en with
            | nil => simp at ht
            | cons p en ihh =>
              obtain ⟨k, v⟩ := p
              rcases lookup_put ht with ⟨rfl, rfl⟩ | ⟨hne, ht⟩
              · rw [List.filter_cons_of_pos]
                · simp
                · rw [List.all_eq_true]
                  intro j hj
                  have hjl := List.mem_range.1 hj
                  rw [hget0 j hjl]
                  cases hb : listed.getD j false with
                  | false => rfl
                  | true =>
                    cases hd : decide (ops[j].dst = some t) with
                    | true => have := hno j _ (hget0 j hjl) (of_decide_eq_true hd); rw [hb] at this; cases this
                    | false => have := of_decide_eq_false hd; simp [this]
              · have hr := ihh ht
                by_cases hk : ((List.range ops.size).all fun j => !(listed.getD j false && ((ops[j]?).bind (·.dst)) == some k)) = true
                · rw [List.filter_cons_of_pos (by simpa using hk), List.lookup_cons, show (t == k) = false by simpa using hne]; exact hr
                · rw [List.filter_cons_of_neg (by simpa using hk)]; exact hr
          let E : Env := L ++ O
          have hLlk : ∀ j oj d, ops[j]? = some oj → oj.dst = some d → listed.getD j false = true → L.lookup d = some (s j) := by
            intro j oj d hj hd hl
            cases hlk : L.lookup d with
            | none =>
              exfalso
              have hm2 := hLin j oj d hj hd hl
              have : ∀ (l : Env), (d, s j) ∈ l → l.lookup d ≠ none := by
                intro l
                induction l with
                | nil => intro h; cases h
                | cons p l ihl =>
                  intro h
                  obtain ⟨k, v⟩ := p
                  rw [List.lookup_cons]
                  rcases List.mem_cons.1 h with h | h
                  · cases h; simp
                  · split
                    · simp
                    · exact ihl h
              exact this L hm2 hlk
            | some x =>
              obtain ⟨j', oj', q1, q2, q3, q4⟩ := hL _ (lookup_mem hlk)
              have : j' = j := hdst j' j oj' oj d q1 hj q2 hd
              subst this
              rw [show x = s j' from q4]
          have hLnone : ∀ t, (∀ j oj, ops[j]? = some oj → oj.dst = some t → listed.getD j false = false) → L.lookup t = none := by
            intro t hno
            cases hlk : L.lookup t with
            | none => rfl
            | some x =>
              obtain ⟨j', oj', q1, q2, q3, q4⟩ := hL _ (lookup_mem hlk)
              have := hno j' oj' q1 q2
              rw [q3] at this; cases this
          have hE : ((nf nx).all fun id => E.all fun p => p.2.no id) = true := by
            rw [List.all_eq_true]
            intro id hid
            rw [List.all_eq_true]
            intro q hq
            rcases List.mem_append.1 hq with hq | hq
            · obtain ⟨j, oj, q1, q2, q3, q4⟩ := hL q hq
              cases hn : q.2.no id with
              | true => rfl
              | false =>
                rw [q4] at hn
                have := hment listed hm.closed j oj _ q1 q2 q3 nx id hilt hid hn
                rw [hunf] at this; cases this
            · have hq2 := (hO q hq).1
              exact hfr nx hilt id hid q (hup nx (by omega) 0 (Nat.zero_le _) q (by rw [he0]; exact hq2))
          let pf : Env := (e nx).filter fun p => (o.looksAt ops).contains p.1
          have hpre' : St N w0 ρ S ⟨pf ++ E, Hs nx⟩ a w := by
            refine ⟨hH.size, hH.defers, hH.below, hH.mem, fun t x ht => ?_⟩
            rcases lookup_app ht with h1 | ⟨_, h1⟩
            · exact (hlook t x h1).1
            · rcases lookup_app h1 with h1 | ⟨_, h1⟩
              · obtain ⟨j, oj, q1, q2, q3, q4⟩ := hL _ (lookup_mem h1)
                rw [show x = s j from q4]
                exact hm.done j oj t q1 q2 q3
              · exact hm.old t x (hOlk t x h1) (hO _ (lookup_mem h1)).2
          let Q2 : Exit → Act → World → Prop := fun e a' w' => match e with | .normal => wpAny P md ops Q fuel (listed.setIfInBounds nx true) a' w' | _ => False
          have hfin : ∀ ρ' S' σ' a' w', St N w0 ρ' S' σ' a' w' → σ' = ⟨F ++ (pf ++ E), Hs (nx + 1)⟩ → Q2 .normal a' w' := by
            intro ρ' S' σ' a' w' hs' hσ
            subst hσ
            show wpAny P md ops Q fuel (listed.setIfInBounds nx true) a' w'
            obtain ⟨nx', m1, m2, m3, m4, m5⟩ := hnext (ops.size - (nx + 1)) (nx + 1) (by omega)
            -- what is held of the slots behind it
            have hEt : ∀ j oj d, ops[j]? = some oj → oj.dst = some d → listed.getD j false = true → (pf ++ E).lookup d = some (s j) := by
              intro j oj d hj hd hl
              cases hp : pf.lookup d with
              | none => rw [lookup_none_app hp]; exact lookup_some_app (hLlk j oj d hj hd hl)
              | some x =>
                rw [lookup_some_app hp]
                rcases (hlook d x hp).2 with ⟨j', oj', q1, q2, q3, q4⟩ | ⟨q1, _⟩
                · have : j' = j := hdst j' j oj' oj d q1 hj q2 hd
                  subst this; rw [q4]
                · have := q1 j oj hj hd; rw [hl] at this; cases this
            have hOt : ∀ t x, σ.env.lookup t = some x → (∀ j oj, ops[j]? = some oj → oj.dst = some t → listed.getD j false = false) → (pf ++ E).lookup t = some x := by
              intro t x ht hno
              cases hp : pf.lookup t with
              | none => rw [lookup_none_app hp, lookup_none_app (hLnone t hno)]; exact hOget t x ht hno
              | some y =>
                rw [lookup_some_app hp]
                rcases (hlook t y hp).2 with ⟨j', oj', q1, q2, q3, q4⟩ | ⟨_, q2⟩
                · have := hno j' oj' q1 q2; rw [q3] at this; cases this
                · rw [← q2]; exact ht
            have hFo : ∀ t, o.dst ≠ some t → F.lookup t = none := by
              intro t ht
              cases hd : o.dst with
              | none => rw [hd] at hF; rw [hF.1]; rfl
              | some d =>
                rw [hd] at hF ht
                exact F_other hF.2 (fun e => ht (by rw [e]))
            refine ih _ ρ' S' _ w' hunl' ⟨by simp [hm.len], hclosed', ⟨nx', m2, fun j h1 h2 => ?_, fun j h1 h2 h3 => ?_, m4, ?_⟩, ?_, ?_⟩
            · by_cases hj : j = nx
              · subst hj; simp [hm.len, hilt]
              · rcases Nat.lt_or_ge j nx with hlt | hge
                · exact getD_set_true (n2 j hlt h2)
                · have := m3 j (by omega) h1; rw [h2] at this; cases this
            · rw [getD_set_ne false (by omega)]; exact n3 j (by omega) h2 h3
            · rw [m5]; exact ⟨hs'.size, hs'.defers, hs'.below, hs'.mem, fun t s hs => by simp at hs⟩
            · intro j oj t hj hdj hl
              by_cases hji : j = nx
              · subst hji
                rw [ho] at hj; cases hj
                rw [hdj] at hF
                exact hs'.env t _ (lookup_some_app hF.1)
              · rw [getD_set_ne false (Ne.symm hji)] at hl
                refine hs'.env t _ ?_
                rw [lookup_none_app (hFo t fun e => hji (hdst j nx oj o t hj ho hdj e))]
                exact hEt j oj t hj hdj hl
            · intro t x ht hno
              have hti : o.dst ≠ some t := fun e => by
                have := hno nx o ho e
                rw [show (listed.setIfInBounds nx true).getD nx false = true by simp [hm.len, hilt]] at this
                cases this
              refine hs'.env t _ ?_
              rw [lookup_none_app (hFo t hti)]
              refine hOt t x ht fun j oj hj hdj => ?_
              have hji : nx ≠ j := fun e => by
                subst e
                rw [ho] at hj; cases hj
                exact hti hdj
              have := hno j oj hj hdj
              rwa [getD_set_ne false hji] at this
          have h1 := heff E hE (fun σ' => σ' = ⟨F ++ (pf ++ E), Hs (nx + 1)⟩) [] (fun ρ S a w Q'' hQ'' hs'' => hQ'' ρ S _ a w hs'' rfl) ρ S a w Q2 hfin hpre'
          unfold wpOp
          simp only [ho]
          unfold wpList at h1
          split
          · rename_i hw
            rw [if_pos hw] at h1
            rcases h1 with h1 | ⟨_, _, _, h1⟩
            · refine .inl (Oper.wp_only (Q2 := Q2) (fun _ _ _ h => h) (fun _ _ h => h) (Oper.wp_mono (fun a' w' h => ?_) h1))
              exact h
            · exact h1.elim
          · rename_i hw
            rw [if_neg hw] at h1
            exact h1
  intro ρ S a w hs
  obtain ⟨nx, m1, m2, m3, m4, m5⟩ := hnext ops.size 0 (by omega)
  refine key ops.size _ ρ S a w ?_ ⟨by simp, fun j o ho hl => ?_, ⟨nx, m2, fun j h1 h2 => ?_, fun j h1 h2 h3 => by simp [h2], m4, by rw [m5, hH0]; exact hs.memOnly⟩, fun j o d hj hd hl => ?_, fun t x ht _ => hs.env t x ht⟩
  · have : ∀ k, k ≤ ops.size → unl (Array.replicate ops.size false) k = k := by
      intro k
      induction k with
      | zero => intro _; rfl
      | succ k ihk => intro hk; simp only [unl]; rw [ihk (by omega)]; simp [show k < ops.size by omega]
    exact this _ (Nat.le_refl _)
  · exfalso
    by_cases hj : j < ops.size <;> simp [hj] at hl
  · have := m3 j (Nat.zero_le _) h1
    rw [h2] at this; cases this
  · exfalso
    have hjl : j < ops.size := (Array.getElem?_eq_some_iff.1 hj).1
    simp [hjl] at hl
def ADE (P : Program) (N : Nat) (w0 : Start) (md : Region.Mode) (ops : Array Oper) (Hc He : Heap) (q : Nat) (effs : List Nat) (Q : Sig → Prop) (k : Nat) (nw : List Nat) (l : List Oper) (σ : Sig) : Prop := ∃ τ, ADsE P N w0 md ops Hc He q effs k nw l σ τ ∧ Q τ
theorem AW.anyE (effs path : List Nat) (Hc He : Heap) (q : Nat) {i : Nat} {l : List Oper} {Q : Exit → Sig → Prop} {σ : Sig} (hm : P.follows .mixedOrders = true) (hord : ordB .any l.toArray = true) (hpath : pathB .any l.toArray path = true) (hin : effs.all (fun i => path.contains i) = true) (hqe : effs.contains q = true) (hc0 : Sub Hc σ.heap) (hc1 : Sub He σ.heap)
    (h : ADE P N w0 .any l.toArray Hc He q effs (fun σ => Q .normal σ) 0 [] l σ) : AW P N w0 (.region i l.toArray true) Q σ := by
  intro ρ S a w Q' hQ hs
  obtain ⟨τ, h1, h2⟩ := h
  refine wp_region_any hm ?_
  exact any_orderE hord hpath hin hqe hc0 hc1 (by simpa using h1) (fun ρ S a w hs' => hQ _ ρ S τ a w hs' h2) ρ S a _ (hs.world ((Below.refl _ _).drew))
variable {Q : Sig → Prop} {σ : Sig} {o : Oper} {rest : List Oper} {k : Nat} {nw : List Nat}
theorem ADE.nil (h : Q σ) : ADE P N w0 md ops Hc He q effs Q k nw [] σ := ⟨σ, .nil, h⟩
theorem ADE.step {s : SV} {d : Nat} {Hp : Heap} (hh : Hp = Hc ∨ (Hp = He ∧ edgeB md ops q k = true)) (hp : OpStep P ops o (Sig.only ⟨σ.env, Hp⟩ (o.looksAt ops)) s) (hk : effs.contains k = false) (hd : o.dst = some d) (hN : d < N) (hm : mentB nw (σ.env.filter fun p => (o.looksAt ops).contains p.1) s = true) (h : ADE P N w0 md ops Hc He q effs Q (k + 1) nw rest (σ.put d s)) : ADE P N w0 md ops Hc He q effs Q k nw (o :: rest) σ :=
  let ⟨τ, h1, h2⟩ := h
  ⟨τ, .pure hk hd hN hp hh hm h1, h2⟩
theorem ADE.pure {s : SV} {d : Nat} (hp : PureOp P o (Sig.only ⟨σ.env, Hc⟩ (o.looksAt ops)) s) (hg : o.guard = none) (hd : o.dst = some d) (hN : d < N) (hk : effs.contains k = false) (hm : mentB nw (σ.env.filter fun p => (o.looksAt ops).contains p.1) s = true) (h : ADE P N w0 md ops Hc He q effs Q (k + 1) nw rest (σ.put d s)) : ADE P N w0 md ops Hc He q effs Q k nw (o :: rest) σ :=
  ADE.step (.inl rfl) (hp.fresh.step hg) hk hd hN hm h
theorem ADE.early {s : SV} {d : Nat} (hp : PureOp P o (Sig.only ⟨σ.env, He⟩ (o.looksAt ops)) s) (hg : o.guard = none) (hd : o.dst = some d) (hN : d < N) (he : edgeB md ops q k = true) (hk : effs.contains k = false) (hm : mentB nw (σ.env.filter fun p => (o.looksAt ops).contains p.1) s = true) (h : ADE P N w0 md ops Hc He q effs Q (k + 1) nw rest (σ.put d s)) : ADE P N w0 md ops Hc He q effs Q k nw (o :: rest) σ :=
  ADE.step (.inr ⟨rfl, he⟩) (hp.fresh.step hg) hk hd hN hm h
theorem ADE.fresh {s : SV} {d : Nat} (hp : FreshOp P o (Sig.only ⟨σ.env, Hc⟩ (o.looksAt ops)) s) (hg : o.guard = none) (hd : o.dst = some d) (hN : d < N) (hk : effs.contains k = false) (hm : mentB nw (σ.env.filter fun p => (o.looksAt ops).contains p.1) s = true) (h : ADE P N w0 md ops Hc He q effs Q (k + 1) nw rest (σ.put d s)) : ADE P N w0 md ops Hc He q effs Q k nw (o :: rest) σ :=
  ADE.step (.inl rfl) (hp.step hg) hk hd hN hm h
theorem ADE.eff {new : List Nat} {s : SV} {F : Env} {H' : Heap} (he : EffStep P N w0 ops o (Sig.only σ (o.looksAt ops)) new F H') (hF : FOk o.dst F s) (hk : effs.contains k = true) (hN : ∀ d, o.dst = some d → d < N) (hno : (new.all fun id => σ.env.all fun p => p.2.no id) = true) (hm : mentB nw (σ.env.filter fun p => (o.looksAt ops).contains p.1) s = true) (hsub : Sub Hc H') (hsub2 : k < q → Sub He H')
    (h : ADE P N w0 md ops Hc He q effs Q (k + 1) (new ++ nw) rest ⟨consO o.dst s σ.env, H'⟩) : ADE P N w0 md ops Hc He q effs Q k nw (o :: rest) σ :=
  let ⟨τ, h1, h2⟩ := h
  ⟨τ, .eff hk hN he hF hno hm hsub hsub2 h1, h2⟩
end
theorem Fr.ext {id : Nat} {env E : Env} {H : Heap} (h1 : Fr id ⟨env, H⟩) (h2 : E.all (fun p => p.2.no id) = true) : Fr id ⟨env ++ E, H⟩ := by
  refine ⟨?_, h1.heap⟩
  have := h1.envB
  rw [Bool.and_eq_true] at this ⊢
  exact ⟨this.1, by rw [show ((⟨env ++ E, H⟩ : Sig).env) = env ++ E from rfl, List.all_append, this.2, h2]; rfl⟩
theorem ARun.hle {P : Program} {N : Nat} {w0 : Start} {ops : Array Oper} {Q : Sig → Prop} {rest : List Oper} {e : Env} {H H' : Heap} (h : HeapLe H H') (hk : ARun P N w0 ops Q rest ⟨e, H'⟩) : ARun P N w0 ops Q rest ⟨e, H⟩ :=
  fun ρ S a w Q' hQ hs => hk ρ S a w Q' hQ ⟨hs.size, hs.defers, hs.below, hs.mem.le h, hs.env⟩
end Go.Proofs.Ytonfeiloekofdaa

namespace Go.Proofs.Ytonfeiloekofdaa
open Go.ChangeShapes Go.WideShapes Go.ChangeAt Go.RowKit Go.BigFrame Go.Deep
set_option linter.unusedVariables false
set_option linter.unusedSimpArgs false
def cloAt (md : Region.Mode) (ops : Array Oper) : Nat → List (List Nat)
  | 0 => []
  | k + 1 => let l := cloAt md ops k; l ++ [match ops[k]? with | some o => (o.after.toList.flatMap fun e => if Region.binds md e then e.on :: l.getD e.on [] else []).eraseDups | none => []]
def waitsB (md : Region.Mode) (ops : Array Oper) (x y : Nat) : Bool := ((cloAt md ops ops.size).getD x []).contains y
theorem cloAt_len {md : Region.Mode} {ops : Array Oper} : ∀ k, (cloAt md ops k).length = k
  | 0 => rfl
  | k + 1 => by simp [cloAt, cloAt_len k]
theorem cloAt_keep {md : Region.Mode} {ops : Array Oper} {x : Nat} : ∀ k, x < k → (cloAt md ops k).getD x [] = (cloAt md ops (x + 1)).getD x []
  | 0, h => absurd h (by omega)
  | k + 1, h => by
    by_cases hx : x = k
    · subst hx; rfl
    · have h1 : x < k := by omega
      rw [← cloAt_keep k h1]
      simp only [cloAt, List.getD_eq_getElem?_getD]
      rw [List.getElem?_append_left (by rw [cloAt_len]; exact h1)]
theorem cloAt_at {md : Region.Mode} {ops : Array Oper} (k : Nat) : (cloAt md ops (k + 1)).getD k [] = match ops[k]? with | some o => (o.after.toList.flatMap fun e => if Region.binds md e then e.on :: (cloAt md ops k).getD e.on [] else []).eraseDups | none => [] := by
  simp only [cloAt, List.getD_eq_getElem?_getD]
  rw [List.getElem?_append_right (by rw [cloAt_len]; exact Nat.le_refl _), cloAt_len, Nat.sub_self]
  rfl
theorem waits_listed {md : Region.Mode} {ops : Array Oper} {listed : Array Bool} (hord : ordB md ops = true) (hcl : ∀ j o, ops[j]? = some o → listed.getD j false = true → ∀ e ∈ o.after, Region.binds md e = true → listed.getD e.on false = true) :
    ∀ x y, waitsB md ops x y = true → (∀ o, ops[x]? = some o → ∀ e ∈ o.after, Region.binds md e = true → listed.getD e.on false = true) → listed.getD y false = true := by
  intro x
  induction x using Nat.strongRecOn with
  | _ x ih =>
    intro y hw hx
    unfold waitsB at hw
    by_cases hxs : x < ops.size
    · rw [cloAt_keep _ hxs, cloAt_at] at hw
      obtain ⟨o, ho⟩ : ∃ o, ops[x]? = some o := ⟨_, Array.getElem?_eq_getElem hxs⟩
      simp only [ho] at hw
      have hm := List.mem_eraseDups.1 (List.contains_iff_mem.1 hw)
      obtain ⟨e, he, hy⟩ := List.mem_flatMap.1 hm
      have he : e ∈ o.after := by simpa using he
      split at hy
      · rename_i hb
        have hlt := ordB_after hord ho e he hb
        have hle := hx o ho e he hb
        rcases List.mem_cons.1 hy with h | h
        · rw [h]; exact hle
        · refine ih e.on hlt y ?_ (fun o' ho' => hcl e.on o' ho' hle)
          unfold waitsB
          rw [cloAt_keep _ (Nat.lt_trans hlt hxs), ← cloAt_keep x hlt]
          exact List.contains_iff_mem.2 h
      · cases hy
    · rw [List.getD_eq_getElem?_getD, List.getElem?_eq_none (by rw [cloAt_len]; omega)] at hw
      cases hw
def nub : Heap → Heap
  | [] => []
  | (k, o) :: l => (k, o) :: (nub l).filter fun p => p.1 != k
theorem lookup_filter_ne {k : Nat} : ∀ {l : Heap} {t : Nat}, t ≠ k → (l.filter fun p => p.1 != k).lookup t = l.lookup t
  | [], _, _ => rfl
  | (a, b) :: l, t, h => by
    by_cases e : a = k
    · subst e
      rw [List.filter_cons_of_neg (by simp), List.lookup_cons, show (t == a) = false by simpa using h]
      exact lookup_filter_ne h
    · rw [List.filter_cons_of_pos (by simpa using e), List.lookup_cons, List.lookup_cons]
      split
      · rfl
      · exact lookup_filter_ne h
theorem nub_lookup : ∀ {l : Heap} {t : Nat}, (nub l).lookup t = l.lookup t
  | [], _ => rfl
  | (k, o) :: l, t => by
    show ((k, o) :: _).lookup t = _
    rw [List.lookup_cons, List.lookup_cons]
    cases hb : t == k with
    | true => rfl
    | false =>
      show ((nub l).filter _).lookup t = l.lookup t
      rw [lookup_filter_ne (by simpa using hb)]; exact nub_lookup
theorem nub_mem : ∀ {l : Heap} {p : Nat × AObj}, p ∈ nub l → l.lookup p.1 = some p.2
  | [], _, h => by cases h
  | (k, o) :: l, p, h => by
    rcases List.mem_cons.1 h with h | h
    · rw [h]; simp
    · obtain ⟨h1, h2⟩ := List.mem_filter.1 h
      rw [List.lookup_cons, show (p.1 == k) = false by simpa using h2]
      exact nub_mem h1
structure XOk (tk new : List Nat) (X : Heap) : Prop where
  off : ∀ p ∈ X, tk.contains p.1 = false
  no : ∀ p ∈ X, ∀ id ∈ new, p.2.No id
theorem XOk.none {tk new : List Nat} {X : Heap} (h : XOk tk new X) {id : Nat} (hid : tk.contains id = true) : ∀ o, X.lookup id = some o → False := fun o ho => by
  have := h.off _ (lookup_mem ho)
  rw [show (id, o).1 = id from rfl, hid] at this; cases this
def LkX (X H : Heap) : Prop := ∀ k o, X.lookup k = some o → H.lookup k = some o
theorem LkX.refl {X : Heap} : LkX X X := fun _ _ h => h
theorem LkX.cons {X H : Heap} {id : Nat} {p : AObj} (hX : ∀ o, X.lookup id = some o → False) (h : LkX X H) : LkX X ((id, p) :: H) := fun k o hk => by
  rw [List.lookup_cons]
  cases hb : k == id with
  | true => have : k = id := by simpa using hb
            subst this; exact (hX o hk).elim
  | false => exact h k o hk
theorem LkX.filter {X H : Heap} {id : Nat} (hX : ∀ o, X.lookup id = some o → False) (h : LkX X H) : LkX X (H.filter fun p => p.1 != id) := fun k o hk => by
  rw [lookup_filter_ne (fun e => by subst e; exact (hX o hk).elim)]
  exact h k o hk
theorem FrH.app {id : Nat} : ∀ {H X : Heap}, FrH id H → (∀ p ∈ X, p.1 ≠ id ∧ p.2.No id) → FrH id (H ++ X)
  | [], [], _, _ => trivial
  | [], (k, o) :: X, _, h => ⟨(h _ (List.mem_cons_self ..)).1, (h _ (List.mem_cons_self ..)).2, FrH.app (H := []) (X := X) trivial fun p hp => h p (List.mem_cons_of_mem _ hp)⟩
  | (k, o) :: H, X, ⟨h1, h2, h3⟩, h => ⟨h1, h2, FrH.app h3 h⟩
theorem Fr.ext2 {id : Nat} {env E : Env} {H X : Heap} {tk new : List Nat} (h1 : Fr id ⟨env, H⟩) (hE : (new.all fun id => E.all fun p => p.2.no id) = true) (hX : XOk tk new X) (hid : new.contains id = true) (ht : tk.contains id = true) : Fr id ⟨env ++ E, H ++ X⟩ := by
  have hm := List.contains_iff_mem.1 hid
  have h2 := Fr.ext h1 (List.all_eq_true.1 hE id hm)
  exact ⟨h2.envB, FrH.app h1.heap fun p hp => ⟨fun e => (by have := hX.off p hp; rw [e, ht] at this; cases this), hX.no p hp id hm⟩⟩
theorem ARun.hleX {P : Program} {N : Nat} {w0 : Start} {ops : Array Oper} {Q : Sig → Prop} {rest : List Oper} {e : Env} {H H' X : Heap} (h : HeapLe H H') (hx : LkX X H) (hk : ARun P N w0 ops Q rest ⟨e, H' ++ X⟩) : ARun P N w0 ops Q rest ⟨e, H⟩ :=
  fun ρ S a w Q' hQ hs => hk ρ S a w Q' hQ ⟨hs.size, hs.defers, hs.below, hs.mem.le' fun k p hp => by
    rcases lookup_app hp with h1 | ⟨_, h1⟩
    · exact h.get h1
    · exact HLe.refl (hx k p h1), hs.env⟩
def EffStepX (P : Program) (N : Nat) (w0 : Start) (ops : Array Oper) (o : Oper) (env : Env) (tk new : List Nat) (Hin : Heap) (F : Env) (Hout : Heap) : Prop :=
  ∀ (E : Env) (X : Heap), (new.all fun id => E.all fun p => p.2.no id) = true → XOk tk new X → ∀ (Q : Sig → Prop) (rest : List Oper), ARun P N w0 ops Q rest ⟨F ++ (env ++ E), Hout ++ X⟩ → ARun P N w0 ops Q (o :: rest) ⟨env ++ E, Hin ++ X⟩
def outH (tk : List Nat) (Hout H : Heap) : Heap := Hout ++ H.filter fun p => !tk.contains p.1
structure Row where
  rk : List Nat
  tk : List Nat
  new : List Nat
  out : Heap
def AllFr : List Nat → Heap → Prop
  | [], _ => True
  | id :: l, H => FrH id H ∧ AllFr l H
theorem AllFr.get : ∀ {l : List Nat} {H : Heap}, AllFr l H → ∀ id ∈ l, FrH id H
  | [], _, _, _, h => by cases h
  | x :: l, _, ⟨h1, h2⟩, id, h => by
    rcases List.mem_cons.1 h with h | h
    · rw [h]; exact h1
    · exact AllFr.get h2 id h
inductive ADsX (P : Program) (N : Nat) (w0 : Start) (ops : Array Oper) : List Nat → List Oper → List Row → Sig → Sig → Prop
  | nil {nw : List Nat} {σ : Sig} : ADsX P N w0 ops nw [] [] σ σ
  | pure {nw : List Nat} {o : Oper} {rest : List Oper} {rows : List Row} {σ τ : Sig} {d : Nat} {s : SV} (Hp : Heap) : o.dst = some d → d < N → OpStep P ops o (Sig.only ⟨σ.env, Hp⟩ (o.looksAt ops)) s → Sub Hp σ.heap →
      mentB nw (σ.env.filter fun p => (o.looksAt ops).contains p.1) s = true → ADsX P N w0 ops nw rest rows ⟨(d, s) :: σ.env, σ.heap⟩ τ → ADsX P N w0 ops nw (o :: rest) (⟨Hp.map (·.1), [], [], []⟩ :: rows) σ τ
  | eff {nw tk new : List Nat} {o : Oper} {rest : List Oper} {rows : List Row} {σ τ : Sig} {s : SV} {F : Env} {Hin Hout : Heap} : (∀ d, o.dst = some d → d < N) → EffStepX P N w0 ops o (Sig.only σ (o.looksAt ops)).env tk new Hin F Hout → Sub Hin σ.heap → FOk o.dst F s →
      (Hin.all fun p => tk.contains p.1) = true → (Hout.all fun p => tk.contains p.1) = true → (new.all fun id => tk.contains id && !(Hin.map (·.1)).contains id) = true → (new.all fun id => σ.env.all fun p => p.2.no id) = true → AllFr new σ.heap →
      mentB nw (σ.env.filter fun p => (o.looksAt ops).contains p.1) s = true → ADsX P N w0 ops (new ++ nw) rest rows ⟨consO o.dst s σ.env, outH tk Hout σ.heap⟩ τ → ADsX P N w0 ops nw (o :: rest) (⟨[], tk, new, Hout⟩ :: rows) σ τ
def confB (md : Region.Mode) (ops : Array Oper) (rows : List Row) : Bool :=
  (List.range rows.length).all fun b => match rows[b]? with
    | none => true
    | some y => (List.range b).all fun a => match rows[a]? with
        | none => true
        | some x => !(x.tk.any (fun id => y.tk.contains id || y.rk.contains id) || x.rk.any (fun id => y.tk.contains id)) || waitsB md ops b a
def HNo (id : Nat) : Heap → Prop
  | [] => True
  | (_, o) :: l => o.No id ∧ HNo id l
theorem HNo.get {id : Nat} : ∀ {H : Heap}, HNo id H → ∀ p ∈ H, p.2.No id
  | [], _, _, h => by cases h
  | (k, o) :: l, ⟨h1, h2⟩, p, h => by
    rcases List.mem_cons.1 h with h | h
    · rw [h]; exact h1
    · exact HNo.get h2 p h
def AllNo : List Nat → Heap → Prop
  | [], _ => True
  | id :: l, H => HNo id H ∧ AllNo l H
theorem AllNo.get : ∀ {l : List Nat} {H : Heap}, AllNo l H → ∀ id ∈ l, HNo id H
  | [], _, _, _, h => by cases h
  | x :: l, _, ⟨h1, h2⟩, id, h => by
    rcases List.mem_cons.1 h with h | h
    · rw [h]; exact h1
    · exact AllNo.get h2 id h
def NoNewA (md : Region.Mode) (ops : Array Oper) (a : Nat) (x : Row) : Nat → List Row → Prop
  | _, [] => True
  | b, y :: l => (a = b ∨ waitsB md ops a b = true ∨ AllNo y.new x.out) ∧ NoNewA md ops a x (b + 1) l
def NoNewL (md : Region.Mode) (ops : Array Oper) (all : List Row) : Nat → List Row → Prop
  | _, [] => True
  | a, x :: l => NoNewA md ops a x 0 all ∧ NoNewL md ops all (a + 1) l
def NoNew (md : Region.Mode) (ops : Array Oper) (rows : List Row) : Prop := NoNewL md ops rows 0 rows
theorem NoNewA.get {md : Region.Mode} {ops : Array Oper} {a : Nat} {x : Row} : ∀ {l : List Row} {k b : Nat} {y : Row}, NoNewA md ops a x k l → l[b]? = some y → a = k + b ∨ waitsB md ops a (k + b) = true ∨ AllNo y.new x.out
  | [], _, _, _, _, h => by simp at h
  | z :: l, k, b, y, ⟨h1, h2⟩, h => by
    cases b with
    | zero => simp at h; subst h; exact h1
    | succ b =>
      have := NoNewA.get h2 (show l[b]? = some y by simpa using h)
      rwa [show k + 1 + b = k + (b + 1) by omega] at this
theorem NoNewL.get {md : Region.Mode} {ops : Array Oper} {all : List Row} : ∀ {l : List Row} {k a : Nat} {x : Row}, NoNewL md ops all k l → l[a]? = some x → NoNewA md ops (k + a) x 0 all
  | [], _, _, _, _, h => by simp at h
  | z :: l, k, a, x, ⟨h1, h2⟩, h => by
    cases a with
    | zero => simp at h; subst h; exact h1
    | succ a =>
      have := NoNewL.get h2 (show l[a]? = some x by simpa using h)
      rwa [show k + 1 + a = k + (a + 1) by omega] at this
theorem NoNew.get {md : Region.Mode} {ops : Array Oper} {rows : List Row} (h : NoNew md ops rows) : ∀ (a b : Nat) (x y : Row), rows[a]? = some x → rows[b]? = some y → a ≠ b → ∀ id ∈ y.new, waitsB md ops a b = true ∨ ∀ p ∈ x.out, p.2.No id := fun a b x y hx hy hab id hid => by
  have := NoNewA.get (NoNewL.get h hx) hy
  rw [Nat.zero_add, Nat.zero_add] at this
  rcases this with e | e | e
  · exact absurd e hab
  · exact .inl e
  · exact .inr (e.get id hid).get
def RowsFr (H : Heap) : List Row → Prop
  | [] => True
  | r :: l => AllFr r.new H ∧ RowsFr H l
theorem RowsFr.get {H : Heap} : ∀ {l : List Row}, RowsFr H l → ∀ {k : Nat} {r : Row}, l[k]? = some r → ∀ id ∈ r.new, FrH id H
  | [], _, _, _, h => by simp at h
  | x :: l, ⟨h1, h2⟩, k, r, h => by
    cases k with
    | zero => simp at h; subst h; exact h1.get
    | succ k => exact RowsFr.get h2 (show l[k]? = some r by simpa using h)
section
variable {P : Program} {N : Nat} {w0 : Start} {ops : Array Oper} {md : Region.Mode}
theorem ADsX.lay {nw0 : List Nat} {l : List Oper} {rows : List Row} {σ τ : Sig} (h : ADsX P N w0 ops nw0 l rows σ τ) : rows.length = l.length ∧ ∃ (s : Nat → SV) (e : Nat → Env) (Hs : Nat → Heap) (nw : Nat → List Nat), e 0 = σ.env ∧ Hs 0 = σ.heap ∧ nw 0 = nw0 ∧ τ = ⟨e l.length, Hs l.length⟩ ∧
    ∀ k o, l[k]? = some o → ∃ r, rows[k]? = some r ∧ (∀ d, o.dst = some d → d < N) ∧ e (k + 1) = consO o.dst (s k) (e k) ∧ nw (k + 1) = r.new ++ nw k ∧ mentB (nw k) ((e k).filter fun p => (o.looksAt ops).contains p.1) (s k) = true ∧ (r.new.all fun id => (e k).all fun p => p.2.no id) = true ∧ (∀ id ∈ r.new, FrH id (Hs k)) ∧ (∀ id, r.tk.contains id = false → (Hs (k + 1)).lookup id = (Hs k).lookup id) ∧ (∀ id ∈ r.new, r.tk.contains id = true) ∧
      ((o.dst.isSome = true ∧ r.tk = [] ∧ r.out = [] ∧ ∃ Hp, r.rk = Hp.map (·.1) ∧ Sub Hp (Hs k) ∧ OpStep P ops o (Sig.only ⟨e k, Hp⟩ (o.looksAt ops)) (s k)) ∨
       (∃ F Hin, EffStepX P N w0 ops o (Sig.only ⟨e k, Hs k⟩ (o.looksAt ops)).env r.tk r.new Hin F r.out ∧ Sub Hin (Hs k) ∧ FOk o.dst F (s k) ∧ (Hin.all fun p => r.tk.contains p.1) = true ∧ (r.out.all fun p => r.tk.contains p.1) = true ∧ (∀ id ∈ r.new, (Hin.map (·.1)).contains id = false) ∧ Hs (k + 1) = outH r.tk r.out (Hs k))) := by
  induction h with
  | @nil nw σ => exact ⟨rfl, fun _ => .one (.con undef), fun _ => σ.env, fun _ => σ.heap, fun _ => nw, rfl, rfl, rfl, rfl, fun k o hk => by simp at hk⟩
  | @pure nw1 o rest rows σ τ d0 s0 Hp hd hN hs hsub hm _ ih =>
    obtain ⟨hl, s, e, Hs, nw, h1, h2, h3, h4, h5⟩ := ih
    refine ⟨by simp [hl], fun k => if k = 0 then s0 else s (k - 1), fun k => if k = 0 then σ.env else e (k - 1), fun k => if k = 0 then σ.heap else Hs (k - 1), fun k => if k = 0 then nw1 else nw (k - 1), rfl, rfl, rfl, by rw [h4]; simp, fun k o' hk' => ?_⟩
    cases k with
    | zero =>
      simp at hk'
      subst hk'
      exact ⟨_, rfl, fun d e => by rw [hd] at e; cases e; exact hN, by simp [h1, hd, consO], by simp [h3], by simpa using hm, by simp, by simp, by simp [h2], by simp, .inl ⟨by rw [hd]; rfl, rfl, rfl, Hp, rfl, by simpa using hsub, by simpa using hs⟩⟩
    | succ k =>
      obtain ⟨r, g0, g1, g2, g3, g4, g5, g6, g6b, g6c, g7⟩ := h5 k o' (by simpa using hk')
      exact ⟨r, by simpa using g0, g1, by simpa using g2, by simpa using g3, by simpa using g4, by simpa using g5, by simpa using g6, by simpa using g6b, g6c, by simpa using g7⟩
  | @eff nw1 tk new o rest rows σ τ s0 F Hin Hout hN hs hin hF hti hto hnew hno hfr hm _ ih =>
    obtain ⟨hl, s, e, Hs, nw, h1, h2, h3, h4, h5⟩ := ih
    refine ⟨by simp [hl], fun k => if k = 0 then s0 else s (k - 1), fun k => if k = 0 then σ.env else e (k - 1), fun k => if k = 0 then σ.heap else Hs (k - 1), fun k => if k = 0 then nw1 else nw (k - 1), rfl, rfl, rfl, by rw [h4]; simp, fun k o' hk' => ?_⟩
    have hnew' : ∀ id ∈ new, tk.contains id = true ∧ (Hin.map (·.1)).contains id = false := fun id hid => by
      have := List.all_eq_true.1 hnew id hid
      rw [Bool.and_eq_true, Bool.not_eq_true'] at this; exact this
    cases k with
    | zero =>
      simp at hk'
      subst hk'
      refine ⟨_, rfl, hN, by simp [h1], by simp [h3], by simpa using hm, by simpa using hno, by simpa using hfr.get, fun id hid => ?_, fun id hid => (hnew' id hid).1, .inr ⟨F, Hin, by simpa using hs, by simpa using hin, by simpa using hF, hti, hto, fun id hid => (hnew' id hid).2, by simp [h2]⟩⟩
      have hid : tk.contains id = false := hid
      simp only [Nat.zero_add, Nat.one_ne_zero, if_false, if_true, Nat.sub_self, h2]
      have hnone : Hout.lookup id = none := by
        cases hl2 : Hout.lookup id with
        | none => rfl
        | some p => have := List.all_eq_true.1 hto _ (lookup_mem hl2); rw [show (id, p).1 = id from rfl, hid] at this; cases this
      show (outH tk Hout σ.heap).lookup id = _
      unfold outH
      rw [lookup_none_app hnone]
      generalize σ.heap = H
      induction H with
      | nil => rfl
      | cons p H ihh =>
        obtain ⟨a, b⟩ := p
        by_cases ha : tk.contains a = true
        · rw [List.filter_cons_of_neg (by show ¬ (!tk.contains a) = true; rw [ha]; decide), List.lookup_cons, show (id == a) = false by simpa using fun e : id = a => by rw [e, ha] at hid; cases hid]
          exact ihh
        · rw [List.filter_cons_of_pos (by simpa using ha), List.lookup_cons, List.lookup_cons]
          split
          · rfl
          · exact ihh
    | succ k =>
      obtain ⟨r, g0, g1, g2, g3, g4, g5, g6, g6b, g6c, g7⟩ := h5 k o' (by simpa using hk')
      exact ⟨r, by simpa using g0, g1, by simpa using g2, by simpa using g3, by simpa using g4, by simpa using g5, by simpa using g6, by simpa using g6b, g6c, by simpa using g7⟩
theorem outH_in {tk : List Nat} {Hout H : Heap} {id : Nat} (h : tk.contains id = true) : (outH tk Hout H).lookup id = Hout.lookup id := by
  unfold outH
  cases hl : Hout.lookup id with
  | some p => exact lookup_some_app hl
  | none =>
    rw [lookup_none_app hl]
    induction H with
    | nil => rfl
    | cons p H ihh =>
      obtain ⟨a, b⟩ := p
      by_cases ha : tk.contains a = true
      · rw [List.filter_cons_of_neg (by show ¬ (!tk.contains a) = true; rw [ha]; decide)]; exact ihh
      · rw [List.filter_cons_of_pos (by simpa using ha), List.lookup_cons, show (id == a) = false by simpa using fun e : id = a => by rw [e] at h; exact ha h]
        exact ihh
theorem lookup_off {tk : List Nat} {H : Heap} {id : Nat} (h : tk.contains id = false) : (H.filter fun p => !tk.contains p.1).lookup id = H.lookup id := by
  induction H with
  | nil => rfl
  | cons p H ihh =>
    obtain ⟨a, b⟩ := p
    by_cases ha : tk.contains a = true
    · rw [List.filter_cons_of_neg (by show ¬ (!tk.contains a) = true; rw [ha]; decide), List.lookup_cons, show (id == a) = false by simpa using fun e : id = a => by rw [e, ha] at h; cases h]
      exact ihh
    · rw [List.filter_cons_of_pos (by simpa using ha), List.lookup_cons, List.lookup_cons]
      split
      · rfl
      · exact ihh
structure MidX (P : Program) (N : Nat) (w0 : Start) (ops : Array Oper) (md : Region.Mode) (rows : List Row) (s : Nat → SV) (Hs : Nat → Heap) (σ : Sig) (listed : Array Bool) (ρ : Rho) (S : Nat → Prop) (a : Act) (w : World) : Prop where
  len : listed.size = ops.size
  closed : ∀ j o, ops[j]? = some o → listed.getD j false = true → ∀ e ∈ o.after, Region.binds md e = true → listed.getD e.on false = true
  mem : ∃ H, St N w0 ρ S ⟨[], H⟩ a w ∧ ∀ id n, n ≤ ops.size → (∀ j r, j < n → rows[j]? = some r → r.tk.contains id = true → listed.getD j false = true) → (∀ j r, n ≤ j → rows[j]? = some r → r.tk.contains id = true → listed.getD j false = false) → H.lookup id = (Hs n).lookup id
  done : ∀ j o d, ops[j]? = some o → o.dst = some d → listed.getD j false = true → RS ρ w S (s j) (a.tmps.getD d undef)
  old : ∀ t x, σ.env.lookup t = some x → (∀ j o, ops[j]? = some o → o.dst = some t → listed.getD j false = false) → RS ρ w S x (a.tmps.getD t undef)
theorem any_orderX {rows : List Row} {σ τ : Sig} {Q : Exit → Act → World → Prop} (hord : ordB md ops = true) (h : ADsX P N w0 ops [] ops.toList rows σ τ) (hconf : confB md ops rows = true) (hnn : NoNew md ops rows) (hs0 : RowsFr σ.heap rows)
    (hQ : ∀ ρ S a w, St N w0 ρ S τ a w → Q .normal a w) :
    ∀ (ρ : Rho) (S : Nat → Prop) (a : Act) (w : World), St N w0 ρ S σ a w → wpAny P md ops Q ops.size (Array.replicate ops.size false) a w := by
  obtain ⟨hrl, s, e, Hs, nw, he0, hH0, hnw0, hτ, hst⟩ := h.lay
  have hlen : ops.toList.length = ops.size := by simp
  rw [hlen] at hrl
  have hstep : ∀ k o, ops[k]? = some o → _ := fun k o hk => hst k o (by first | exact hk | (rw [Array.getElem?_toList]; exact hk) | simpa using hk)
  have hget0 : ∀ k (hk : k < ops.size), ops[k]? = some (ops[k]'hk) := fun k hk => Array.getElem?_eq_getElem hk
  have hdst : ∀ (i j : Nat) (oi oj : Oper) (d : Nat), ops[i]? = some oi → ops[j]? = some oj → oi.dst = some d → oj.dst = some d → i = j := fun i j oi oj d hi hj h1 h2 => by
    rcases Nat.decEq i j with hd | hd
    · exact absurd (by rw [h1, h2]) ((ordB_pair hord hi hj).1 hd (by rw [h2]; simp))
    · exact hd
  -- conflicts
  have hcf : ∀ a b x y, rows[a]? = some x → rows[b]? = some y → a < b → ∀ id, ((x.tk.contains id = true ∧ (y.tk.contains id = true ∨ y.rk.contains id = true)) ∨ (x.rk.contains id = true ∧ y.tk.contains id = true)) → waitsB md ops b a = true := by
    intro a b x y hx hy hab id hc
    have hb : b < rows.length := (List.getElem?_eq_some_iff.1 hy).1
    have h1 := List.all_eq_true.1 hconf b (List.mem_range.2 hb)
    simp only [hy] at h1
    have h2 := List.all_eq_true.1 h1 a (List.mem_range.2 hab)
    simp only [hx] at h2
    rw [Bool.or_eq_true] at h2
    rcases h2 with h2 | h2
    · exfalso
      rw [Bool.not_eq_true', Bool.or_eq_false_iff] at h2
      rcases hc with ⟨c1, c2⟩ | ⟨c1, c2⟩
      · have := List.any_eq_false.1 h2.1 id (List.contains_iff_mem.1 c1)
        apply this
        rw [Bool.or_eq_true]; exact c2
      · exact List.any_eq_false.1 h2.2 id (List.contains_iff_mem.1 c1) c2
    · exact h2
  have hget : ∀ k, k ≤ ops.size → ∀ t x, (e k).lookup t = some x → (∃ j o, j < k ∧ ops[j]? = some o ∧ o.dst = some t ∧ x = s j) ∨ ((∀ j o, j < k → ops[j]? = some o → o.dst ≠ some t) ∧ σ.env.lookup t = some x) := by
    intro k
    induction k with
    | zero => intro _ t x h; exact .inr ⟨fun j o hj => absurd hj (by omega), by rw [← he0]; exact h⟩
    | succ k ih =>
      intro hk t x h
      obtain ⟨_, _, _, g2, _⟩ := hstep k _ (hget0 k (by omega))
      rw [g2] at h
      rcases consO_get h with ⟨h1, rfl⟩ | ⟨h1, h2⟩
      · exact .inl ⟨k, _, by omega, hget0 k (by omega), h1, rfl⟩
      · rcases ih (by omega) t x h2 with ⟨j, o, hj, q1, q2, q3⟩ | ⟨q1, q2⟩
        · exact .inl ⟨j, o, by omega, q1, q2, q3⟩
        · refine .inr ⟨fun j o hj ho => ?_, q2⟩
          by_cases hjk : j = k
          · subst hjk; rw [hget0 j (by omega)] at ho; cases ho; exact h1
          · exact q1 j o (by omega) ho
  have hmem : ∀ k, k ≤ ops.size → ∀ q ∈ e k, (∃ j o t, j < k ∧ ops[j]? = some o ∧ o.dst = some t ∧ q = (t, s j)) ∨ q ∈ σ.env := by
    intro k
    induction k with
    | zero => intro _ q h; exact .inr (by rw [← he0]; exact h)
    | succ k ih =>
      intro hk q h
      obtain ⟨_, _, _, g2, _⟩ := hstep k _ (hget0 k (by omega))
      rw [g2] at h
      rcases consO_mem h with ⟨t, h1, h2⟩ | h
      · exact .inl ⟨k, _, t, by omega, hget0 k (by omega), h1, h2⟩
      · rcases ih (by omega) q h with ⟨j, o, t, hj, q1, q2, q3⟩ | h
        · exact .inl ⟨j, o, t, by omega, q1, q2, q3⟩
        · exact .inr h
  have hup : ∀ k, k ≤ ops.size → ∀ i, i ≤ k → ∀ q ∈ e i, q ∈ e k := by
    intro k
    induction k with
    | zero => intro _ i hi q h; obtain rfl : i = 0 := (by omega); exact h
    | succ k ih =>
      intro hk i hi q h
      by_cases hik : i = k + 1
      · subst hik; exact h
      · obtain ⟨_, _, _, g2, _⟩ := hstep k _ (hget0 k (by omega))
        rw [g2]
        exact consO_mem' (ih (by omega) i (by omega) q h)
  have hnwup : ∀ k, k ≤ ops.size → ∀ j r, j < k → rows[j]? = some r → ∀ id ∈ r.new, id ∈ nw k := by
    intro k
    induction k with
    | zero => intro _ j r hj; omega
    | succ k ih =>
      intro hk j r hj hr id hid
      obtain ⟨r', g0, _, _, g3, _⟩ := hstep k _ (hget0 k (by omega))
      rw [g3]
      by_cases hjk : j = k
      · subst hjk; rw [g0] at hr; cases hr; exact List.mem_append_left _ hid
      · exact List.mem_append_right _ (ih (by omega) j r (by omega) hr id hid)
  have hfr : ∀ j r, rows[j]? = some r → ∀ id ∈ r.new, (∀ q ∈ e j, q.2.no id = true) ∧ FrH id (Hs j) ∧ r.tk.contains id = true := fun j r hr id hid => by
    have hj : j < ops.size := by have := (List.getElem?_eq_some_iff.1 hr).1; omega
    obtain ⟨r', g0, _, _, _, _, g5, g6, _, g6c, _⟩ := hstep j _ (hget0 j hj)
    rw [g0] at hr; cases hr
    exact ⟨fun q hq => List.all_eq_true.1 (List.all_eq_true.1 g5 id hid) q hq, g6 id hid, g6c id hid⟩
  -- the lexical heaps
  have hsame : ∀ id n m, n ≤ m → m ≤ ops.size → (∀ j r, n ≤ j → j < m → rows[j]? = some r → r.tk.contains id = false) → (Hs m).lookup id = (Hs n).lookup id := by
    intro id n m
    induction m with
    | zero => intro h1 _ _; obtain rfl : n = 0 := (by omega); rfl
    | succ m ih =>
      intro h1 h2 h3
      by_cases hnm : n = m + 1
      · subst hnm; rfl
      · obtain ⟨r, g0, _, _, _, _, _, _, g6b, _⟩ := hstep m _ (hget0 m (by omega))
        rw [g6b id (h3 m r (by omega) (by omega) g0)]
        exact ih (by omega) (by omega) fun j r hj1 hj2 => h3 j r hj1 (by omega)
  have hvers : ∀ n, n ≤ ops.size → ∀ id ob, (Hs n).lookup id = some ob → (∃ j r, j < n ∧ rows[j]? = some r ∧ r.tk.contains id = true ∧ (id, ob) ∈ r.out) ∨ σ.heap.lookup id = some ob := by
    intro n
    induction n with
    | zero => intro _ id ob h; rw [hH0] at h; exact .inr h
    | succ n ih =>
      intro hn id ob h
      obtain ⟨r, g0, _, _, _, _, _, _, g6b, _, g7⟩ := hstep n _ (hget0 n (by omega))
      by_cases ht : r.tk.contains id = true
      · rcases g7 with ⟨_, g, _⟩ | ⟨_, _, _, _, _, _, _, _, g⟩
        · rw [g] at ht; cases ht
        · rw [g, outH_in ht] at h
          exact .inl ⟨n, r, by omega, g0, ht, lookup_mem h⟩
      · rw [g6b id (by simpa using ht)] at h
        rcases ih (by omega) id ob h with ⟨j, r', q1, q2, q3, q4⟩ | h
        · exact .inl ⟨j, r', by omega, q2, q3, q4⟩
        · exact .inr h
  have hment : ∀ (listed : Array Bool) (_ : ∀ j o, ops[j]? = some o → listed.getD j false = true → ∀ e ∈ o.after, Region.binds md e = true → listed.getD e.on false = true) (k : Nat) (ok : Oper) (d : Nat), ops[k]? = some ok → ok.dst = some d → listed.getD k false = true → ∀ j r id, rows[j]? = some r → id ∈ r.new → (s k).no id = false → listed.getD j false = true := by
    intro listed hcl k
    induction k using Nat.strongRecOn with
    | _ k ih =>
      intro ok dk hok hdk hlk j r id hr hid hn
      have hk : k < ops.size := (Array.getElem?_eq_some_iff.1 hok).1
      have hj : j < ops.size := by have := (List.getElem?_eq_some_iff.1 hr).1; omega
      by_cases hjk : j = k
      · subst hjk; exact hlk
      · have hlt : j < k := by
          apply Classical.byContradiction
          intro hge
          have hin' : (dk, s k) ∈ e (k + 1) := by
            obtain ⟨_, _, _, g2, _⟩ := hstep k _ hok
            rw [g2, hdk]; exact List.mem_cons_self ..
          have := (hfr j r hr id hid).1 _ (hup j (by omega) (k + 1) (by omega) _ hin')
          rw [hn] at this; cases this
        obtain ⟨_, _, _, _, _, g4, _⟩ := hstep k _ hok
        have h8 := List.all_eq_true.1 g4 id (hnwup k (by omega) j r hlt hr id hid)
        rw [hn, Bool.false_or] at h8
        obtain ⟨q, hq, hqn⟩ := List.any_eq_true.1 h8
        obtain ⟨hqe, hql⟩ := List.mem_filter.1 hq
        simp only [Bool.not_eq_true'] at hqn
        rcases hmem k (by omega) q hqe with ⟨i, oi, t, hik, q1, q2, rfl⟩ | h0
        · have hli : listed.getD i false = true := by
            rcases (ordB_pair hord hok q1).2 _ q2 (by simpa using hql) with e1 | ⟨_, ed, hed, hb, hon⟩ | ⟨hn', _⟩
            · omega
            · rw [← hon]; exact hcl k _ hok hlk ed hed hb
            · omega
          exact ih i hik oi t q1 q2 hli j r id hr hid hqn
        · have := (hfr j r hr id hid).1 q (hup j (by omega) 0 (Nat.zero_le _) q (by rw [he0]; exact h0))
          rw [hqn] at this; cases this
  have key : ∀ fuel listed ρ S a w, unl listed ops.size = fuel → MidX P N w0 ops md rows s Hs σ listed ρ S a w → wpAny P md ops Q fuel listed a w := by
    intro fuel
    induction fuel with
    | zero =>
      intro listed ρ S a w hf hm
      have hall : ∀ j, j < ops.size → listed.getD j true = true := unl_zero _ hf
      have hallF : ∀ j, j < ops.size → listed.getD j false = true := fun j hj => by rw [← getD_tf (by rw [hm.len]; exact hj)]; exact hall j hj
      refine ⟨?_, ?_⟩
      · unfold Region.ready
        rw [List.filter_eq_nil_iff]
        intro i hi
        rw [hall i (List.mem_range.1 hi)]; simp
      · obtain ⟨H, hH, hv⟩ := hm.mem
        refine hQ ρ S a w ⟨hH.size, hH.defers, hH.below, ?_, fun t x ht => ?_⟩
        · rw [hτ, hlen]
          refine hH.mem.le' fun id ob hob => HLe.refl ?_
          rw [hv id ops.size (Nat.le_refl _) (fun j r hj _ _ => hallF j hj) (fun j r hj hr _ => by have := (List.getElem?_eq_some_iff.1 hr).1; omega)]
          exact hob
        · rw [hτ, hlen] at ht
          rcases hget _ (Nat.le_refl _) t x ht with ⟨j, o, hj, q1, q2, rfl⟩ | ⟨h1, h2⟩
          · exact hm.done j o t q1 q2 (hallF j hj)
          · exact hm.old t x h2 fun j o ho hd => absurd hd (h1 j o (Array.getElem?_eq_some_iff.1 ho).1 ho)
    | succ fuel ih =>
      intro listed ρ S a w hf hm
      refine ⟨fun hnil => ?_, fun i hi => ?_⟩
      · exfalso
        have hex : ∃ j, j < ops.size ∧ listed.getD j true = false := by
          by_cases hall : ∀ j, j < ops.size → listed.getD j true = true
          · have : ∀ k, k ≤ ops.size → unl listed k = 0 := by
              intro k
              induction k with
              | zero => intro _; rfl
              | succ k ihk => intro hk; simp only [unl]; rw [ihk (by omega), hall k (by omega)]; rfl
            have := this _ (Nat.le_refl _)
            omega
          · apply Classical.byContradiction
            intro hno
            exact hall fun j hj => by
              cases hb : listed.getD j true with
              | true => rfl
              | false => exact absurd ⟨j, hj, hb⟩ hno
        obtain ⟨j0, hj0⟩ := hex
        obtain ⟨j, ⟨hj, hb⟩, hmin⟩ := exists_min (p := fun j => j < ops.size ∧ listed.getD j true = false) j0 hj0
        have : j ∈ Region.ready md ops listed := by
          refine mem_ready.2 ⟨hb, _, hget0 j hj, fun ed hed hbd => ?_⟩
          have hlt := ordB_after hord (hget0 j hj) ed hed hbd
          have h1 : listed.getD ed.on true = true := by
            cases hc : listed.getD ed.on true with
            | true => rfl
            | false => have := hmin ed.on ⟨by omega, hc⟩; omega
          rw [← getD_tf (by rw [hm.len]; omega)]; exact h1
        rw [hnil] at this
        cases this
      · obtain ⟨hun, o, ho, hpre⟩ := mem_ready.1 hi
        have hilt : i < ops.size := (Array.getElem?_eq_some_iff.1 ho).1
        have hunf : listed.getD i false = false := by rw [← getD_tf (by rw [hm.len]; exact hilt)]; exact hun
        obtain ⟨r, hr, hN, hen, hnwi, hmen, hnoi, hfri, hoff, hnt, hop⟩ := hstep i o ho
        obtain ⟨H, hH, hv⟩ := hm.mem
        have hwl : ∀ y, waitsB md ops i y = true → listed.getD y false = true := fun y hy => waits_listed hord hm.closed i y hy (fun o' ho' => by rw [ho] at ho'; cases ho'; exact hpre)
        have hwn : ∀ y, waitsB md ops y i = true → listed.getD y false = false := fun y hy => by
          cases hb : listed.getD y false with
          | false => rfl
          | true =>
            have := waits_listed hord hm.closed y i hy (fun o' ho' => hm.closed y o' ho' hb)
            rw [hunf] at this; cases this
        -- what it reads or touches stands as the lexical walk has it
        have hnow : ∀ id, (r.tk.contains id = true ∨ r.rk.contains id = true) → H.lookup id = (Hs i).lookup id := fun id hid => by
          refine hv id i (by omega) (fun j r' hj hr' ht => hwl j (hcf j i r' r hr' hr hj id (.inl ⟨ht, hid⟩))) (fun j r' hj hr' ht => ?_)
          by_cases hji : j = i
          · subst hji; exact hunf
          · refine hwn j (hcf i j r r' hr hr' (by omega) id ?_)
            rcases hid with h | h
            · exact .inl ⟨h, .inl ht⟩
            · exact .inr ⟨h, ht⟩
        have hlook : ∀ t x, ((e i).filter fun p => (o.looksAt ops).contains p.1).lookup t = some x → RS ρ w S x (a.tmps.getD t undef) ∧ ((∃ j oj, ops[j]? = some oj ∧ oj.dst = some t ∧ listed.getD j false = true ∧ x = s j) ∨ (∀ j oj, ops[j]? = some oj → oj.dst = some t → listed.getD j false = false) ∧ σ.env.lookup t = some x) := by
          intro t x ht
          obtain ⟨htl, ht⟩ := lookup_filter ht
          rcases hget i (by omega) t x ht with ⟨j, oj, hj, q1, q2, rfl⟩ | ⟨h1, h2⟩
          · rcases (ordB_pair hord ho q1).2 _ q2 htl with e1 | ⟨_, ed, hed, hb, hon⟩ | ⟨hn, _⟩
            · omega
            · have hlj : listed.getD j false = true := by rw [← hon]; exact hpre ed hed hb
              exact ⟨hm.done j oj t q1 q2 hlj, .inl ⟨j, oj, q1, q2, hlj, rfl⟩⟩
            · exact absurd hj hn
          · have hno : ∀ j oj, ops[j]? = some oj → oj.dst = some t → listed.getD j false = false := fun j oj hj hdj => by
              rcases (ordB_pair hord ho hj).2 _ hdj htl with e1 | ⟨hlt, _⟩ | ⟨hn, ed, hed, hb, hon⟩
              · subst e1; exact hunf
              · exact absurd hdj (h1 j oj hlt hj)
              · cases hc : listed.getD j false with
                | false => rfl
                | true =>
                  have := hm.closed j _ hj hc ed hed hb
                  rw [hon, hunf] at this
                  cases this
            exact ⟨hm.old t x h2 hno, .inr ⟨hno, h2⟩⟩
        have hclosed' : ∀ j oj, ops[j]? = some oj → (listed.setIfInBounds i true).getD j false = true → ∀ ed ∈ oj.after, Region.binds md ed = true → (listed.setIfInBounds i true).getD ed.on false = true := by
          intro j oj hoj hl ed hed hb
          by_cases hji : j = i
          · subst hji
            rw [ho] at hoj
            obtain rfl := Option.some.inj hoj
            exact getD_set_true (hpre ed hed hb)
          · rw [getD_set_ne false (Ne.symm hji)] at hl
            exact getD_set_true (hm.closed j oj hoj hl ed hed hb)
        have hunl' : unl (listed.setIfInBounds i true) ops.size = fuel := by
          have := unl_set hun ops.size
          rw [if_pos hilt] at this
          omega
        have hset : (listed.setIfInBounds i true).getD i false = true := by simp [hm.len, hilt]
        -- the versions behind it
        have hvers' : ∀ H' : Heap, (∀ id, r.tk.contains id = true → H'.lookup id = (Hs (i + 1)).lookup id) → (∀ id, r.tk.contains id = false → H'.lookup id = H.lookup id) → ∀ id n, n ≤ ops.size → (∀ j r', j < n → rows[j]? = some r' → r'.tk.contains id = true → (listed.setIfInBounds i true).getD j false = true) → (∀ j r', n ≤ j → rows[j]? = some r' → r'.tk.contains id = true → (listed.setIfInBounds i true).getD j false = false) → H'.lookup id = (Hs n).lookup id := by
          intro H' h1 h2 id n hn q1 q2
          by_cases ht : r.tk.contains id = true
          · rw [h1 id ht]
            have hin : i < n := by
              apply Classical.byContradiction
              intro hge
              have := q2 i r (by omega) hr ht
              rw [hset] at this; cases this
            refine (hsame id (i + 1) n (by omega) hn fun j r' hj1 hj2 hr' => ?_).symm
            cases hc : r'.tk.contains id with
            | false => rfl
            | true =>
              have hl1 := q1 j r' hj2 hr' hc
              rw [getD_set_ne false (by omega)] at hl1
              have := hwn j (hcf i j r r' hr hr' (by omega) id (.inl ⟨ht, .inl hc⟩))
              rw [hl1] at this; cases this
          · have ht' : r.tk.contains id = false := by simpa using ht
            rw [h2 id ht']
            have hne : ∀ j r', rows[j]? = some r' → r'.tk.contains id = true → i ≠ j := fun j r' hr' hc e => by
              subst e; rw [hr] at hr'; cases hr'; rw [ht'] at hc; cases hc
            refine hv id n hn (fun j r' hj hr' hc => ?_) (fun j r' hj hr' hc => ?_)
            · have := q1 j r' hj hr' hc
              rwa [getD_set_ne false (hne j r' hr' hc)] at this
            · have := q2 j r' hj hr' hc
              rwa [getD_set_ne false (hne j r' hr' hc)] at this
        rcases hop with ⟨hds, htk, hout, Hp, hrk, hsubp, hps⟩ | ⟨F, Hin, heff, hsubi, hF, hti, hto, hnewi, hHn⟩
        · obtain ⟨d, hd⟩ := Option.isSome_iff_exists.1 hds
          have hdN := hN d hd
          have hpre' : St N w0 ρ S (Sig.only ⟨e i, Hp⟩ (o.looksAt ops)) a w := ⟨hH.size, hH.defers, hH.below, hH.mem.le' fun id ob hob => HLe.refl (by
            rw [hnow id (.inr (by rw [hrk]; exact List.contains_iff_mem.2 (heap_key hob)))]
            exact hsubp.get hob), fun t x ht => (hlook t x ht).1⟩
          have hnext' : ∀ v S' w', Same S w S' w' → Below w.heap.size w w' → (∀ b, S' b → S b ∨ w.heap.size ≤ b) → St N w0 ρ S' (Sig.only ⟨e i, Hp⟩ (o.looksAt ops)) a w' → RS ρ w' S' (s i) v → wpAny P md ops Q fuel (listed.setIfInBounds i true) (a.put o.dst v) w' := by
            intro v S' w' hsame' hbel hSS hs' hv'
            have hj1 : St N w0 ρ S' ⟨[], oH none ++ H⟩ a w' := St.join (H1 := Hp) hH hbel hSS hsame' rfl (fun _ _ => .refl _ _) (fun p h => by cases h) (fun p _ _ _ _ h => by cases h) ⟨hs'.size, hs'.defers, hs'.below, hs'.mem, fun t s hs => by simp at hs⟩ (fun p h => by cases h)
            have hj1 : St N w0 ρ S' ⟨[], H⟩ a w' := hj1
            refine ih _ ρ S' _ w' hunl' ⟨by simp [hm.len], hclosed', ⟨H, ?_, hvers' H (fun id h => by rw [htk] at h; cases h) (fun _ _ => rfl)⟩, ?_, ?_⟩
            · rw [hd]; exact (hj1.put hdN hv').memOnly
            · intro j oj t hj hdj hl
              have hsz : d < a.tmps.size := by rw [hH.size]; exact hdN
              rw [hd, getD_put hsz]
              by_cases hji : j = i
              · subst hji
                rw [ho] at hj; cases hj
                rw [hd] at hdj; cases hdj
                rw [if_pos rfl]; exact hv'
              · rw [if_neg (fun e => hji (hdst j i oj o t hj ho hdj (by rw [e]; exact hd)))]
                rw [getD_set_ne false (Ne.symm hji)] at hl
                exact (hm.done j oj t hj hdj hl).keep hsame' (Rn.refl _ _)
            · intro t x ht hno
              have hsz : d < a.tmps.size := by rw [hH.size]; exact hdN
              have hti : t ≠ d := fun e => by
                have := hno i o ho (by rw [e]; exact hd)
                rw [hset] at this
                cases this
              rw [hd, getD_put hsz, if_neg hti]
              refine (hm.old t x ht fun j oj hj hdj => ?_).keep hsame' (Rn.refl _ _)
              have hji : i ≠ j := fun e => by
                subst e
                rw [ho] at hj; cases hj
                rw [hd] at hdj; exact hti (Option.some.inj hdj).symm
              have := hno j oj hj hdj
              rwa [getD_set_ne false hji] at this
          have h1 := hps.run N w0 ρ S a w (wpAny P md ops Q fuel (listed.setIfInBounds i true)) Q hpre' hnext'
          unfold wpOp
          simp only [ho]
          split
          · rename_i hw; rw [if_pos hw] at h1; exact .inl h1
          · rename_i hw; rw [if_neg hw] at h1; exact h1
        · let L : Env := (List.range ops.size).filterMap fun j => if listed.getD j false = true then ((ops[j]?).bind (·.dst)).map (fun d => (d, s j)) else none
          let O : Env := σ.env.filter fun p => (List.range ops.size).all fun j => !(listed.getD j false && ((ops[j]?).bind (·.dst)) == some p.1)
          have hL : ∀ q ∈ L, ∃ j oj, ops[j]? = some oj ∧ oj.dst = some q.1 ∧ listed.getD j false = true ∧ q.2 = s j := by
            intro q hq
            obtain ⟨j, hj, hjq⟩ := List.mem_filterMap.1 hq
            have hjl := List.mem_range.1 hj
            split at hjq
            · rename_i hl
              rw [hget0 j hjl] at hjq
              obtain ⟨d, hd, rfl⟩ := Option.map_eq_some_iff.1 hjq
              exact ⟨j, _, hget0 j hjl, hd, hl, rfl⟩
            · cases hjq
          have hLin : ∀ j oj d, ops[j]? = some oj → oj.dst = some d → listed.getD j false = true → (d, s j) ∈ L := by
            intro j oj d hj hd hl
            have hjl : j < ops.size := (Array.getElem?_eq_some_iff.1 hj).1
            refine List.mem_filterMap.2 ⟨j, List.mem_range.2 hjl, ?_⟩
            rw [if_pos hl, hj]
            show (oj.dst).map _ = _
            rw [hd]; rfl
          have hO : ∀ q ∈ O, q ∈ σ.env ∧ ∀ j oj, ops[j]? = some oj → oj.dst = some q.1 → listed.getD j false = false := by
            intro q hq
            obtain ⟨h1, h2⟩ := List.mem_filter.1 hq
            refine ⟨h1, fun j oj hj hd => ?_⟩
            have hjl : j < ops.size := (Array.getElem?_eq_some_iff.1 hj).1
            have := List.all_eq_true.1 h2 j (List.mem_range.2 hjl)
            rw [hj] at this
            cases hb : listed.getD j false with
            | false => rfl
            | true =>
              rw [hb] at this
              simp [hd] at this
          have hOlk : ∀ t x, O.lookup t = some x → σ.env.lookup t = some x := by
            intro t x
            show (σ.env.filter _).lookup t = some x → _
            generalize σ.env = en
            induction en with
            | nil => intro h; simp at h
            | cons p en ihh =>
              intro h
              obtain ⟨k, v⟩ := p
              by_cases hk : ((List.range ops.size).all fun j => !(listed.getD j false && ((ops[j]?).bind (·.dst)) == some k)) = true
              · rw [List.filter_cons_of_pos (by simpa using hk)] at h
                rcases lookup_put h with ⟨rfl, rfl⟩ | ⟨hne, h⟩
                · simp
                · rw [List.lookup_cons, show (t == k) = false by simpa using hne]; exact ihh h
              · rw [List.filter_cons_of_neg (by simpa using hk)] at h
                have hne : t ≠ k := by
                  intro e
                  subst e
                  obtain ⟨_, h2⟩ := List.mem_filter.1 (lookup_mem h)
                  exact hk (by simpa using h2)
                rw [List.lookup_cons, show (t == k) = false by simpa using hne]; exact ihh h
          have hOget : ∀ t x, σ.env.lookup t = some x → (∀ j oj, ops[j]? = some oj → oj.dst = some t → listed.getD j false = false) → O.lookup t = some x := by
            intro t x ht hno
            show (σ.env.filter _).lookup t = some x
            generalize σ.env = en at ht
            induction en with
            | nil => simp at ht
            | cons p en ihh =>
              obtain ⟨k, v⟩ := p
              rcases lookup_put ht with ⟨rfl, rfl⟩ | ⟨hne, ht⟩
              · rw [List.filter_cons_of_pos]
                · simp
                · rw [List.all_eq_true]
                  intro j hj
                  have hjl := List.mem_range.1 hj
                  rw [hget0 j hjl]
                  cases hb : listed.getD j false with
                  | false => rfl
                  | true =>
                    cases hd : decide (ops[j].dst = some t) with
                    | true => have := hno j _ (hget0 j hjl) (of_decide_eq_true hd); rw [hb] at this; cases this
                    | false => have := of_decide_eq_false hd; simp [this]
              · have hr := ihh ht
                by_cases hk : ((List.range ops.size).all fun j => !(listed.getD j false && ((ops[j]?).bind (·.dst)) == some k)) = true
                · rw [List.filter_cons_of_pos (by simpa using hk), List.lookup_cons, show (t == k) = false by simpa using hne]; exact hr
                · rw [List.filter_cons_of_neg (by simpa using hk)]; exact hr
          let E : Env := L ++ O
          have hLlk : ∀ j oj d, ops[j]? = some oj → oj.dst = some d → listed.getD j false = true → L.lookup d = some (s j) := by
            intro j oj d hj hd hl
            cases hlk : L.lookup d with
            | none =>
              exfalso
              have hm2 := hLin j oj d hj hd hl
              have : ∀ (l : Env), (d, s j) ∈ l → l.lookup d ≠ none := by
                intro l
                induction l with
                | nil => intro h; cases h
                | cons p l ihl =>
                  intro h
                  obtain ⟨k, v⟩ := p
                  rw [List.lookup_cons]
                  rcases List.mem_cons.1 h with h | h
                  · cases h; simp
                  · split
                    · simp
                    · exact ihl h
              exact this L hm2 hlk
            | some x =>
              obtain ⟨j', oj', q1, q2, q3, q4⟩ := hL _ (lookup_mem hlk)
              have : j' = j := hdst j' j oj' oj d q1 hj q2 hd
              subst this
              rw [show x = s j' from q4]
          have hLnone : ∀ t, (∀ j oj, ops[j]? = some oj → oj.dst = some t → listed.getD j false = false) → L.lookup t = none := by
            intro t hno
            cases hlk : L.lookup t with
            | none => rfl
            | some x =>
              obtain ⟨j', oj', q1, q2, q3, q4⟩ := hL _ (lookup_mem hlk)
              have := hno j' oj' q1 q2
              rw [q3] at this; cases this
          have hE : (r.new.all fun id => E.all fun p => p.2.no id) = true := by
            rw [List.all_eq_true]
            intro id hid
            rw [List.all_eq_true]
            intro q hq
            rcases List.mem_append.1 hq with hq | hq
            · obtain ⟨j, oj, q1, q2, q3, q4⟩ := hL q hq
              cases hn : q.2.no id with
              | true => rfl
              | false =>
                rw [q4] at hn
                have := hment listed hm.closed j oj _ q1 q2 q3 i r id hr hid hn
                rw [hunf] at this; cases this
            · have hq2 := (hO q hq).1
              exact (hfr i r hr id hid).1 q (hup i (by omega) 0 (Nat.zero_le _) q (by rw [he0]; exact hq2))
          -- what else is held
          let X : Heap := nub (H.filter fun p => !r.tk.contains p.1)
          have hX : XOk r.tk r.new X := by
            refine ⟨fun p hp => ?_, fun p hp id hid => ?_⟩
            · have h1 := lookup_mem (nub_mem hp)
              have := (List.mem_filter.1 h1).2
              simpa using this
            · have h1 := nub_mem hp
              have hoffp : r.tk.contains p.1 = false := by
                have := (List.mem_filter.1 (lookup_mem h1)).2
                simpa using this
              rw [lookup_off hoffp] at h1
              -- the version that stands
              have hex : ∀ m, m ≤ ops.size → ∃ n, n ≤ ops.size ∧ (∀ j r', j < n → rows[j]? = some r' → r'.tk.contains p.1 = true → listed.getD j false = true) ∧ (∀ j r', n ≤ j → j < m → rows[j]? = some r' → r'.tk.contains p.1 = true → listed.getD j false = false) ∧ n ≤ m := by
                intro m
                induction m with
                | zero => intro _; exact ⟨0, Nat.zero_le _, fun j r' hj => by omega, fun j r' h1 h2 => by omega, Nat.le_refl _⟩
                | succ m ihm =>
                  intro hms
                  obtain ⟨n, n1, n2, n3, n4⟩ := ihm (by omega)
                  obtain ⟨rm, hrm, _⟩ := hstep m _ (hget0 m (by omega))
                  by_cases hc : rm.tk.contains p.1 = true ∧ listed.getD m false = true
                  · refine ⟨m + 1, hms, fun j r' hj hr' ht => ?_, fun j r' h1 h2 => by omega, Nat.le_refl _⟩
                    by_cases hjm : j = m
                    · subst hjm; exact hc.2
                    · refine waits_listed hord hm.closed m j (hcf j m r' rm hr' hrm (by omega) p.1 (.inl ⟨ht, .inl hc.1⟩)) (fun o' ho' => hm.closed m o' ho' hc.2)
                  · refine ⟨n, n1, n2, fun j r' h1 h2 hr' ht => ?_, by omega⟩
                    by_cases hjm : j = m
                    · subst hjm
                      rw [hrm] at hr'; cases hr'
                      cases hb : listed.getD j false with
                      | false => rfl
                      | true => exact absurd ⟨ht, hb⟩ hc
                    · exact n3 j r' h1 (by omega) hr' ht
              obtain ⟨n, n1, n2, n3, _⟩ := hex ops.size (Nat.le_refl _)
              rw [hv p.1 n n1 n2 (fun j r' h1 hr' ht => n3 j r' h1 (by have := (List.getElem?_eq_some_iff.1 hr').1; omega) hr' ht)] at h1
              rcases hvers n n1 p.1 p.2 h1 with ⟨j, r', q1, q2, q3, q4⟩ | h0
              · have hlj := n2 j r' q1 q2 q3
                rcases hnn.get j i r' r q2 hr (fun e => by rw [e, hunf] at hlj; cases hlj) id hid with hw | hno
                · have := hwn j hw; rw [hlj] at this; cases this
                · exact hno _ q4
              · exact ((hs0.get hr id hid).get h0).2
          let pf : Env := (e i).filter fun p => (o.looksAt ops).contains p.1
          have hHX : ∀ id ob, (Hin ++ X).lookup id = some ob → H.lookup id = some ob := by
            intro id ob h
            rcases lookup_app h with h | ⟨_, h⟩
            · have ht : r.tk.contains id = true := List.all_eq_true.1 hti _ (lookup_mem h)
              rw [hnow id (.inl ht)]; exact hsubi.get h
            · have h2 : (nub (H.filter fun p => !r.tk.contains p.1)).lookup id = some ob := h
              rw [nub_lookup] at h2
              have hoffp : r.tk.contains id = false := by
                have := (List.mem_filter.1 (lookup_mem h2)).2
                simpa using this
              rwa [lookup_off hoffp] at h2
          have hpre' : St N w0 ρ S ⟨pf ++ E, Hin ++ X⟩ a w := by
            refine ⟨hH.size, hH.defers, hH.below, hH.mem.le' fun id ob hob => HLe.refl (hHX id ob hob), fun t x ht => ?_⟩
            rcases lookup_app ht with h1 | ⟨_, h1⟩
            · exact (hlook t x h1).1
            · rcases lookup_app h1 with h1 | ⟨_, h1⟩
              · obtain ⟨j, oj, q1, q2, q3, q4⟩ := hL _ (lookup_mem h1)
                rw [show x = s j from q4]
                exact hm.done j oj t q1 q2 q3
              · exact hm.old t x (hOlk t x h1) (hO _ (lookup_mem h1)).2
          let Q2 : Exit → Act → World → Prop := fun e a' w' => match e with | .normal => wpAny P md ops Q fuel (listed.setIfInBounds i true) a' w' | _ => False
          have hfin : ∀ ρ' S' σ' a' w', St N w0 ρ' S' σ' a' w' → σ' = ⟨F ++ (pf ++ E), r.out ++ X⟩ → Q2 .normal a' w' := by
            intro ρ' S' σ' a' w' hs' hσ
            subst hσ
            show wpAny P md ops Q fuel (listed.setIfInBounds i true) a' w'
            have hEt : ∀ j oj d, ops[j]? = some oj → oj.dst = some d → listed.getD j false = true → (pf ++ E).lookup d = some (s j) := by
              intro j oj d hj hd hl
              cases hp : pf.lookup d with
              | none => rw [lookup_none_app hp]; exact lookup_some_app (hLlk j oj d hj hd hl)
              | some x =>
                rw [lookup_some_app hp]
                rcases (hlook d x hp).2 with ⟨j', oj', q1, q2, q3, q4⟩ | ⟨q1, _⟩
                · have : j' = j := hdst j' j oj' oj d q1 hj q2 hd
                  subst this; rw [q4]
                · have := q1 j oj hj hd; rw [hl] at this; cases this
            have hOt : ∀ t x, σ.env.lookup t = some x → (∀ j oj, ops[j]? = some oj → oj.dst = some t → listed.getD j false = false) → (pf ++ E).lookup t = some x := by
              intro t x ht hno
              cases hp : pf.lookup t with
              | none => rw [lookup_none_app hp, lookup_none_app (hLnone t hno)]; exact hOget t x ht hno
              | some y =>
                rw [lookup_some_app hp]
                rcases (hlook t y hp).2 with ⟨j', oj', q1, q2, q3, q4⟩ | ⟨_, q2⟩
                · have := hno j' oj' q1 q2; rw [q3] at this; cases this
                · rw [← q2]; exact ht
            have hFo : ∀ t, o.dst ≠ some t → F.lookup t = none := by
              intro t ht
              cases hd : o.dst with
              | none => rw [hd] at hF; rw [hF.1]; rfl
              | some d =>
                rw [hd] at hF ht
                exact F_other hF.2 (fun e => ht (by rw [e]))
            have hXl : ∀ id, r.tk.contains id = false → X.lookup id = H.lookup id := fun id hid => by
              show (nub _).lookup id = _
              rw [nub_lookup, lookup_off hid]
            have hout0 : ∀ id, r.tk.contains id = false → r.out.lookup id = none := fun id hid => by
              cases hl2 : r.out.lookup id with
              | none => rfl
              | some p => have := List.all_eq_true.1 hto _ (lookup_mem hl2); rw [show (id, p).1 = id from rfl, hid] at this; cases this
            have hXn : ∀ id, r.tk.contains id = true → X.lookup id = none := fun id hid => by
              cases hl2 : X.lookup id with
              | none => rfl
              | some p => exact (hX.none hid p hl2).elim
            refine ih _ ρ' S' _ w' hunl' ⟨by simp [hm.len], hclosed', ⟨r.out ++ X, ⟨hs'.size, hs'.defers, hs'.below, hs'.mem, fun t s hs => by simp at hs⟩, hvers' _ (fun id hid => ?_) (fun id hid => ?_)⟩, ?_, ?_⟩
            · rw [hHn, outH_in hid]
              cases hl2 : r.out.lookup id with
              | some p => exact lookup_some_app hl2
              | none => rw [lookup_none_app hl2]; exact hXn id hid
            · rw [lookup_none_app (hout0 id hid)]; exact hXl id hid
            · intro j oj t hj hdj hl
              by_cases hji : j = i
              · subst hji
                rw [ho] at hj; cases hj
                rw [hdj] at hF
                exact hs'.env t _ (lookup_some_app hF.1)
              · rw [getD_set_ne false (Ne.symm hji)] at hl
                refine hs'.env t _ ?_
                rw [lookup_none_app (hFo t fun e => hji (hdst j i oj o t hj ho hdj e))]
                exact hEt j oj t hj hdj hl
            · intro t x ht hno
              have hti : o.dst ≠ some t := fun e => by
                have := hno i o ho e
                rw [hset] at this
                cases this
              refine hs'.env t _ ?_
              rw [lookup_none_app (hFo t hti)]
              refine hOt t x ht fun j oj hj hdj => ?_
              have hji : i ≠ j := fun e => by
                subst e
                rw [ho] at hj; cases hj
                exact hti hdj
              have := hno j oj hj hdj
              rwa [getD_set_ne false hji] at this
          have h1 := heff E X hE hX (fun σ' => σ' = ⟨F ++ (pf ++ E), r.out ++ X⟩) [] (fun ρ S a w Q'' hQ'' hs'' => hQ'' ρ S _ a w hs'' rfl) ρ S a w Q2 hfin hpre'
          unfold wpOp
          simp only [ho]
          unfold wpList at h1
          split
          · rename_i hw
            rw [if_pos hw] at h1
            rcases h1 with h1 | ⟨_, _, _, h1⟩
            · exact .inl (Oper.wp_only (Q2 := Q2) (fun _ _ _ h => h) (fun _ _ h => h) (Oper.wp_mono (fun a' w' h => h) h1))
            · exact h1.elim
          · rename_i hw
            rw [if_neg hw] at h1
            exact h1
  intro ρ S a w hs
  refine key ops.size _ ρ S a w ?_ ⟨by simp, fun j o ho hl => ?_, ⟨σ.heap, hs.memOnly, fun id n hn h1 h2 => ?_⟩, fun j o d hj hd hl => ?_, fun t x ht _ => hs.env t x ht⟩
  · have : ∀ k, k ≤ ops.size → unl (Array.replicate ops.size false) k = k := by
      intro k
      induction k with
      | zero => intro _; rfl
      | succ k ihk => intro hk; simp only [unl]; rw [ihk (by omega)]; simp [show k < ops.size by omega]
    exact this _ (Nat.le_refl _)
  · exfalso
    by_cases hj : j < ops.size <;> simp [hj] at hl
  · rw [hsame id 0 n (Nat.zero_le _) hn (fun j r _ hj hr => ?_), hH0]
    cases hc : r.tk.contains id with
    | false => rfl
    | true =>
      have := h1 j r hj hr hc
      simp [show j < ops.size by omega] at this
  · exfalso
    have hjl : j < ops.size := (Array.getElem?_eq_some_iff.1 hj).1
    simp [hjl] at hl
end
section
variable {P : Program} {N : Nat} {w0 : Start} {ops : Array Oper} {Q : Sig → Prop} {σ : Sig} {o : Oper} {rest : List Oper} {rows : List Row} {nw : List Nat}
def ADX (P : Program) (N : Nat) (w0 : Start) (ops : Array Oper) (Q : Sig → Prop) (nw : List Nat) (l : List Oper) (rows : List Row) (σ : Sig) : Prop := ∃ τ H, ADsX P N w0 ops nw l rows σ τ ∧ HeapLe τ.heap H ∧ Q ⟨τ.env, H⟩
theorem AW.anyX (rows : List Row) {i : Nat} {l : List Oper} {Q : Exit → Sig → Prop} {σ : Sig} (hm : P.follows .mixedOrders = true) (hord : ordB .any l.toArray = true) (hconf : confB .any l.toArray rows = true) (hnn : NoNew .any l.toArray rows) (hs0 : RowsFr σ.heap rows)
    (h : ADX P N w0 l.toArray (fun σ => Q .normal σ) [] l rows σ) : AW P N w0 (.region i l.toArray true) Q σ := by
  intro ρ S a w Q' hQ hs
  obtain ⟨τ, H, h1, hH, h2⟩ := h
  refine wp_region_any hm ?_
  exact any_orderX (τ := τ) hord (by simpa using h1) hconf hnn hs0 (fun ρ S a w hs' => hQ _ ρ S ⟨τ.env, H⟩ a w ⟨hs'.size, hs'.defers, hs'.below, hs'.mem.le hH, hs'.env⟩ h2) ρ S a _ (hs.world ((Below.refl _ _).drew))
theorem ADX.nil {H : Heap} (hH : HeapLe σ.heap H) (h : Q ⟨σ.env, H⟩) : ADX P N w0 ops Q nw [] [] σ := ⟨σ, H, .nil, hH, h⟩
theorem ADX.step {s : SV} {d : Nat} (Hp : Heap) (hp : OpStep P ops o (Sig.only ⟨σ.env, Hp⟩ (o.looksAt ops)) s) (hd : o.dst = some d) (hN : d < N) (hsub : Sub Hp σ.heap) (hm : mentB nw (σ.env.filter fun p => (o.looksAt ops).contains p.1) s = true) (h : ADX P N w0 ops Q nw rest rows (σ.put d s)) : ADX P N w0 ops Q nw (o :: rest) (⟨Hp.map (·.1), [], [], []⟩ :: rows) σ :=
  let ⟨τ, H, h1, h2, h3⟩ := h
  ⟨τ, H, .pure Hp hd hN hp hsub hm h1, h2, h3⟩
theorem ADX.pure {s : SV} {d : Nat} (Hp : Heap) (hp : PureOp P o (Sig.only ⟨σ.env, Hp⟩ (o.looksAt ops)) s) (hg : o.guard = none) (hd : o.dst = some d) (hN : d < N) (hsub : Sub Hp σ.heap) (hm : mentB nw (σ.env.filter fun p => (o.looksAt ops).contains p.1) s = true) (h : ADX P N w0 ops Q nw rest rows (σ.put d s)) : ADX P N w0 ops Q nw (o :: rest) (⟨Hp.map (·.1), [], [], []⟩ :: rows) σ :=
  ADX.step Hp (hp.fresh.step hg) hd hN hsub hm h
theorem ADX.fresh {s : SV} {d : Nat} (Hp : Heap) (hp : FreshOp P o (Sig.only ⟨σ.env, Hp⟩ (o.looksAt ops)) s) (hg : o.guard = none) (hd : o.dst = some d) (hN : d < N) (hsub : Sub Hp σ.heap) (hm : mentB nw (σ.env.filter fun p => (o.looksAt ops).contains p.1) s = true) (h : ADX P N w0 ops Q nw rest rows (σ.put d s)) : ADX P N w0 ops Q nw (o :: rest) (⟨Hp.map (·.1), [], [], []⟩ :: rows) σ :=
  ADX.step Hp (hp.step hg) hd hN hsub hm h
theorem ADX.gpure {s : SV} {d g t : Nat} {want c : Bool} (Hp : Heap) (hgate : Gate (Sig.only ⟨σ.env, Hp⟩ (o.looksAt ops)) t want c) (hp : c = true → PureOp P o (Sig.only ⟨σ.env, Hp⟩ (o.looksAt ops)) s) (hg : o.guard = some (g, want)) (hgd : (ops[g]?).bind (·.dst) = some t) (hd : o.dst = some d) (hN : d < N) (hsub : Sub Hp σ.heap)
    (hm : mentB nw (σ.env.filter fun p => (o.looksAt ops).contains p.1) (.gd c s) = true) (h : ADX P N w0 ops Q nw rest rows (σ.put d (.gd c s))) : ADX P N w0 ops Q nw (o :: rest) (⟨Hp.map (·.1), [], [], []⟩ :: rows) σ :=
  ADX.step Hp (FreshOp.gstep hgate (fun hc => (hp hc).fresh) hg hgd fun N _ _ _ _ _ _ => by omega) hd hN hsub hm h
theorem ADX.eff {tk new : List Nat} {s : SV} {F : Env} {Hin Hout : Heap} (he : EffStepX P N w0 ops o (Sig.only σ (o.looksAt ops)).env tk new Hin F Hout) (hin : Sub Hin σ.heap) (hF : FOk o.dst F s) (hti : (Hin.all fun p => tk.contains p.1) = true) (hto : (Hout.all fun p => tk.contains p.1) = true)
    (hnew : (new.all fun id => tk.contains id && !(Hin.map (·.1)).contains id) = true) (hno : (new.all fun id => σ.env.all fun p => p.2.no id) = true) (hfr : AllFr new σ.heap) (hm : mentB nw (σ.env.filter fun p => (o.looksAt ops).contains p.1) s = true) (hN : ∀ d, o.dst = some d → d < N)
    (h : ADX P N w0 ops Q (new ++ nw) rest rows ⟨consO o.dst s σ.env, outH tk Hout σ.heap⟩) : ADX P N w0 ops Q nw (o :: rest) (⟨[], tk, new, Hout⟩ :: rows) σ :=
  let ⟨τ, H, h1, h2, h3⟩ := h
  ⟨τ, H, .eff hN he hin hF hti hto hnew hno hfr hm h1, h2, h3⟩
end
end Go.Proofs.Ytonfeiloekofdaa

namespace Go.Proofs.Ytonfeiloekofdaa
open Go.ChangeShapes Go.WideShapes Go.ChangeAt Go.RowKit Go.BigFrame Go.Deep
set_option linter.unusedVariables false
set_option linter.unusedSimpArgs false
section
variable {P : Program} {N : Nat} {w0 : Start} {σ : Sig} {ops : Array Oper} {rest : List Oper} {o : Oper} {Q : Sig → Prop}
theorem KnR.at_ {ρ : Rho} {S : Nat → Prop} {a : Act} {w : World} {y : Operand} {sz m : Nat} {g : Nat → Nat → AV} (h : KnR σ y sz m g) (hs : St N w0 ρ S σ a w) : ∃ A c, a.eval y = .slice A m c ∧ (0 < m → ∃ b off, A = some ⟨b, off, none⟩ ∧ ∀ i j, i < m → j < sz → ∃ u, w.cell? ⟨b, off + (i * sz + j), none⟩ = some u ∧ R ρ w S (g i j) u) := by
  cases h with
  | @own id ob k1 k2 k3 k4 k5 =>
    subst k3
    obtain ⟨A, ev, hn1, hn2, hA⟩ := k1.sound hs
    refine ⟨A, _, ev, fun hm => ?_⟩
    have hc : (ρ id).2 ≠ 0 := by omega
    obtain ⟨cs, e, h1, h2, h3, h4, h5, h6, h7⟩ := hs.mem.obj id ob k2 hc
    refine ⟨(ρ id).1, 0, by rcases hA with h | ⟨_, h⟩; (· exact h); (· exact absurd h hc), fun i j hi hj => ?_⟩
    obtain ⟨u, hu, hr⟩ := h7 i j (by omega) hj
    rw [k5 i j hi hj] at hr
    exact ⟨u, by simp [World.cell?, h1, hu], hr⟩
  | gen k1 => exact k1 _ _ _ _ _ _ hs
  | lst k1 =>
    obtain ⟨A, c, ev, h1, h2, h3, h4⟩ := k1.sound hs
    refine ⟨A, c, ev, fun hm => ?_⟩
    obtain ⟨b, off, hA, _, _⟩ := h4 0 hm
    refine ⟨b, off, hA, fun i j hi hj => ?_⟩
    obtain ⟨b', off', hA', _, hc⟩ := h4 i hi
    rw [hA] at hA'
    cases hA'
    obtain ⟨u, hu, hd⟩ := hc j hj
    exact ⟨u, hu, hd.toR⟩
inductive KnD (σ : Sig) (x : Operand) (id q n : Nat) : Prop
  | tl : Kn σ x (.one (.tl id 1 q n)) → KnD σ x id q n
  | own : q = 0 → Kn σ x (.one (.own id 1 n)) → KnD σ x id q n
end
end Go.Proofs.Ytonfeiloekofdaa

namespace Go.Proofs.Ytonfeiloekofdaa
open Go.ChangeShapes Go.WideShapes Go.ChangeAt Go.RowKit Go.BigFrame Go.Deep
set_option linter.unusedVariables false
set_option linter.unusedSimpArgs false
section
variable {P : Program} {N : Nat} {w0 : Start} {σ : Sig} {ops : Array Oper} {rest : List Oper} {o : Oper} {Q : Sig → Prop}
theorem R.noB {ρ ρ' : Rho} {w : World} {S : Nat → Prop} {id : Nat} (hb : ρ'.base = ρ.base) (hm : ∀ k, k ≠ id → ρ' k = ρ k) (hv : ∀ k, k ≠ id → ρ'.tv k = ρ.tv k) (hn : ∀ k, k ≠ id → ρ'.tn k = ρ.tn k) : ∀ {x : AV} {u : Value}, x.no id = true → R ρ w S x u → R ρ' w S x u := by
  intro x
  induction x with
  | tre k i =>
    rintro u h ⟨e, hi, hsl⟩
    have hk : k ≠ id := fun e => by subst e; simp [AV.no] at h
    exact ⟨by rw [hv k hk]; exact e, by rw [hn k hk]; exact hi, hsl⟩
  | fn g m caps ih =>
    rintro u h ⟨vs, e, hm, hc⟩
    rw [AV.no, List.all_eq_true] at h
    refine ⟨vs, e, hm, fun j hj => ?_⟩
    obtain ⟨u, hu, hr⟩ := hc j hj
    exact ⟨u, hu, ih j (h j (List.mem_range.2 hj)) hr⟩
  | frs x =>
    intro u _ h
    unfold R at h ⊢
    exact h.keep ⟨fun b hb' => ⟨hb'.1, by rw [hb]; exact hb'.2⟩, fun _ _ => rfl⟩
  | lst _ _ _ => exact fun _ h => h
  | ref _ _ => exact fun _ h => h
  | int _ _ => exact fun _ h => h
  | bool _ => exact fun _ h => h
  | str _ => exact fun _ h => h
  | con _ => exact fun _ h => h
  | cv _ _ => exact fun _ h => h
  | tl k _ _ _ =>
    intro u h hr
    have hk : k ≠ id := fun e => by subst e; simp [AV.no] at h
    unfold R at hr ⊢
    rw [hm k hk]; exact hr
  | ptr k _ _ _ =>
    intro u h hr
    have hk : k ≠ id := fun e => by subst e; simp [AV.no] at h
    unfold R at hr ⊢
    rw [hm k hk]; exact hr
  | own k _ _ =>
    intro u h hr
    have hk : k ≠ id := fun e => by subst e; simp [AV.no] at h
    unfold R at hr ⊢
    rw [hm k hk]; exact hr
theorem RL.noB {ρ ρ' : Rho} {w : World} {S : Nat → Prop} {id : Nat} (hb : ρ'.base = ρ.base) (hm : ∀ k, k ≠ id → ρ' k = ρ k) (hv : ∀ k, k ≠ id → ρ'.tv k = ρ.tv k) (hn : ∀ k, k ≠ id → ρ'.tn k = ρ.tn k) : ∀ {l : List AV} {us : List Value}, l.all (AV.no id) = true → RL ρ w S l us → RL ρ' w S l us
  | [], _, _, h => h
  | x :: l, _, hno, h => by
    obtain ⟨u, us', e, h1, h2⟩ := h
    rw [List.all_cons, Bool.and_eq_true] at hno
    exact ⟨u, us', e, R.noB hb hm hv hn hno.1 h1, RL.noB hb hm hv hn hno.2 h2⟩
theorem RS.noB {ρ ρ' : Rho} {w : World} {S : Nat → Prop} {id : Nat} (hb : ρ'.base = ρ.base) (hm : ∀ k, k ≠ id → ρ' k = ρ k) (hv : ∀ k, k ≠ id → ρ'.tv k = ρ.tv k) (hn : ∀ k, k ≠ id → ρ'.tn k = ρ.tn k) : ∀ {s : SV} {u : Value}, s.no id = true → RS ρ w S s u → RS ρ' w S s u := by
  intro s
  induction s with
  | one x => exact R.noB hb hm hv hn
  | agg l => rintro u hno ⟨us, e, h⟩; exact ⟨us, e, RL.noB hb hm hv hn hno h⟩
  | tup2 x y ih1 ih2 =>
    rintro u hno ⟨a, b, e, h1, h2⟩
    rw [SV.no, Bool.and_eq_true] at hno
    exact ⟨a, b, e, ih1 hno.1 h1, ih2 hno.2 h2⟩
  | tup3 x y z ih1 ih2 ih3 =>
    rintro u hno ⟨a, b, c, e, h1, h2, h3⟩
    rw [SV.no, Bool.and_eq_true, Bool.and_eq_true] at hno
    exact ⟨a, b, c, e, ih1 hno.1.1 h1, ih2 hno.1.2 h2, ih3 hno.2 h3⟩
  | tup4 x y z t ih1 ih2 ih3 ih4 =>
    rintro u hno ⟨a, b, c, d, e, h1, h2, h3, h4⟩
    rw [SV.no, Bool.and_eq_true, Bool.and_eq_true, Bool.and_eq_true] at hno
    exact ⟨a, b, c, d, e, ih1 hno.1.1.1 h1, ih2 hno.1.1.2 h2, ih3 hno.1.2 h3, ih4 hno.2 h4⟩
  | gd b s ih => rintro u hno ⟨h1, h2⟩; exact ⟨fun hb => ih hno (h1 hb), h2⟩
end
end Go.Proofs.Ytonfeiloekofdaa

namespace Go.Proofs.Ytonfeiloekofdaa
open Go.ChangeShapes Go.WideShapes Go.ChangeAt Go.RowKit Go.BigFrame Go.Deep
set_option linter.unusedVariables false
set_option linter.unusedSimpArgs false
section
variable {P : Program} {N : Nat} {w0 : Start} {σ : Sig} {ops : Array Oper} {rest : List Oper} {o : Oper} {Q : Sig → Prop}
inductive KnDN (σ : Sig) (x : Operand) (sz id q n : Nat) : Prop
  | tl : Kn σ x (.one (.tl id sz q n)) → KnDN σ x sz id q n
  | own : q = 0 → Kn σ x (.one (.own id sz n)) → KnDN σ x sz id q n
structure SrcOk (σ : Sig) (y : Operand) (sz m : Nat) (g : Nat → Nat → AV) : Prop where
  src : ∀ (N : Nat) (w0 : Start) (ρ : Rho) (S : Nat → Prop) (a : Act) (w : World), St N w0 ρ S σ a w → ∃ A c, a.eval y = .slice A m c ∧ (0 < m → ∃ b off, A = some ⟨b, off, none⟩ ∧ ∀ i j, i < m → j < sz → ∃ u, w.cell? ⟨b, off + (i * sz + j), none⟩ = some u ∧ R ρ w S (g i j) u)
theorem SrcOk.of {y : Operand} {sz m : Nat} {g : Nat → Nat → AV} (h : KnR σ y sz m g) : SrcOk σ y sz m g := ⟨fun _ _ _ _ _ _ hs => h.at_ hs⟩
theorem SrcOk.tl {y : Operand} {id sz q n m : Nat} {ob : AObj} {g : Nat → Nat → AV} (k1 : Kn σ y (.one (.tl id sz q n))) (k2 : σ.heap.lookup id = some ob) (k3 : ob.sz = sz) (k4 : n ≤ ob.n) (hm : m = n - q) (k5 : ∀ i j, i < m → j < sz → ob.f (q + i) j = g i j) : SrcOk σ y sz m g := by
  subst hm
  refine ⟨fun N w0 ρ S a w hs => ?_⟩
  obtain ⟨A, ev, h1, h2, h3, h4⟩ := k1.sound hs
  refine ⟨A, _, ev, fun hm => ?_⟩
  have hA : A = some ⟨(ρ id).1, q * sz, none⟩ := by rcases h4 with h | h; (· exact h); (· omega)
  have hc : (ρ id).2 ≠ 0 := by omega
  obtain ⟨cs, e, g1, g2, g3, g4, g5, g6, g7⟩ := hs.mem.obj id ob k2 hc
  refine ⟨_, _, hA, fun i j hi hj => ?_⟩
  obtain ⟨u, hu, hr⟩ := g7 (q + i) j (by omega) (by rw [k3]; exact hj)
  rw [k5 i j hi hj] at hr
  rw [k3] at hu
  refine ⟨u, ?_, hr⟩
  rw [show q * sz + (i * sz + j) = (q + i) * sz + j by rw [Nat.add_mul]; omega]
  simp [World.cell?, g1, hu]
end
end Go.Proofs.Ytonfeiloekofdaa

namespace Go.Proofs.Ytonfeiloekofdaa
open Go.ChangeShapes Go.WideShapes Go.ChangeAt Go.RowKit Go.BigFrame Go.Deep
set_option linter.unusedVariables false
set_option linter.unusedSimpArgs false
section
variable {P : Program} {N : Nat} {w0 : Start} {σ : Sig} {ops : Array Oper} {rest : List Oper} {o : Oper} {Q : Sig → Prop}
end
end Go.Proofs.Ytonfeiloekofdaa

namespace Go.Proofs.Ytonfeiloekofdaa
open Go.ChangeShapes Go.WideShapes Go.ChangeAt Go.RowKit Go.BigFrame Go.Deep
set_option linter.unusedVariables false
set_option linter.unusedSimpArgs false
section
variable {P : Program} {N : Nat} {w0 : Start} {σ : Sig} {ops : Array Oper} {rest : List Oper} {o : Oper} {Q : Sig → Prop}
end
end Go.Proofs.Ytonfeiloekofdaa

namespace Go.Proofs.Ytonfeiloekofdaa
open Go.ChangeShapes Go.WideShapes Go.ChangeAt Go.RowKit Go.BigFrame Go.Deep
set_option linter.unusedVariables false
set_option linter.unusedSimpArgs false
section
variable {P : Program} {N : Nat} {w0 : Start} {σ : Sig} {ops : Array Oper} {rest : List Oper} {o : Oper} {Q : Sig → Prop}
end
end Go.Proofs.Ytonfeiloekofdaa
