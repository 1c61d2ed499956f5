/-
  A calculus for walks, part 22: make in a drawn region, structs built, rows appended to, loops whose objects are renamed.
-/
import Derived.Test.YtmfkmifkkplidaaVy
import Derived.Deep.AppendSrc
import Derived.Laws.AppendOwn
import Derived.Lib.SliceRun
namespace Go.Proofs.Ytmfkmifkkplidaa
open Go.ChangeShapes Go.WideShapes Go.ChangeAt Go.RowKit Go.BigFrame Go.Deep
set_option linter.unusedVariables false

set_option linter.unusedSimpArgs false
section
variable {P : Program} {N : Nat} {w0 : Start} {σ : Sig} {ops : Array Oper} {rest : List Oper} {o : Oper} {Q : Sig → Prop}
theorem OpStepC.make {t id n by_ : Nat} {m c : Int} {k k' : IntKind} {x y : Operand} {z : Value} {l : List AV} (ho : o.op = .makeSlice t x y) (hz : elemZ P t = some (some z, l.length, by_)) (hl : ∀ ρ w S, RL ρ w S l z.cells.toList)
    (hx : Kn σ x (.one (.int k m))) (hy : Kn σ y (.one (.int k' c))) (hm : m = (n : Int)) (hc : c = (n : Int)) (hn : by_ * n ≤ 281474976710656) (h63 : n ≤ 9223372036854775807) (hsz : 0 < l.length)
    (hf : Fr id σ) (hno : l.all AV.scl = true) (hg : o.guard = none) : OpStepC P ops o σ (.one (.own id l.length n)) (some (id, .arr l.length n fun _ j => l.getD j (.con undef))) := by
  subst hm hc
  constructor
  intro N w0 ρ S a w K Q' hs hK
  rw [if_pos (by simp [Region.wanted, hg])]
  obtain ⟨e, i, hu, hi, hz0, hz1, hz2⟩ := elemZ_spec hz
  have hzl := hl ρ w S
  have hzlen : z.cells.size = l.length := by have := hzl.len; simpa using this
  have hb : Below w.heap.size w (w.alloc (.cells (madeCells z.cells (n * i.size)) e)) := (Below.refl _ _).alloc (Nat.le_refl _) _
  obtain ⟨ρ', e1, e2, e3, hs'⟩ := hs.newA hf (o := .arr l.length n fun _ j => l.getD j (.con undef)) (cs := madeCells z.cells (n * i.size)) (e := e) (cap := n) rfl (by rw [size_madeCells, hz1]; rfl) (Nat.le_refl _) (by unfold maxLen; omega)
    (fun i' j hi' hj => by
      have hj' : j < l.length := hj
      have hi'' : i' < n := hi'
      obtain ⟨u, hu', hr⟩ := hzl.getD hj'
      refine ⟨u, ?_, hr⟩
      show (madeCells z.cells (n * i.size))[i' * l.length + j]? = some u
      have hlt : i' * l.length + j < n * i.size := by
        rw [hz1]
        exact cell_lt hi'' hj'
      have hmod : (i' * l.length + j) % z.cells.size = j := by rw [hzlen, Nat.mul_comm, Nat.mul_add_mod, Nat.mod_eq_of_lt hj']
      have hjz : j < z.cells.size := by rw [hzlen]; exact hj'
      have : z.cells[j]? = some u := by simpa using hu'
      rw [Array.getElem?_eq_getElem hjz] at this
      simp only [madeCells, Array.getElem?_map, Array.getElem?_range, hlt, if_true, Option.map_some, hmod]
      rw [show z.cells[j]! = z.cells[j] from getElem!_pos z.cells j hjz]
      exact this)
    (fun i' j => by
      show (l.getD j (.con undef)).no id = true
      rw [List.getD_eq_getElem?_getD]
      cases hl : l[j]? with
      | none => rfl
      | some x => exact scl_no (List.all_eq_true.1 hno x (List.mem_of_getElem? hl)) id)
  have h1 : a.eval x = .int k (n : Int) := hx.sound hs
  have h2 : a.eval y = .int k' (n : Int) := hy.sound hs
  have hmk := run_make_rowN (P := P) t e i z hu hi hz0 k k' n n (Nat.le_refl _) (by rw [hz2]; exact hn) h63 w
  have hrun : (execOp a.eval o).run P w = .ok (.value (.slice (some ⟨w.heap.size, 0, none⟩) n n)) (w.alloc (.cells (madeCells z.cells (n * i.size)) e)) := by
    generalize a.eval = ev at h1 h2
    simp only [execOp, ho, h1, h2, Sem.run_bind, hmk]
    simp [go_sem]
  unfold Oper.wp
  rw [hrun]
  have hone : ∀ {q : Nat × AObj} {o}, some (id, o) = some q → q.1 = id := fun h => by cases h; rfl
  refine hK _ ρ' S _ (hs.mem.same hb) hb (fun b h => .inl h) e2 (fun k hk => e3 k fun e => hk _ rfl e.symm) (fun p hp _ => ?_) (fun p n' X i' b hp hX => ?_) hs' ?_
  · rw [hone hp, e1]; exact Nat.le_refl _
  · cases hp; cases hX
  · show ∃ A, Value.slice _ _ _ = .slice A n (ρ' id).2 ∧ n ≤ (ρ' id).2 ∧ (ρ' id).2 ≤ maxLen ∧ (A = some ⟨(ρ' id).1, 0, none⟩ ∨ (A = none ∧ (ρ' id).2 = 0))
    rw [e1]
    exact ⟨_, rfl, Nat.le_refl _, by unfold maxLen; omega, .inl rfl⟩
theorem OpStepC.alloc {t id : Nat} {z : Value} {l : List AV} (ho : o.op = .alloc t) (hz : (P.info? t).bind (·.zero) = some z) (hl : ∀ ρ w S, RL ρ w S l z.cells.toList) (hf : Fr id σ) (hn : l.all AV.scl = true) (hg : o.guard = none) : OpStepC P ops o σ (.one (.ptr id l.length 0 0)) (some (id, .cells l)) := by
  constructor
  intro N w0 ρ S a w K Q' hs hK
  rw [if_pos (by simp [Region.wanted, hg])]
  have hzl := hl ρ w S
  have hlen : z.cells.size = l.length := by have := hzl.len; simpa using this
  have hb : Below w.heap.size w (w.alloc (.cells z.cells t)) := (Below.refl _ _).alloc (Nat.le_refl _) _
  obtain ⟨ρ', e1, e2, e3, hs'⟩ := hs.newA hf (o := .cells l) (cs := z.cells) (e := t) (cap := 1) rfl (by simpa [AObj.sz] using hlen) (Nat.le_refl _) (by unfold maxLen; omega) (fun i j hi hj => by
    have hi0 : i = 0 := by have : i < 1 := hi; omega
    subst hi0
    have hj' : j < l.length := hj
    obtain ⟨u, hu, hr⟩ := hzl.get (j := j) (x := l[j]) (List.getElem?_eq_getElem hj')
    refine ⟨u, by simpa using hu, ?_⟩
    show R ρ w S (l.getD j (.con undef)) u
    rw [List.getD_eq_getElem?_getD, List.getElem?_eq_getElem hj']
    exact hr) (by
    show l.all (AV.no id) = true
    rw [List.all_eq_true] at hn ⊢
    exact fun x hx => scl_no (hn x hx) id)
  have hrun : (execOp a.eval o).run P w = .ok (.value (.pointer (some ⟨w.heap.size, 0, none⟩))) (w.alloc (.cells z.cells t)) := by
    generalize a.eval = ev
    cases hi : P.info? t with
    | none => rw [hi] at hz; cases hz
    | some inf =>
      rw [hi] at hz
      have hz' : inf.zero = some z := hz
      simp [execOp, ho, Instr.alloc, newVar, newRow, newObj, go_sem, zeroValue, typeInfo, hi, hz']
      rfl
  unfold Oper.wp
  rw [hrun]
  have hone : ∀ {q : Nat × AObj} {o}, some (id, o) = some q → q.1 = id := fun h => by cases h; rfl
  refine hK _ ρ' S _ (hs.mem.same hb) hb (fun b h => .inl h) e2 (fun k hk => e3 k fun e => hk _ rfl e.symm) (fun p hp _ => ?_) (fun p n' X i' b hp hX => ?_) hs' ?_
  · rw [hone hp, e1]; exact Nat.le_refl _
  · cases hp; cases hX
  · show Value.pointer _ = .pointer (some ⟨(ρ' id).1, 0 * _ + 0, none⟩)
    rw [e1]; simp
/-! Structs built of parts. -/
def placesOf (P : Program) (t : TypeId) : Option (List (Nat × Nat)) :=
  match P.underlying t with
  | some (.struct fs) => fs.toList.mapM fun f => (P.info? f.type).map fun i => (f.offset, i.size)
  | _ => none
theorem RL.set {ρ : Rho} {w : World} {S : Nat → Prop} : ∀ {l : List AV} {us : List Value} {j : Nat} {x : AV} {u : Value}, RL ρ w S l us → R ρ w S x u → RL ρ w S (l.set j x) (us.set j u)
  | [], _, _, _, _, h, _ => by rw [show _ = [] from h]; rfl
  | y :: l, _, 0, _, _, ⟨v, vs, e, h1, h2⟩, hx => by subst e; exact ⟨_, _, rfl, hx, h2⟩
  | y :: l, _, j + 1, _, _, ⟨v, vs, e, h1, h2⟩, hx => by subst e; exact ⟨_, _, rfl, h1, RL.set h2 hx⟩
def setP (pl : List (Nat × Nat)) : List AV → List (Nat × Operand) → List AV → List AV
  | l, (i, _) :: xs, y :: ys => setP pl (l.set ((pl.getD i (0, 0)).1) y) xs ys
  | l, _, _ => l
def KnP (σ : Sig) (pl : List (Nat × Nat)) (n : Nat) : List (Nat × Operand) → List AV → Prop
  | [], [] => True
  | (i, x) :: xs, y :: ys => Kn σ x (.one y) ∧ y.Cell ∧ (match pl[i]? with | some (off, 1) => Nat.blt off n | _ => false) = true ∧ KnP σ pl n xs ys
  | _, _ => False
theorem mapM_opt_run {w : World} : ∀ {fs : List Field} {ps : List (Nat × Nat)}, (fs.mapM fun f => (P.info? f.type).map fun i => (f.offset, i.size)) = some ps → (fs.mapM (fun f => do pure (f.offset, ← sizeOf f.type) : Field → Sem (Nat × Nat))).run P w = .ok ps w
  | [], ps, h => by simp at h; subst h; simp [go_sem]
  | f :: fs, ps, h => by
    simp only [List.mapM_cons, Option.bind_eq_bind, Option.bind_eq_some_iff, Option.pure_def, Option.some.injEq] at h
    obtain ⟨p, hp, qs, hq, rfl⟩ := h
    obtain ⟨i, hi, rfl⟩ := Option.map_eq_some_iff.1 hp
    simp only [List.mapM_cons, Sem.run_bind, run_sizeOf' hi, Result.andThen_ok, Sem.run_pure, mapM_opt_run hq]
theorem fill_run {N : Nat} {w0 : Start} {ρ : Rho} {S : Nat → Prop} {a : Act} {w : World} (hs : St N w0 ρ S σ a w) {pl : List (Nat × Nat)} {n : Nat} : ∀ {xs : List (Nat × Operand)} {ys l : List AV} {cells : Array Value}, KnP σ pl n xs ys → RL ρ w S l cells.toList → cells.size = n →
    ∃ cells', Instr.fill (pl.toArray[·]?) cells (xs.map fun p => (p.1, a.eval p.2)) = some cells' ∧ RL ρ w S (setP pl l xs ys) cells'.toList
  | [], [], l, cells, _, h, _ => ⟨cells, rfl, h⟩
  | (i, x) :: xs, y :: ys, l, cells, ⟨h1, h2, h3, h4⟩, h, hn => by
    have hr : R ρ w S y (a.eval x) := h1.sound hs
    obtain ⟨c1, _, _⟩ := h2.cells hr
    cases hp : pl[i]? with
    | none => rw [hp] at h3; cases h3
    | some p =>
      obtain ⟨off, s⟩ := p
      rw [hp] at h3
      have hs1 : s = 1 ∧ off < n := by
        match s, h3 with
        | 1, h3 => exact ⟨rfl, by simpa [Nat.blt_eq] using h3⟩
        | 0, h3 => cases h3
        | _ + 2, h3 => cases h3
      obtain ⟨rfl, hoff⟩ := hs1
      have hg : pl.getD i (0, 0) = (off, 1) := by rw [List.getD_eq_getElem?_getD, hp]; rfl
      obtain ⟨cells', k1, k2⟩ := fill_run hs (cells := cells.setIfInBounds off (a.eval x)) (l := l.set off y) h4 (by rw [Array.toList_setIfInBounds]; exact RL.set h hr) (by rw [Array.size_setIfInBounds]; exact hn)
      refine ⟨cells', ?_, ?_⟩
      · rw [List.map_cons, Instr.fill]
        simp only [List.getElem?_toArray, hp, c1]
        rw [if_neg (by simp; omega)]
        simpa using k1
      · rw [setP, hg]; exact k2
  | [], _ :: _, _, _, h, _, _ => h.elim
  | _ :: _, [], _, _, h, _, _ => h.elim
theorem PureOp.build {t : TypeId} {xs : List (Nat × Operand)} {ys l l' : List AV} {pl : List (Nat × Nat)} {z : Value} (ho : o.op = .build t xs.toArray) (hpl : placesOf P t = some pl) (hz : (P.info? t).bind (·.zero) = some z) (hl : ∀ ρ w S, RL ρ w S l z.cells.toList) (hk : KnP σ pl l.length xs ys) (hl' : setP pl l xs ys = l') : PureOp P o σ (.agg l') := by
  subst hl'
  refine PureOp.val fun N w0 ρ S a w hs => ?_
  have hzl := hl ρ w S
  have hzlen : z.cells.size = l.length := by have := hzl.len; simpa using this
  obtain ⟨cells', k1, k2⟩ := fill_run hs hk hzl hzlen
  refine ⟨.agg cells', ⟨cells', rfl, k2⟩, fun w' _ => ?_⟩
  unfold placesOf at hpl
  split at hpl
  · rename_i fs hu
    have hm := mapM_opt_run (P := P) (w := w') hpl
    cases hi : P.info? t with
    | none => rw [hi] at hz; cases hz
    | some inf =>
      rw [hi] at hz
      have hz' : inf.zero = some z := hz
      obtain ⟨fl⟩ := fs
      generalize a.eval = ev at k1
      have hmA : (fl.toArray.mapM (fun f => do pure (f.offset, ← sizeOf f.type) : Field → Sem (Nat × Nat))).run P w' = .ok pl.toArray w' := by
        rw [List.mapM_toArray, map_eq_pure_bind, Sem.run_bind, hm]; rfl
      have hzv : (zeroValue t).run P w' = .ok z w' := by simp [zeroValue, typeInfo, hi, hz', go_sem]
      have hu' : P.underlying t = some (.struct fl.toArray) := hu
      simp only [execOp, ho, Instr.build, Sem.run_bind, hzv, Result.andThen_ok, run_underlying hu', hmA, List.map_toArray, k1]
      simp [go_sem]
  · cases hpl
/-! Slices compared with nil, parts of rows. -/
theorem ARun.nilEq {t t' : TypeId} {x : Operand} {d sz n : Nat} {f : Nat → Nat → AV} (ho : o.op = .binOp .eql t x (.const (.slice none 0 0)) t') (hx : Kn σ x (.one (.lst sz n f))) (ht : sliceB P t = true) (hg : o.guard = none) (hd : o.dst = some d) (hN : d < N)
    (h : ∀ b : Bool, (b = true → n = 0) → ARun P N w0 ops Q rest (σ.put d (.one (.bool b)))) : ARun P N w0 ops Q (o :: rest) σ := by
  intro ρ S a w Q' hQ hs
  refine wpList_plain hg fun K hK => ?_
  obtain ⟨A, c, e1, h1, h2, h3, _⟩ := hx.sound hs
  obtain ⟨e, he⟩ := sliceB_spec ht
  have hrun : (execOp a.eval o).run P w = .ok (.value (.bool A.isNone)) w := by
    generalize hev : a.eval = ev at e1
    have hc : ev (.const (.slice none 0 0)) = .slice none 0 0 := by rw [← hev]; rfl
    have := Lib.run_eql_slice_nil (P := P) w t e A n c 0 0 he
    simp only [execOp, ho, e1, hc, Sem.run_bind, eqGuard]
    simp [go_sem]
    rw [this]
    rfl
  unfold Oper.wp
  rw [hrun]
  simp only [Oper.upon, hd]
  refine hK _ _ (h A.isNone (fun hb => ?_) ρ S _ _ Q' hQ (hs.put hN rfl))
  have := h3 (by cases A <;> first | rfl | cases hb)
  omega
end
end Go.Proofs.Ytmfkmifkkplidaa
