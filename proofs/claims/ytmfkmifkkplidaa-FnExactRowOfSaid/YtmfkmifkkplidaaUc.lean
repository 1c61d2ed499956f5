/-
  A calculus for walks, part 25: rows opened and closed, parts of rows, the rest of a row cleared.
-/
import Derived.Test.YtmfkmifkkplidaaUb
import Derived.Deep.AppendSrc
namespace Go.Proofs.Ytmfkmifkkplidaa
open Go.ChangeShapes Go.WideShapes Go.ChangeAt Go.RowKit Go.BigFrame Go.Deep
set_option linter.unusedVariables false

set_option linter.unusedSimpArgs false
section
variable {P : Program} {N : Nat} {w0 : Start} {σ : Sig} {ops : Array Oper} {rest : List Oper} {o : Oper} {Q : Sig → Prop}
theorem ARun.slice0 {t d id sz by_ : Nat} {z : Value} (ho : o.op = .buildSlice t 0 #[]) (hz : elemZ P t = some (some z, sz, by_)) (f : Nat → Nat → AV) (hno : ∀ i j, (f i j).no id = true)
    (hf : Fr id σ) (hg : o.guard = none) (hd : o.dst = some d) (hN : d < N) (h : ARun P N w0 ops Q rest ((σ.set id (.arr sz 0 f)).put d (.one (.own id sz 0)))) : ARun P N w0 ops Q (o :: rest) σ := by
  intro ρ S a w Q' hQ hs
  refine wpList_plain hg fun K hK => ?_
  obtain ⟨e, i, hu, hi, hz0, hz1, hz2⟩ := elemZ_spec hz
  subst hz1
  have hrun : (execOp a.eval o).run P w = .ok (.value (.slice (some ⟨w.heap.size, 0, none⟩) 0 0)) (w.alloc (.cells #[] e)) := by
    generalize a.eval = ev
    simp [execOp, ho, Instr.buildSlice, run_underlying hu, sizeOf, typeInfo, hi, Instr.fill, newRow, go_sem]
  obtain ⟨ρ', e1, hs'⟩ := hs.new hf (o := .arr i.size 0 f) (cs := #[]) (e := e) (cap := 0) rfl (by simp) (Nat.le_refl _) (Nat.zero_le _) (fun r j hr => absurd hr (Nat.not_lt_zero _)) hno
  unfold Oper.wp
  rw [hrun]
  simp only [Oper.upon, hd]
  refine hK _ _ (h ρ' S _ _ Q' hQ (hs'.put hN ?_))
  show ∃ A, Value.slice _ _ _ = .slice A 0 (ρ' id).2 ∧ 0 ≤ (ρ' id).2 ∧ (ρ' id).2 ≤ maxLen ∧ (A = some ⟨(ρ' id).1, 0, none⟩ ∨ (A = none ∧ (ρ' id).2 = 0))
  rw [e1]
  exact ⟨_, rfl, Nat.le_refl _, Nat.zero_le _, .inl rfl⟩
/-- A tree of a family becomes a row of the walk's own. -/
theorem St.openRow {ρ : Rho} {S : Nat → Prop} {a : Act} {w : World} (hs : St N w0 ρ S σ a w) {t K q m sz n id : Nat} {X : Nat → AV} {f : Nat → Nat → AV} (ht : σ.env.lookup t = some (.one (.tre K q))) (hK : σ.heap.lookup K = some (.trees m X)) (hq : q < m) (hX : X q = .lst sz n f)
    (hsc : ∀ i j, i < n → j < sz → (f i j).scl = true) (hno : ∀ i j, (f i j).no id = true) (hf : Fr id σ) : ∃ ρ', St N w0 ρ' S ⟨(t, .one (.own id sz n)) :: σ.env, (id, .arr sz n f) :: σ.heap.filter fun p => p.1 != K⟩ a w := by
  obtain ⟨ev, _⟩ := hs.env _ _ ht
  obtain ⟨t1, t2⟩ := hs.mem.tree K m X hK q hq
  rw [hX] at t1
  rw [← ev] at t1
  unfold Tr at t1
  obtain ⟨A, c, e, hnc, hcm, hcase⟩ := t1
  obtain ⟨b, cs, hA, hblk⟩ : ∃ (b : Nat) (cs : Array Value), (A = some ⟨b, 0, none⟩ ∨ (A = none ∧ c = 0)) ∧ (c ≠ 0 → ρ.tb K q b ∧ (∃ e, w.heap[b]? = some (.cells cs e (0, 0))) ∧ cs.size = c * sz ∧ ∀ i j, i < n → j < sz → ∃ u, cs[i * sz + j]? = some u ∧ R ρ w S (f i j) u) := by
    rcases hcase with ⟨rfl, hA⟩ | ⟨b, cs, e', g1, g2, g3, g4, F, g5, g6⟩
    · rcases hA with hA | ⟨b, hA⟩
      · exact ⟨0, #[], .inr ⟨hA, rfl⟩, fun h => absurd rfl h⟩
      · exact ⟨b, #[], .inl hA, fun h => absurd rfl h⟩
    · refine ⟨b, cs, .inl g1, fun _ => ⟨g2, ⟨e', g3⟩, g4, fun i j hi hj => ?_⟩⟩
      obtain ⟨_, u, hu, hT⟩ := g5 i j hi hj
      refine ⟨u, hu, ?_⟩
      have hl := hsc i j hi hj
      generalize f i j = y at hT hl
      cases y <;> first | exact hT | cases hl
  refine ⟨⟨fun k => if k = id then (b, c) else ρ k, ρ.base, ρ.tv, ρ.tb, ρ.tn⟩, ?_⟩
  have hρ : ∀ k, k ≠ id → (if k = id then (b, c) else ρ k) = ρ k := fun k hk => if_neg hk
  have hρA : ∀ k, k ≠ id → Rho.At ρ ⟨fun k => if k = id then (b, c) else ρ k, ρ.base, ρ.tv, ρ.tb, ρ.tn⟩ k := fun k hk => ⟨hρ k hk, rfl, rfl, rfl⟩
  have hkeep : ∀ {x : AV} {u : Value}, x.no id = true → R ρ w S x u → R ⟨fun k => if k = id then (b, c) else ρ k, ρ.base, ρ.tv, ρ.tb, ρ.tn⟩ w S x u := fun {x u} hx hr => hr.keep (ρ := ρ) (Same.refl _ _) ⟨rfl, fun q => by
    by_cases hq : q = id
    · subst hq; exact .inr hx
    · exact .inl (hρA q hq)⟩
  have hlow : Nat.blt id 1000000 = true := by have := hf.small; simpa [Nat.blt_eq] using this
  refine ⟨hs.size, hs.defers, ⟨hs.below.old, hs.below.same, fun k hk => (hs.below.ids k hk).trans (hρA k (fun e => by have := hf.small; omega))⟩, ⟨hs.mem.base, hs.mem.low, hs.mem.lt, ?_, ?_, ?_, ?_⟩, fun t' s ht' => ?_⟩
  · intro k p hp
    rcases lookup_put hp with ⟨rfl, rfl⟩ | ⟨hne, hp⟩
    · simpa [AObj.n] using hnc
    · simp only [hρ k hne]; exact hs.mem.cap k p (filter_lookup hp).2
  · intro k p hp hc
    rcases lookup_put hp with ⟨rfl, rfl⟩ | ⟨hne, hp⟩
    · simp only [if_true] at hc ⊢
      obtain ⟨g1, ⟨e', g2⟩, g3, g4⟩ := hblk hc
      obtain ⟨q1, q2, q3, _⟩ := t2 b g1
      refine ⟨cs, e', g2, g3, hnc, hcm, q1, q3, fun i j hi hj => ?_⟩
      obtain ⟨u, hu, hr⟩ := g4 i j hi hj
      exact ⟨u, hu, hkeep (hno i j) hr⟩
    · obtain ⟨f1, f2⟩ := filter_lookup hp
      obtain ⟨_, hno'⟩ := hf.heap.get f2
      simp only [hρ k hne] at hc ⊢
      obtain ⟨cs2, e2, g1, g2, g3, g4, g5, g6, g7⟩ := hs.mem.obj k p f2 hc
      refine ⟨cs2, e2, g1, g2, g3, g4, g5, g6, fun i j hi hj => ?_⟩
      obtain ⟨u, hu, hr⟩ := g7 i j hi hj
      exact ⟨u, hu, hkeep (hno'.at_ i j) hr⟩
  · intro k k' p p' hp hp' hne hc hc'
    rcases lookup_put hp with ⟨rfl, rfl⟩ | ⟨q1, hp2⟩ <;> rcases lookup_put hp' with ⟨rfl, rfl⟩ | ⟨q2, hp2'⟩
    · exact absurd rfl hne
    · simp only [if_true] at hc
      simp only [hρ k' q2] at hc'
      simp only [if_true, hρ k' q2]
      obtain ⟨g1, _⟩ := hblk hc
      exact fun e => (t2 b g1).2.2.2.1 k' p' (filter_lookup hp2').2 hc' e.symm
    · simp only [hρ k q1] at hc
      simp only [if_true] at hc'
      simp only [if_true, hρ k q1]
      obtain ⟨g1, _⟩ := hblk hc'
      exact (t2 b g1).2.2.2.1 k p (filter_lookup hp2).2 hc
    · simp only [hρ k q1] at hc
      simp only [hρ k' q2] at hc'
      simp only [hρ k q1, hρ k' q2]
      exact hs.mem.inj k k' p p' (filter_lookup hp2).2 (filter_lookup hp2').2 hne hc hc'
  · have hmn : MemOk w0.base ρ S (σ.heap.filter fun p => p.1 != K) w := hs.mem.le' fun k p hp => HLe.refl (filter_lookup hp).2
    refine hmn.treeOf (Nat.le_refl _) (fun k n' Y hY => ?_) (fun k n' Y i b' hY hi hb' => ⟨rfl, (((hmn.tree k n' Y hY i hi).2) b' hb').2.1, (((hmn.tree k n' Y hY i hi).2) b' hb').2.2.1⟩) (fun k p hp hc => ?_)
    · rcases lookup_put hY with ⟨rfl, e⟩ | ⟨hne, hY⟩
      · cases e
      · exact ⟨Y, hY, fun _ _ => rfl, rfl, rfl, rfl⟩
    · rcases lookup_put hp with ⟨rfl, rfl⟩ | ⟨hne, hp⟩
      · refine .inr fun k2 n' Y i hY hi hb' => ?_
        simp only [if_true] at hc hb'
        obtain ⟨g1, _⟩ := hblk hc
        obtain ⟨f1, f2⟩ := filter_lookup hY
        exact (t2 b g1).2.2.2.2 k2 n' Y i f2 hi (fun e => f1 e.1) hb'
      · exact .inl ⟨p, hp, hρ k hne⟩
  · rcases lookup_put ht' with ⟨rfl, rfl⟩ | ⟨_, ht2⟩
    · show ∃ B, _ = Value.slice B n (if id = id then (b, c) else ρ id).2 ∧ n ≤ (if id = id then (b, c) else ρ id).2 ∧ (if id = id then (b, c) else ρ id).2 ≤ maxLen ∧ (B = some ⟨(if id = id then (b, c) else ρ id).1, 0, none⟩ ∨ (B = none ∧ (if id = id then (b, c) else ρ id).2 = 0))
      simp only [if_true]
      exact ⟨A, e, hnc, hcm, hA⟩
    · exact (hs.env t' s ht2).keep (ρ := ρ) (Same.refl _ _) ⟨rfl, fun q => by
        by_cases hq : q = id
        · subst hq; exact .inr (List.all_eq_true.1 hf.env _ (lookup_mem ht2))
        · exact .inl (hρA q hq)⟩
theorem ARun.openRow (t K q m sz n id : Nat) (X : Nat → AV) (f : Nat → Nat → AV) (ht : σ.env.lookup t = some (.one (.tre K q))) (hK : σ.heap.lookup K = some (.trees m X)) (hq : q < m) (hX : X q = .lst sz n f)
    (hsc : ∀ i j, i < n → j < sz → (f i j).scl = true) (hno : ∀ i j, (f i j).no id = true) (hf : Fr id σ) (h : ARun P N w0 ops Q rest ⟨(t, .one (.own id sz n)) :: σ.env, (id, .arr sz n f) :: σ.heap.filter fun p => p.1 != K⟩) : ARun P N w0 ops Q rest σ := by
  intro ρ S a w Q' hQ hs
  obtain ⟨ρ', hs'⟩ := hs.openRow ht hK hq hX hsc hno hf
  exact h ρ' S a w Q' hQ hs'
/-- The first k of a row of the walk's own. -/
theorem PureOp.takeOwn {t : TypeId} {x y : Operand} {id sz n k : Nat} {m : Int} {kd : IntKind} (ho : o.op = .slice t x none (some y) none) (hx : Kn σ x (.one (.own id sz n))) (hy : Kn σ y (.one (.int kd m))) (hm : m = (k : Int)) (hk : k ≤ n) (ht : elemB P t sz = true) : PureOp P o σ (.one (.own id sz k)) := by
  subst hm
  refine PureOp.val fun N w0 ρ S ac w hs => ?_
  obtain ⟨A, e1, h1, h2, h3⟩ := hx.sound hs
  have e2 : ac.eval y = .int kd (k : Int) := hy.sound hs
  obtain ⟨e, i, hu, hi, hsz⟩ := elemB_spec ht
  refine ⟨.slice A k (ρ id).2, ⟨A, rfl, by omega, h2, h3⟩, fun w' _ => ?_⟩
  generalize ac.eval = ev at e1 e2 ⊢
  have hle : (0 : Int) ≤ (k : Int) ∧ (k : Int) ≤ ((ρ id).2 : Int) := by omega
  simp only [execOp, ho, e1, e2, Option.map_some, Option.map_none]
  have hr : (Instr.sliceAt t (.slice A n (ρ id).2) none (some (.int kd (k : Int))) none).run P w' = .ok (.slice A k (ρ id).2) w' := by
    have hA : (if (ρ id).2 = 0 then A else A.map (·.add (0 * i.size))) = A := by
      rcases h3 with rfl | ⟨rfl, h0⟩
      · simp [Addr.add]
      · simp
    have hk2 : (k : Int) ≤ ((ρ id).2 : Int) := hle.2
    simp only [Nat.zero_mul] at hA
    simp [Instr.sliceAt, Instr.slice, run_underlying hu, Instr.sliceBounds, Instr.sliceBound, asIntOf, hk2, run_sizeOf' hi, go_sem]
    try exact hA
    try (intro hlt; omega)
  rw [Sem.run_bind, hr]
  rfl
end
section
variable {P : Program} {N : Nat} {w0 : Start} {σ : Sig} {ops : Array Oper} {rest : List Oper} {Q : Sig → Prop}
/-- What lies behind the first k of a row turns: the first k stand. -/
theorem St.setTail {ρ : Rho} {S : Nat → Prop} {a : Act} {w : World} (hs : St N w0 ρ S σ a w) {id sz n k : Nat} {f : Nat → Nat → AV} {vs : List Value} (hob : σ.heap.lookup id = some (.arr sz n f)) (hk : k ≤ n) (hc : (ρ id).2 ≠ 0) :
    St N w0 ρ S ⟨σ.env, (id, .arr sz k f) :: σ.heap⟩ a (w.setCells (ρ id).1 (k * sz) vs) := by
  obtain ⟨cs, e, h1, h2, h3, h4, h5, h6, h7⟩ := hs.mem.obj id _ hob hc
  obtain ⟨hb1, hb2⟩ := below_setCells h5 (vs := vs) (o := k * sz) (w := w)
  obtain ⟨cs', g1, g2, g3, g4⟩ := heap_setCells_at (vs := vs) (o := k * sz) h1
  have hother : ∀ q, q ≠ (ρ id).1 → (w.setCells (ρ id).1 (k * sz) vs).heap[q]? = w.heap[q]? := fun q hq => heap_setCells_other hq
  have hsame : Same S w S (w.setCells (ρ id).1 (k * sz) vs) := ⟨fun _ h => h, fun q hq => hother q fun e => h6 (e ▸ hq)⟩
  have conv : ∀ {q p}, ((id, AObj.arr sz k f) :: σ.heap).lookup q = some p → ∃ p', σ.heap.lookup q = some p' := fun {q p} hp => by
    rcases lookup_put hp with ⟨rfl, rfl⟩ | ⟨_, hp⟩
    · exact ⟨_, hob⟩
    · exact ⟨p, hp⟩
  refine ⟨hs.size, hs.defers, hs.below.step hb1 hsame, ⟨hs.mem.base, by rw [hb2]; exact hs.mem.low, fun q hq => by rw [hb2]; exact hs.mem.lt q hq, ?_, ?_, ?_, ?_⟩, fun t s ht => (hs.env t s ht).keep hsame (Rn.refl _ _)⟩
  · intro q p hp
    rcases lookup_put hp with ⟨rfl, rfl⟩ | ⟨_, hp⟩
    · exact Nat.le_trans hk h3
    · exact hs.mem.cap q p hp
  · intro q p hp hc'
    rcases lookup_put hp with ⟨rfl, rfl⟩ | ⟨hne, hp⟩
    · refine ⟨cs', e, g1, by rw [g2]; exact h2, Nat.le_trans hk h3, h4, h5, h6, fun i j hi hj => ?_⟩
      have hi : i < k := hi
      have hj : j < sz := hj
      obtain ⟨u, hu, hr⟩ := h7 i j (show i < n by omega) hj
      exact ⟨u, by show cs'[i * sz + j]? = some u; rw [g3 _ (cell_lt hi hj)]; exact hu, hr.keep hsame (Rn.refl _ _)⟩
    · obtain ⟨cs2, e2, q1, q2, q3, q4, q5, q6, q7⟩ := hs.mem.obj q p hp hc'
      refine ⟨cs2, e2, by rw [hother _ (hs.mem.inj q id p _ hp hob hne hc' hc)]; exact q1, q2, q3, q4, q5, q6, fun i j hi hj => ?_⟩
      obtain ⟨u, hu, hr⟩ := q7 i j hi hj
      exact ⟨u, hu, hr.keep hsame (Rn.refl _ _)⟩
  · intro q q' p p' hp hp' hne hc1 hc2
    obtain ⟨r, hr⟩ := conv hp
    obtain ⟨r', hr'⟩ := conv hp'
    exact hs.mem.inj q q' r r' hr hr' hne hc1 hc2
  · refine hs.mem.treeOf (Nat.le_refl _) (fun q n' X hX => ?_) (fun q n' X i b hX hi hb => ?_) (fun q p hp _ => ?_)
    · rcases lookup_put hX with ⟨rfl, e⟩ | ⟨_, hX⟩
      · cases e
      · exact ⟨X, hX, fun _ _ => rfl, rfl, rfl, rfl⟩
    · obtain ⟨q1, q2, q3, q4, _⟩ := (hs.mem.tree q n' X hX i hi).2 b hb
      exact ⟨hother b fun e => q4 id _ hob hc e.symm, by rw [hb2]; exact q2, q3⟩
    · obtain ⟨r, hr⟩ := conv hp
      exact .inl ⟨r, hr, rfl⟩
theorem ARun.clearTail {o1 o2 : Oper} {t : TypeId} {x y : Operand} {id sz n k d by_ : Nat} {m : Int} {kd : IntKind} {z : Value} {f : Nat → Nat → AV} (ho1 : o1.op = .slice t x (some y) none none) (ho2 : o2.op = .call { callee := .builtin .clear, args := #[.tmp d], argTypes := #[t] })
    (hx : Kn σ x (.one (.own id sz n))) (hob : σ.heap.lookup id = some (.arr sz n f)) (hy : Kn σ y (.one (.int kd m))) (hm : m = (k : Int)) (hk : k ≤ n) (hz : elemZ P t = some (some z, sz, by_)) (hzc : z.cells.size = sz) (hz1 : z.cells.all Value.oneCell' = true)
    (hg1 : o1.guard = none) (hg2 : o2.guard = none) (hd1 : o1.dst = some d) (hd2 : o2.dst = none) (hN : d < N) (h : ARun P N w0 ops Q rest ⟨σ.env.filter fun p => p.1 != d, (id, .arr sz k f) :: σ.heap⟩) : ARun P N w0 ops Q (o1 :: o2 :: rest) σ := by
  subst hm
  intro ρ S a w Q' hQ hs
  obtain ⟨e, i, hu, hi, hz0, hzs, _⟩ := elemZ_spec hz
  subst hzs
  obtain ⟨A, e1, h1, h2, h3⟩ := hx.sound hs
  have e2 : a.eval y = .int kd (k : Int) := hy.sound hs
  have hle : (0 : Int) ≤ (k : Int) ∧ (k : Int) ≤ (n : Int) := by omega
  refine wpList_plain hg1 fun K1 hK1 => ?_
  have hrun1 : (execOp a.eval o1).run P w = .ok (.value (.slice (if (ρ id).2 = k then A else A.map (·.add (k * i.size))) (n - k) ((ρ id).2 - k))) w := by
    generalize a.eval = ev at e1 e2 ⊢
    simp only [execOp, ho1, e1, e2, Option.map_some, Option.map_none]
    have hr : (Instr.sliceAt t (.slice A n (ρ id).2) (some (.int kd (k : Int))) none none).run P w = .ok (.slice (if (ρ id).2 = k then A else A.map (·.add (k * i.size))) (n - k) ((ρ id).2 - k)) w := by
      have hk2 : (k : Int) ≤ (n : Int) := hle.2
      simp [Instr.sliceAt, Instr.slice, run_underlying hu, Instr.sliceBounds, Instr.sliceBound, asIntOf, hk2, run_sizeOf' hi, go_sem]
      try (intro hlt; omega)
    rw [Sem.run_bind, hr]
    rfl
  unfold Oper.wp
  rw [hrun1]
  simp only [Oper.upon, hd1]
  refine hK1 _ _ (wpList_plain hg2 fun K hK => ?_)
  have hev : ∀ v : Value, (a.put (some d) v).eval (.tmp d) = v := fun v => by
    show (a.put (some d) v).tmps.getD d undef = v
    rw [getD_put (by rw [hs.size]; exact hN), if_pos rfl]
  have henv : ∀ (v : Value) (w' : World) (S' : Nat → Prop), St N w0 ρ S' ⟨σ.env, (id, .arr i.size k f) :: σ.heap⟩ a w' → St N w0 ρ S' ⟨σ.env.filter fun p => p.1 != d, (id, .arr i.size k f) :: σ.heap⟩ (a.put (some d) v) w' := fun v w' S' h' => by
    refine ⟨by simp only [Act.put, Array.size_setIfInBounds]; exact h'.size, h'.defers, h'.below, h'.mem, fun t s ht => ?_⟩
    obtain ⟨f1, f2⟩ := filter_lookup ht
    rw [getD_put (by rw [h'.size]; exact hN), if_neg f1]
    exact h'.env t s f2
  have fin : ∀ (w' : World), (execOp (a.put (some d) (.slice (if (ρ id).2 = k then A else A.map (·.add (k * i.size))) (n - k) ((ρ id).2 - k))).eval o2).run P w = .ok (.value (.tuple #[])) w' → St N w0 ρ S ⟨σ.env, (id, .arr i.size k f) :: σ.heap⟩ a w' → o2.wp P (a.put (some d) (.slice (if (ρ id).2 = k then A else A.map (·.add (k * i.size))) (n - k) ((ρ id).2 - k))) w K Q' := fun w' hr h' => by
    unfold Oper.wp
    rw [hr]
    simp only [Oper.upon, hd2, Act.put]
    exact hK _ _ (h ρ S _ w' Q' hQ (henv _ w' S h'))
  by_cases hnk : n - k = 0
  · obtain rfl : k = n := by omega
    refine fin w ?_ ⟨hs.size, hs.defers, hs.below, hs.mem.le' fun q p hp => ?_, hs.env⟩
    · have hv := hev (.slice (if (ρ id).2 = k then A else A.map (·.add (k * i.size))) (k - k) ((ρ id).2 - k))
      generalize (a.put (some d) (.slice (if (ρ id).2 = k then A else A.map (·.add (k * i.size))) (k - k) ((ρ id).2 - k))).eval = ev at hv ⊢
      simp only [execOp, ho2, resolve, Sem.run_bind, Sem.run_pure, Result.andThen_ok, invoke, builtin, List.map_toArray, List.map_cons, List.map_nil, Array.empty_append, hv, Nat.sub_self]
      simp [Builtin.clear_, run_underlying hu, go_sem]
      split <;> simp_all
    · rcases lookup_put hp with ⟨rfl, rfl⟩ | ⟨_, hp⟩
      · exact HLe.refl hob
      · exact HLe.refl hp
  · have hc : (ρ id).2 ≠ 0 := by omega
    obtain ⟨cs, e', q1, q2, q3, q4, q5, q6, q7⟩ := hs.mem.obj id _ hob hc
    have hA : A = some ⟨(ρ id).1, 0, none⟩ := by rcases h3 with h | ⟨_, h⟩; (· exact h); (· exact absurd h hc)
    subst hA
    have hzl : (Builtin.zeroCells z.cells (n - k)).toList.length = (n - k) * i.size := by simp [Builtin.zeroCells, hzc]
    have hin : ∀ j, j < (Builtin.zeroCells z.cells (n - k)).toList.length → k * i.size + j < cs.size := fun j hj => by
      rw [hzl] at hj
      have q2' : cs.size = (ρ id).2 * i.size := q2
      rw [q2']
      have hmul : n * i.size ≤ (ρ id).2 * i.size := Nat.mul_le_mul_right _ h1
      have : n * i.size = k * i.size + (n - k) * i.size := by rw [← Nat.add_mul]; congr 1; omega
      omega
    have hst := run_storeCells_cells (P := P) (ρ id).1 (k * i.size) (Builtin.zeroCells z.cells (n - k)).toList 0 w (fun j hj => by
      have := hin j hj
      simp [World.cell?, q1, this]) (fun j hj => by simp [World.frozen?, q1]) (fun u hu => by
      simp only [Builtin.zeroCells, Array.toList_map, List.mem_map] at hu
      obtain ⟨q, _, rfl⟩ := hu
      by_cases h0 : z.cells.size = 0
      · exfalso
        rw [hzc] at h0
        rw [h0] at hzl
        simp only [Nat.mul_zero] at hzl
        simp_all
      · have hlt : q % z.cells.size < z.cells.size := Nat.mod_lt _ (by omega)
        rw [getElem!_pos z.cells _ hlt]
        exact Array.all_eq_true_iff_forall_mem.1 hz1 _ (Array.getElem_mem hlt))
    refine fin (w.setCells (ρ id).1 (k * i.size) (Builtin.zeroCells z.cells (n - k)).toList) ?_ (hs.setTail hob hk hc)
    have hv := hev (.slice (if (ρ id).2 = k then some ⟨(ρ id).1, 0, none⟩ else (some ⟨(ρ id).1, 0, none⟩ : Option Addr).map (·.add (k * i.size))) (n - k) ((ρ id).2 - k))
    generalize (a.put (some d) (.slice (if (ρ id).2 = k then some ⟨(ρ id).1, 0, none⟩ else (some ⟨(ρ id).1, 0, none⟩ : Option Addr).map (·.add (k * i.size))) (n - k) ((ρ id).2 - k))).eval = ev at hv ⊢
    rw [if_neg (by omega)] at hv
    have hzv : (zeroValue e).run P w = .ok z w := by simp [zeroValue, typeInfo, hi, hz0, go_sem]
    simp only [execOp, ho2, resolve, Sem.run_bind, Sem.run_pure, Result.andThen_ok, invoke, builtin, List.map_toArray, List.map_cons, List.map_nil, Array.empty_append, hv, Option.map_some, Addr.add_lit]
    obtain ⟨r, hr⟩ : ∃ r, n - k = r + 1 := ⟨n - k - 1, by omega⟩
    rw [hr] at hst ⊢
    simp only [Nat.add_zero, Nat.zero_add] at hst ⊢
    simp [Builtin.clear_, run_underlying hu, hzv, go_sem]
    exact congrArg (fun r : Result Unit => (Result.andThen (Result.andThen r fun _ w' => Result.ok (Value.tuple #[]) w') fun a w' => Result.ok (Next.value a) w')) hst
end
theorem resO {P : Program} {σ : Sig} {t id sz n m : Nat} (h : σ.env.lookup t = some (.one (.own id sz n))) (e : n = m) : ResL P σ [.tmp t] (.one (.own id sz m)) := by subst e; exact .inl ⟨_, rfl, .tmp h⟩
theorem PureOp.loadPtrAggE {P : Program} {σ : Sig} {o : Oper} {t n : Nat} {x : Operand} {id sz i q : Nat} {ob : AObj} {l : List AV} (ho : o.op = .load t x) (h : Kn σ x (.one (.ptr id sz i q))) (hT : aggB P t n = true) (hob : σ.heap.lookup id = some ob) (hsz : ob.sz = sz) (hi : i < ob.n) (hle : q + n ≤ ob.sz) (he : (List.range' q n).map (ob.f i) = l) :
    PureOp P o σ (.agg l) := by subst he; exact PureOp.loadPtrAgg ho h hT hob hsz hi hle
/-! A list of which some are kept, in place. -/
theorem cntP_leK {α : Type} (p : α → Bool) (l : List α) (k : Nat) : cntP p l k ≤ k := by
  unfold cntP
  refine Nat.le_trans (List.length_filter_le ..) ?_
  rw [List.length_take]; omega
def stF {α : Type} (q : α → Bool) (d : α) (l : List α) : Nat → Nat → α
  | 0, a => l.getD a d
  | j + 1, a => if q (l.getD j d) = true ∧ a = cntP q l j then l.getD j d else stF q d l j a
theorem stF_hi {α : Type} {q : α → Bool} {d : α} {l : List α} : ∀ {j a : Nat}, j ≤ a → stF q d l j a = l.getD a d
  | 0, _, _ => rfl
  | j + 1, a, h => by
    have := cntP_leK q l j
    rw [stF, if_neg (fun e => by omega)]
    exact stF_hi (by omega)
theorem stF_lo {α : Type} {q : α → Bool} {d : α} {l : List α} : ∀ {j a : Nat}, j ≤ l.length → a < cntP q l j → stF q d l j a = (l.filter q).getD a d
  | 0, a, _, h => absurd h (by simp [cntP])
  | j + 1, a, hj, h => by
    rw [stF]
    cases hq : q (l.getD j d) with
    | true =>
      obtain ⟨h1, h2⟩ := cntP_yes d (show j < l.length by omega) hq
      by_cases ha : a = cntP q l j
      · rw [if_pos ⟨rfl, ha⟩, ha, h2]
      · rw [if_neg (fun e => ha e.2)]
        exact stF_lo (by omega) (by omega)
    | false =>
      rw [if_neg (fun e => by cases e.1)]
      have h1 := cntP_no d (show j < l.length by omega) hq
      exact stF_lo (by omega) (by omega)
theorem stF_yes {α : Type} {q : α → Bool} {d : α} {l : List α} {k : Nat} (hq : q (l.getD k d) = true) (a : Nat) : stF q d l (k + 1) a = if a = cntP q l k then l.getD k d else stF q d l k a := by
  rw [stF]
  by_cases h : a = cntP q l k
  · rw [if_pos h, if_pos ⟨hq, h⟩]
  · rw [if_neg h, if_neg (fun e => h e.2)]
theorem stF_no {α : Type} {q : α → Bool} {d : α} {l : List α} {k : Nat} (hq : q (l.getD k d) = false) (a : Nat) : stF q d l (k + 1) a = stF q d l k a := by
  rw [stF, if_neg (fun e => by rw [hq] at e; cases e.1)]
theorem cntP_all {α : Type} {q : α → Bool} (d : α) {l : List α} : ∀ {k : Nat}, k ≤ l.length → (∀ j, j < k → q (l.getD j d) = true) → cntP q l k = k ∧ ∀ a, stF q d l k a = l.getD a d
  | 0, _, _ => ⟨by simp [cntP], fun _ => rfl⟩
  | k + 1, hk, h => by
    obtain ⟨h1, h2⟩ := cntP_all d (k := k) (by omega) (fun j hj => h j (by omega))
    have hq := h k (by omega)
    refine ⟨by rw [(cntP_yes d (by omega) hq).1, h1], fun a => ?_⟩
    rw [stF_yes hq, h1]
    by_cases ha : a = k
    · rw [if_pos ha, ha]
    · rw [if_neg ha]; exact h2 a
theorem idxF_some {α : Type} {p : α → Bool} (d : α) {l : List α} (h : ¬ idxF p l = -1) : ∃ i : Nat, idxF p l = (i : Int) ∧ i < l.length ∧ p (l.getD i d) = true ∧ ∀ j : Nat, j < i → p (l.getD j d) = false := by
  unfold idxF at h ⊢
  by_cases ha : l.any p = true
  · rw [if_pos ha] at h ⊢
    have hlt : l.findIdx p < l.length := List.findIdx_lt_length.2 (by simpa [List.any_eq_true] using ha)
    refine ⟨_, rfl, hlt, by rw [getD_at d hlt]; exact List.findIdx_getElem, fun j hj => ?_⟩
    rw [getD_at d (by omega)]
    have := List.not_of_lt_findIdx hj
    simpa using this
  · rw [if_neg ha] at h; exact absurd rfl h
theorem idxF_nil {α : Type} {p : α → Bool} {l : List α} (h : idxF p l = -1) : l.filter (fun x => !p x) = l := by
  have ha : l.any p = false := by rw [← idxF_any p l, h]; rfl
  rw [List.filter_eq_self]
  intro x hx
  have := List.any_eq_false.1 ha x hx
  simpa using this
theorem ce_ite {α : Type} {ce : α → Nat → AV} {c : Nat → AV} {x y : α} {a C b sz : Nat} (h : ∀ b, b < sz → c b = ce x b) (hb : b < sz) : (if a = C then c b else ce y b) = ce (if a = C then x else y) b := by
  by_cases ha : a = C
  · rw [if_pos ha, if_pos ha]; exact h b hb
  · rw [if_neg ha, if_neg ha]
theorem getD_sc {j : Nat} {l : List AV} (h : l.all AV.sc = true) : (l.getD j (.con undef)).sc = true := by
  rw [List.getD_eq_getElem?_getD]
  cases hl : l[j]? with
  | none => rfl
  | some x => exact List.all_eq_true.1 h x (List.mem_of_getElem? hl)
theorem ARun.mut1 {P : Program} {N : Nat} {w0 : Start} {σ : Sig} {ops : Array Oper} {rest : List Oper} {o : Oper} {Q : Sig → Prop} {f d A sz n n' : Nat} {xs : List Operand} {ts : Array TypeId} {args : List SV} {F F' : Nat → Nat → AV} {r s' : SV} (ho : o.op = .call { callee := .value (.func f), args := xs.toArray, argTypes := ts })
    (hF : FnG P f args [(1000000, .arr sz n F)] r [(1000000, .arr sz n' F')]) (hB : callB P f = true) (hp : r.hd = true) (hk : KnG σ (σ.heap.filter fun p => p.1 != A) (fun _ => A) xs args) (hA : σ.heap.lookup A = some (.arr sz n F)) (hsc : ∀ i j, (F i j).sc = true) (hsc' : ∀ i j, (F' i j).sc = true)
    (hs' : r.ren (fun _ => A) = s') (hgd : o.guard = none) (hd : o.dst = some d) (hdN : d < N) (h : ARun P N w0 ops Q rest ⟨(d, s') :: σ.env, (A, .arr sz n' F') :: σ.heap.filter fun p => p.1 != A⟩) : ARun P N w0 ops Q (o :: rest) σ := by
  subst hs'
  have one : ∀ {G : Nat → Nat → AV} {m id : Nat} {p : AObj}, List.lookup id [(1000000, AObj.arr sz m G)] = some p → id = 1000000 ∧ p = .arr sz m G := fun hp => by
    rcases lookup_put hp with h | ⟨_, h⟩
    · exact h
    · simp at h
  refine ARun.mut (g := fun _ => A) ho hF hB hp hk (fun id p hp => ?_) (fun id p hp => ?_) (fun k k' q q' hq hq' hne => ?_) (fun id p hp => ?_) (Hn := (A, .arr sz n' F') :: σ.heap.filter fun p => p.1 != A) (fun id p hp => ?_) hgd hd hdN h
  · obtain ⟨rfl, rfl⟩ := one hp; exact ⟨hA, rfl, hsc⟩
  · obtain ⟨h1, h2⟩ := filter_lookup hp; exact ⟨h2, fun _ _ _ => fun e => h1 e.symm⟩
  · exact absurd ((one hq).1.trans (one hq').1.symm) hne
  · obtain ⟨rfl, rfl⟩ := one hp; exact ⟨Nat.le_refl _, ⟨_, rfl⟩, rfl, hsc'⟩
  · rcases lookup_put hp with ⟨rfl, rfl⟩ | ⟨_, h⟩
    · exact .inr ⟨1000000, rfl, rfl⟩
    · exact .inl h
theorem deep_no {id : Nat} : ∀ {x : AV}, x.Deep → x.no id = true
  | .int _ _, _ => rfl
  | .bool _, _ => rfl
  | .str _, _ => rfl
  | .con _, _ => rfl
  | .lst _ _ _, _ => rfl
  | .ref _ _, _ => rfl
  | .ptr _ _ _ _, h => h.elim
  | .own _ _ _, h => h.elim
  | .frs _, h => h.elim
  | .fn _ _ _, h => h.elim
  | .tre _ _, h => h.elim
theorem fn_no {id g m : Nat} {caps : Nat → AV} (hd : ∀ j, j < m → (caps j).Deep) : (SV.one (.fn g m caps)).no id = true := by
  show (List.range m).all (fun j => (caps j).no id) = true
  rw [List.all_eq_true]
  exact fun j hj => deep_no (hd j (List.mem_range.1 hj))
theorem app0 {α : Type} {i : Nat} {a b : α} : (if i < 0 then a else b) = b := if_neg (Nat.not_lt_zero i)
end Go.Proofs.Ytmfkmifkkplidaa
