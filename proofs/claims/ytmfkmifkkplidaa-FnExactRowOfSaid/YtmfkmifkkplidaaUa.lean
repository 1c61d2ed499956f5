/-
  A calculus for walks, part 23: rows appended to.
-/
import Derived.Test.YtmfkmifkkplidaaVz
import Derived.Deep.AppendSrc
import Derived.Laws.AppendOwn
namespace Go.Proofs.Ytmfkmifkkplidaa
open Go.ChangeShapes Go.WideShapes Go.ChangeAt Go.RowKit Go.BigFrame Go.Deep
set_option linter.unusedVariables false

set_option linter.unusedSimpArgs false
/-- Values of one cell, whatever they read as. -/
def AV.oc : AV → Bool
  | .int _ _ => true
  | .bool _ => true
  | .str _ => true
  | .lst _ _ _ => true
  | .own _ _ _ => true
  | .tre _ _ => true
  | .con v => v.oneCell'
  | .frs (.lst _ _ _) => true
  | _ => false
theorem AV.oc_r {ρ : Rho} {w : World} {S : Nat → Prop} {x : AV} {u : Value} (h : x.oc = true) (hr : R ρ w S x u) : u.oneCell' = true := by
  cases x with
  | int _ _ => rw [show u = _ from hr]; rfl
  | bool _ => rw [show u = _ from hr]; rfl
  | str _ => rw [hr.1]; rfl
  | lst sz n f => obtain ⟨A, c, e, _⟩ := hr; rw [e]; rfl
  | own id sz n => obtain ⟨A, e, _⟩ := hr; rw [e]; rfl
  | tre id i => obtain ⟨_, _, A, n, c, e⟩ := hr; rw [e]; rfl
  | con v => rw [show u = v from hr]; exact h
  | frs x =>
    cases x with
    | lst sz n f => obtain ⟨A, c, e, _⟩ := hr; rw [e]; rfl
    | _ => cases h
  | ref _ _ => cases h
  | ptr _ _ _ _ => cases h
  | fn _ _ _ => cases h
theorem heap_setCells_other {b : Nat} : ∀ {vs : List Value} {o : Nat} {w : World} {k : Nat}, k ≠ b → (w.setCells b o vs).heap[k]? = w.heap[k]?
  | [], _, _, _, _ => rfl
  | v :: r, o, w, k, h => by rw [World.setCells, heap_setCells_other h]; exact Below.heap_setCell _ _ _ _ h
theorem below_setCells {B b : Nat} (hb : B ≤ b) : ∀ {vs : List Value} {o : Nat} {w : World}, Below B w (w.setCells b o vs) ∧ (w.setCells b o vs).heap.size = w.heap.size
  | [], _, w => ⟨Below.refl _ _, rfl⟩
  | v :: r, o, w => by
    obtain ⟨h1, h2⟩ := below_setCells hb (vs := r) (o := o + 1) (w := w.setCell ⟨b, o, none⟩ v)
    rw [World.setCells]
    refine ⟨Below.trans (Below.setCell (Below.refl _ _) hb _) h1, h2.trans ?_⟩
    simp [World.setCell]
theorem heap_setCells_at {b : Nat} {e : TypeId} {fr : Nat × Nat} : ∀ {vs : List Value} {o : Nat} {w : World} {cs : Array Value}, w.heap[b]? = some (.cells cs e fr) → ∃ cs' : Array Value, (w.setCells b o vs).heap[b]? = some (.cells cs' e fr) ∧ cs'.size = cs.size ∧
    (∀ k, k < o → cs'[k]? = cs[k]?) ∧ (∀ j u, vs[j]? = some u → o + j < cs.size → cs'[o + j]? = some u)
  | [], o, w, cs, h => ⟨cs, h, rfl, fun _ _ => rfl, fun j u hj => by simp at hj⟩
  | v :: r, o, w, cs, h => by
    have h1 : (w.setCell ⟨b, o, none⟩ v).heap[b]? = some (.cells (cs.setIfInBounds o v) e fr) := by
      simp [World.setCell, Array.getElem?_modify, h]
    obtain ⟨cs', k1, k2, k3, k4⟩ := heap_setCells_at (vs := r) (o := o + 1) h1
    refine ⟨cs', k1, by rw [k2]; simp, fun k hk => ?_, fun j u hj hlt => ?_⟩
    · rw [k3 k (by omega), Array.getElem?_setIfInBounds, if_neg (by omega)]
    · cases j with
      | zero =>
        simp at hj
        subst hj
        rw [Nat.add_zero, k3 o (by omega), Array.getElem?_setIfInBounds, if_pos rfl, if_pos (by simpa using hlt)]
      | succ j =>
        have := k4 j u (by simpa using hj) (by simp; omega)
        rw [show o + (j + 1) = o + 1 + j by omega]; exact this
section
variable {P : Program} {N : Nat} {w0 : Start} {σ : Sig} {ops : Array Oper} {rest : List Oper} {o : Oper} {Q : Sig → Prop}
/-- A row that is read: of the walk's own, or data. -/
inductive KnR (σ : Sig) (y : Operand) (sz m : Nat) (g : Nat → Nat → AV) : Prop
  | own {id : Nat} {ob : AObj} : Kn σ y (.one (.own id sz m)) → σ.heap.lookup id = some ob → ob.sz = sz → m ≤ ob.n → (∀ i j, i < m → j < sz → ob.f i j = g i j) → KnR σ y sz m g
  | lst : Kn σ y (.one (.lst sz m g)) → KnR σ y sz m g
theorem news_of {w : World} {b off n : Nat} (h : ∀ q, q < n → ∃ u, w.cell? ⟨b, off + q, none⟩ = some u) : ∃ news : List Value, news.length = n ∧ ∀ q u, news[q]? = some u → w.cell? ⟨b, off + q, none⟩ = some u := by
  refine ⟨(List.range n).map fun q => (w.cell? ⟨b, off + q, none⟩).getD undef, by simp, fun q u hq => ?_⟩
  have hlt : q < n := by have := (List.getElem?_eq_some_iff.1 hq).1; simpa using this
  obtain ⟨v, hv⟩ := h q hlt
  simp [hlt, hv] at hq
  rw [hv, hq]
theorem KnR.src {ρ : Rho} {S : Nat → Prop} {a : Act} {w : World} {y : Operand} {sz m : Nat} {g : Nat → Nat → AV} (h : KnR σ y sz m g) (hs : St N w0 ρ S σ a w) (hsz : 0 < sz) (hoc : ∀ i j, i < m → j < sz → (g i j).oc = true) {t2 : TypeId} (ht : sliceB P t2 = true) :
    ∃ news : List Value, Src P sz t2 (a.eval y) m news w ∧ ∀ i j, i < m → j < sz → ∃ u, news[i * sz + j]? = some u ∧ R ρ w S (g i j) u := by
  obtain ⟨e', he⟩ := sliceB_spec ht
  have key : ∀ (b off c : Nat), (∀ i j, i < m → j < sz → ∃ u, w.cell? ⟨b, off + (i * sz + j), none⟩ = some u ∧ R ρ w S (g i j) u) → a.eval y = .slice (some ⟨b, off, none⟩) m c →
      ∃ news : List Value, Src P sz t2 (a.eval y) m news w ∧ ∀ i j, i < m → j < sz → ∃ u, news[i * sz + j]? = some u ∧ R ρ w S (g i j) u := by
    intro b off c hc ev
    have hq : ∀ q, q < m * sz → q / sz < m ∧ q % sz < sz ∧ q / sz * sz + q % sz = q := fun q hq => ⟨(Nat.div_lt_iff_lt_mul hsz).2 hq, Nat.mod_lt _ hsz, by rw [Nat.mul_comm]; exact Nat.div_add_mod q sz⟩
    obtain ⟨news, hl, hn⟩ := news_of (w := w) (b := b) (off := off) (n := m * sz) fun q hq' => by
      obtain ⟨h1, h2, h3⟩ := hq q hq'
      obtain ⟨u, hu, _⟩ := hc _ _ h1 h2
      rw [h3] at hu; exact ⟨u, hu⟩
    have hget : ∀ i j, i < m → j < sz → ∃ u, news[i * sz + j]? = some u ∧ R ρ w S (g i j) u := fun i j hi hj => by
      obtain ⟨u, hu, hr⟩ := hc i j hi hj
      have hlt : i * sz + j < news.length := by rw [hl]; exact cell_lt hi hj
      refine ⟨u, ?_, hr⟩
      have := hn _ _ (List.getElem?_eq_getElem hlt)
      rw [hu] at this
      rw [List.getElem?_eq_getElem hlt, this]
    refine ⟨news, ?_, hget⟩
    rw [ev]
    refine Src.ofSlice w he ⟨b, off, none⟩ m c news hl (fun j u hj => by rw [Addr.add_lit]; exact hn j u hj) fun u hu => ?_
    obtain ⟨q, hq1, rfl⟩ := List.mem_iff_getElem.1 hu
    obtain ⟨h1, h2, h3⟩ := hq q (by omega)
    obtain ⟨u', hu', hr⟩ := hget _ _ h1 h2
    rw [h3, List.getElem?_eq_getElem hq1] at hu'
    obtain rfl := Option.some.inj hu'
    exact AV.oc_r (hoc _ _ h1 h2) hr
  have nil : ∀ (A : Option Addr) (c : Nat), m = 0 → a.eval y = .slice A m c → ∃ news : List Value, Src P sz t2 (a.eval y) m news w ∧ ∀ i j, i < m → j < sz → ∃ u, news[i * sz + j]? = some u ∧ R ρ w S (g i j) u := by
    intro A c hm ev
    subst hm
    refine ⟨[], ?_, fun i j hi => absurd hi (by omega)⟩
    rw [ev]
    cases A with
    | none => exact Src.ofNil w he c
    | some ad => exact Src.ofSlice w he ad 0 c [] (by simp) (fun j u hj => by simp at hj) (fun u hu => by cases hu)
  cases h with
  | @own id ob k1 k2 k3 k4 k5 =>
    subst k3
    obtain ⟨A, ev, hn1, hn2, hA⟩ := k1.sound hs
    by_cases hm : m = 0
    · exact nil A _ hm ev
    · have hc : (ρ id).2 ≠ 0 := by omega
      obtain ⟨cs, e, h1, h2, h3, h4, h5, h6, h7⟩ := hs.mem.obj id ob k2 hc
      have hA' : A = some ⟨(ρ id).1, 0, none⟩ := by rcases hA with h | ⟨_, h⟩; (· exact h); (· exact absurd h hc)
      subst hA'
      refine key (ρ id).1 0 _ (fun i j hi hj => ?_) ev
      obtain ⟨u, hu, hr⟩ := h7 i j (by omega) hj
      rw [k5 i j hi hj] at hr
      exact ⟨u, by simp [World.cell?, h1, hu], hr⟩
  | lst k1 =>
    obtain ⟨A, c, ev, h1, h2, h3, h4⟩ := k1.sound hs
    by_cases hm : m = 0
    · exact nil A c hm ev
    · obtain ⟨b, off, hA, _, _⟩ := h4 0 (by omega)
      subst hA
      refine key b off c (fun i j hi hj => ?_) ev
      obtain ⟨b', off', hA', _, hc⟩ := h4 i hi
      cases hA'
      obtain ⟨u, hu, hd⟩ := hc j hj
      exact ⟨u, hu, hd.toR⟩
/-- What is appended to: a row of the walk's own, or nil. -/
inductive KnF (σ : Sig) (x : Operand) (sz n : Nat) (f : Nat → Nat → AV) : Heap → Prop
  | own {id : Nat} {ob : AObj} : Kn σ x (.one (.own id sz n)) → σ.heap.lookup id = some ob → ob.isT = false → ob.sz = sz → n ≤ ob.n → (∀ i j, i < n → j < sz → ob.f i j = f i j) → KnF σ x sz n f (σ.heap.filter fun p => p.1 != id)
  | nil : Kn σ x (.one (.con (.slice none 0 0))) → n = 0 → KnF σ x sz n f σ.heap
theorem filter_lookup {α : Type} {id : Nat} : ∀ {l : List (Nat × α)} {k : Nat} {p : α}, (l.filter fun q => q.1 != id).lookup k = some p → k ≠ id ∧ l.lookup k = some p
  | [], _, _, h => by simp at h
  | (k', q) :: l, k, p, h => by
    by_cases hk : k' = id
    · subst hk
      rw [List.filter_cons_of_neg (by simp)] at h
      obtain ⟨h1, h2⟩ := filter_lookup h
      refine ⟨h1, ?_⟩
      rw [List.lookup_cons, show (k == k') = false by simpa using h1]; exact h2
    · rw [List.filter_cons_of_pos (by simpa using hk)] at h
      rcases lookup_put h with ⟨rfl, rfl⟩ | ⟨hne, h⟩
      · exact ⟨hk, by simp⟩
      · obtain ⟨h1, h2⟩ := filter_lookup h
        refine ⟨h1, ?_⟩
        rw [List.lookup_cons, show (k == k') = false by simpa using hne]; exact h2
theorem KnF.sub {x : Operand} {sz n : Nat} {f : Nat → Nat → AV} {Hn : Heap} (h : KnF σ x sz n f Hn) : ∀ {k p}, Hn.lookup k = some p → σ.heap.lookup k = some p := by
  intro k p hk
  cases h with
  | own => exact (filter_lookup hk).2
  | nil => exact hk
theorem ARun.append {t t2 : TypeId} {x y : Operand} {d id sz n m by_ : Nat} {z : Value} {f g h : Nat → Nat → AV} {Hn : Heap} (ho : o.op = .call { callee := .builtin .append, args := #[x, y], argTypes := #[t, t2] })
    (hz : elemZ P t = some (some z, sz, by_)) (hzc : z.cells.size = sz) (ht : sliceB P t2 = true) (hx : KnF σ x sz n f Hn) (hy : KnR σ y sz m g) (hsz : 0 < sz) (hoc : ∀ i j, i < m → j < sz → (g i j).oc = true)
    (hh : ∀ i j, i < n + m → j < sz → h i j = if i < n then f i j else g (i - n) j) (hlim : (n + m) * by_ ≤ 140737488355328) (h63 : n + m ≤ 9223372036854775807) (hf : Fr id σ) (hno : ∀ i j, (h i j).no id = true)
    (hg : o.guard = none) (hd : o.dst = some d) (hN : d < N) (hk : ARun P N w0 ops Q rest ⟨(d, .one (.own id sz (n + m))) :: σ.env, (id, .arr sz (n + m) h) :: Hn⟩) : ARun P N w0 ops Q (o :: rest) σ := by
  intro ρ S a w Q' hQ hs
  refine wpList_plain hg fun K hK => ?_
  obtain ⟨e, i, hu, hi, hz0, hz1, hz2⟩ := elemZ_spec hz
  subst hz1 hz2
  obtain ⟨news, hsrc, hnews⟩ := hy.src (P := P) hs hsz hoc ht
  have hnl : news.length = m * i.size := hsrc.newsLen
  -- the row that is appended to
  obtain ⟨A, c, b, cs, ev, hnc, hcm, hA, hold, hHn⟩ : ∃ (A : Option Addr) (c b : Nat) (cs : Array Value), a.eval x = .slice A n c ∧ n ≤ c ∧ c ≤ maxLen ∧ (A = some ⟨b, 0, none⟩ ∨ (A = none ∧ c = 0)) ∧
      (c ≠ 0 → (∃ e', w.heap[b]? = some (.cells cs e' (0, 0))) ∧ cs.size = c * i.size ∧ w0.base ≤ b ∧ ¬ S b ∧ b < w.heap.size ∧ ∀ k j, k < n → j < i.size → ∃ u, cs[k * i.size + j]? = some u ∧ R ρ w S (f k j) u) ∧
      (c ≠ 0 → (∀ k p, Hn.lookup k = some p → (ρ k).2 ≠ 0 → (ρ k).1 ≠ b) ∧ ∀ k n' X q b', Hn.lookup k = some (.trees n' X) → q < n' → ρ.tb k q b' → b' ≠ b) := by
    cases hx with
    | @own k ob k1 k2 k3 k4 k5 k6 =>
      obtain ⟨A, ev, q1, q2, q3⟩ := k1.sound hs
      by_cases hc : (ρ k).2 = 0
      · exact ⟨A, _, (ρ k).1, #[], ev, q1, q2, q3, fun h => absurd hc h, fun h => absurd hc h⟩
      · obtain ⟨cs, e', h1, h2, h3, h4, h5, h6, h7⟩ := hs.mem.obj k ob k2 hc
        refine ⟨A, _, (ρ k).1, cs, ev, q1, q2, q3, fun _ => ⟨⟨e', h1⟩, by rw [← k4]; exact h2, h5, h6, hs.mem.blk k2 hc, fun r j hr hj => ?_⟩, fun _ => ⟨fun k' p hp hc' => ?_, fun k' n' X q b' hX hq hb' e => ?_⟩⟩
        · obtain ⟨u, hu, hru⟩ := h7 r j (by omega) (by rw [k4]; exact hj)
          rw [k6 r j hr hj, k4] at *
          exact ⟨u, hu, hru⟩
        · obtain ⟨g1, g2⟩ := filter_lookup hp
          exact hs.mem.inj k' k p ob g2 k2 g1 hc' hc
        · obtain ⟨g1, g2⟩ := filter_lookup hX
          exact ((hs.mem.tree k' n' X g2 q hq).2 b' hb').2.2.2.1 k ob k2 hc e.symm
    | nil k1 k2 =>
      have ev : a.eval x = .slice none 0 0 := k1.sound hs
      exact ⟨none, 0, 0, #[], by rw [ev, k2], by omega, by decide, .inr ⟨rfl, rfl⟩, fun h => absurd rfl h, fun h => absurd rfl h⟩
  have hHsub : ∀ {k p}, Hn.lookup k = some p → σ.heap.lookup k = some p := fun hk => hx.sub hk
  have fin : ∀ (v : Value) (w' : World) (ρ' : Rho), (Builtin.append_ #[t, t2] o.type #[a.eval x, a.eval y]).run P w = .ok v w' → St N w0 ρ' S ⟨σ.env, (id, .arr i.size (n + m) h) :: Hn⟩ a w' → R ρ' w' S (.own id i.size (n + m)) v → o.wp P a w K Q' := by
    intro v w' ρ' hrun hst hv
    have hr2 : (execOp a.eval o).run P w = .ok (.value v) w' := by
      generalize a.eval = ev at hrun
      simp only [execOp, ho, resolve, Sem.run_bind, Sem.run_pure, Result.andThen_ok, invoke, builtin, List.map_toArray, List.map_cons, List.map_nil, Array.empty_append, hrun]
    unfold Oper.wp
    rw [hr2]
    simp only [Oper.upon, hd]
    exact hK _ _ (hk ρ' S _ _ Q' hQ (hst.put hN hv))
  by_cases hroom : n + m ≤ c
  · -- there is room
    by_cases hc0 : c = 0
    · -- nothing at all
      obtain ⟨rfl, rfl⟩ : n = 0 ∧ m = 0 := by omega
      have hnews0 : news = [] := List.eq_nil_of_length_eq_zero (by rw [hnl]; omega)
      subst hnews0
      subst hc0
      obtain ⟨ρ', e1, hs'⟩ := hs.phantomAt b hf i.size h
      have hrun : (Builtin.append_ #[t, t2] o.type #[a.eval x, a.eval y]).run P w = .ok (.slice A 0 0) w := by
        rw [ev]
        have hcl := hsrc.cells
        have hln := hsrc.len w
        generalize a.eval y = vy at hcl hln
        rcases hsrc.kind with ⟨e', hk⟩ | hk <;> rcases hA with rfl | ⟨rfl, _⟩ <;> simp [Builtin.append_, run_underlying hu, run_underlying hk, sizeOf, typeInfo, hi, hln, hcl, storeCells]
      refine fin _ w ρ' hrun ⟨hs'.size, hs'.defers, hs'.below, hs'.mem.le' fun k p hp => ?_, hs'.env⟩ ?_
      · rcases lookup_put hp with ⟨rfl, rfl⟩ | ⟨hne, hp⟩
        · exact HLe.refl (by simp [Sig.set])
        · exact HLe.refl (by simp only [Sig.set]; rw [List.lookup_cons, show (k == id) = false by simpa using hne]; exact hHsub hp)
      · show ∃ B, Value.slice A 0 0 = .slice B 0 (ρ' id).2 ∧ 0 ≤ (ρ' id).2 ∧ (ρ' id).2 ≤ maxLen ∧ (B = some ⟨(ρ' id).1, 0, none⟩ ∨ (B = none ∧ (ρ' id).2 = 0))
        rw [e1]
        exact ⟨A, rfl, Nat.le_refl _, Nat.zero_le _, hA⟩
    · obtain ⟨⟨e', hblk⟩, hcsz, hbb, hbS, hblt, hcells⟩ := hold hc0
      obtain ⟨hn1, hn2⟩ := hHn hc0
      have hA' : A = some ⟨b, 0, none⟩ := by rcases hA with h | ⟨_, h⟩; (· exact h); (· exact absurd h hc0)
      subst hA'
      have hin : ∀ j, j < news.length → n * i.size + j < cs.size := fun j hj => by
        rw [hnl] at hj
        have : (n + m) * i.size ≤ c * i.size := Nat.mul_le_mul_right _ hroom
        rw [Nat.add_mul] at this
        omega
      have hrun := run_append_room_src (P := P) w t t2 o.type e i hu hi b 0 n c (a.eval y) m news hsrc hroom (fun j hj => by
          have := hin j hj
          simp [World.cell?, hblk, this]) (fun j hj => by simp [World.frozen?, hblk])
      simp only [Nat.zero_add] at hrun
      obtain ⟨hb1, hb2⟩ := below_setCells hbb (vs := news) (o := n * i.size) (w := w)
      obtain ⟨cs', g1, g2, g3, g4⟩ := heap_setCells_at (vs := news) (o := n * i.size) hblk
      have hother : ∀ k, k ≠ b → (w.setCells b (n * i.size) news).heap[k]? = w.heap[k]? := fun k hk => heap_setCells_other hk
      have hsame : Same S w S (w.setCells b (n * i.size) news) := ⟨fun _ h => h, fun k hk => hother k fun e => hbS (e ▸ hk)⟩
      refine fin _ _ ⟨fun k => if k = id then (b, c) else ρ k, ρ.base, ρ.tv, ρ.tb, ρ.tn⟩ (by rw [ev]; exact hrun) ?_ ?_
      · have hρ : ∀ k, k ≠ id → (if k = id then (b, c) else ρ k) = ρ k := fun k hk => if_neg hk
        have hρA : ∀ k, k ≠ id → Rho.At ρ ⟨fun k => if k = id then (b, c) else ρ k, ρ.base, ρ.tv, ρ.tb, ρ.tn⟩ k := fun k hk => ⟨hρ k hk, rfl, rfl, rfl⟩
        have hkeep : ∀ {x : AV} {u : Value}, x.no id = true → R ρ w S x u → R ⟨fun k => if k = id then (b, c) else ρ k, ρ.base, ρ.tv, ρ.tb, ρ.tn⟩ (w.setCells b (n * i.size) news) S x u := fun {x u} hx hr => hr.keep (ρ := ρ) hsame ⟨rfl, fun q => by
          by_cases hq : q = id
          · subst hq; exact .inr hx
          · exact .inl (hρA q hq)⟩
        refine ⟨hs.size, hs.defers, ⟨hs.below.old.trans hb1, hs.below.same.trans hsame, fun k hk => (hs.below.ids k hk).trans (hρA k (fun e => by have := hf.small; omega))⟩, ⟨hs.mem.base, by rw [hb2]; exact hs.mem.low, fun k hk => by rw [hb2]; exact hs.mem.lt k hk, ?_, ?_, ?_, ?_⟩, fun t s ht => (hs.env t s ht).keep (ρ := ρ) hsame ⟨rfl, fun q => by
          by_cases hq : q = id
          · subst hq; exact .inr (List.all_eq_true.1 hf.env _ (lookup_mem ht))
          · exact .inl (hρA q hq)⟩⟩
        · intro k p hp
          rcases lookup_put hp with ⟨rfl, rfl⟩ | ⟨hne, hp⟩
          · simpa [AObj.n] using hroom
          · simp only [hρ k hne]; exact hs.mem.cap k p (hHsub hp)
        · intro k p hp hc
          rcases lookup_put hp with ⟨rfl, rfl⟩ | ⟨hne, hp⟩
          · simp only [if_true]
            refine ⟨cs', e', g1, by rw [g2]; exact hcsz, hroom, hcm, hbb, hbS, fun r j hr hj => ?_⟩
            have hr : r < n + m := hr
            have hj : j < i.size := hj
            show ∃ u, cs'[r * i.size + j]? = some u ∧ R _ _ S (h r j) u
            have hnn := hno r j
            rw [hh r j hr hj] at hnn ⊢
            by_cases hrn : r < n
            · rw [if_pos hrn] at hnn ⊢
              obtain ⟨u, hu1, hr1⟩ := hcells r j hrn hj
              exact ⟨u, by rw [g3 _ (cell_lt hrn hj)]; exact hu1, hkeep hnn hr1⟩
            · rw [if_neg hrn] at hnn ⊢
              obtain ⟨u, hu1, hr1⟩ := hnews (r - n) j (by omega) hj
              have hq : n * i.size + ((r - n) * i.size + j) = r * i.size + j := by
                rw [← Nat.add_assoc, ← Nat.add_mul]
                rw [show n + (r - n) = r by omega]
              have := g4 _ u hu1 (hin _ (List.getElem?_eq_some_iff.1 hu1).1)
              rw [hq] at this
              exact ⟨u, this, hkeep hnn hr1⟩
          · obtain ⟨_, hno'⟩ := hf.heap.get (hHsub hp)
            simp only [hρ k hne] at hc ⊢
            obtain ⟨cs2, e2, q1, q2, q3, q4, q5, q6, q7⟩ := hs.mem.obj k p (hHsub hp) hc
            refine ⟨cs2, e2, by rw [hother _ (hn1 k p hp hc)]; exact q1, q2, q3, q4, q5, q6, fun r j hr hj => ?_⟩
            obtain ⟨u, hu1, hr1⟩ := q7 r j hr hj
            exact ⟨u, hu1, hkeep (hno'.at_ r j) hr1⟩
        · intro k k' p p' hp hp' hne hc hc'
          rcases lookup_put hp with ⟨rfl, rfl⟩ | ⟨q1, hp2⟩ <;> rcases lookup_put hp' with ⟨rfl, rfl⟩ | ⟨q2, hp2'⟩
          · exact absurd rfl hne
          · simp only [hρ k' q2] at hc'
            simp only [if_true, hρ k' q2]
            exact fun e => hn1 k' p' hp2' hc' e.symm
          · simp only [hρ k q1] at hc
            simp only [if_true, hρ k q1]
            exact hn1 k p hp2 hc
          · simp only [hρ k q1] at hc
            simp only [hρ k' q2] at hc'
            simp only [hρ k q1, hρ k' q2]
            exact hs.mem.inj k k' p p' (hHsub hp2) (hHsub hp2') hne hc hc'
        · have hmn : MemOk w0.base ρ S Hn w := hs.mem.le' fun k p hp => HLe.refl (hHsub hp)
          refine hmn.treeOf (Nat.le_refl _) (fun k n' X hX => ?_) (fun k n' X q b' hX hq hb' => ?_) (fun k p hp hc => ?_)
          · rcases lookup_put hX with ⟨rfl, e⟩ | ⟨hne, hX⟩
            · cases e
            · exact ⟨X, hX, fun _ _ => rfl, rfl, rfl, rfl⟩
          · obtain ⟨q1, q2, q3, _⟩ := (hmn.tree k n' X hX q hq).2 b' hb'
            exact ⟨hother b' (hn2 k n' X q b' hX hq hb'), by rw [hb2]; exact q2, q3⟩
          · rcases lookup_put hp with ⟨rfl, rfl⟩ | ⟨hne, hp⟩
            · refine .inr fun k2 n' X q hX hq hb' => ?_
              simp only [if_true] at hb'
              exact hn2 k2 n' X q b hX hq hb' rfl
            · exact .inl ⟨p, hp, hρ k hne⟩
      · show ∃ A, Value.slice _ _ _ = .slice A (n + m) (if id = id then (b, c) else ρ id).2 ∧ _
        simp only [if_true]
        exact ⟨_, rfl, hroom, hcm, .inl rfl⟩
  · -- a new row
    have hold2 : ∃ olds : List Value, (Builtin.firstCells i.size n (.slice A n c)).run P w.drew = .ok olds.toArray w.drew ∧ olds.length = n * i.size ∧ ∀ k j, k < n → j < i.size → ∃ u, olds[k * i.size + j]? = some u ∧ R ρ w S (f k j) u := by
      by_cases hn0 : n = 0
      · subst hn0
        refine ⟨[], ?_, by simp, fun k j hk => absurd hk (by omega)⟩
        rcases hA with rfl | ⟨rfl, _⟩
        · exact run_firstCells_some w.drew i.size 0 _ 0 c [] (by simp) (fun j u hj => by simp at hj)
        · exact run_firstCells_none w.drew i.size 0 0 c
      · have hc0 : c ≠ 0 := by omega
        obtain ⟨⟨e', hblk⟩, hcsz, hbb, hbS, hblt, hcells⟩ := hold hc0
        have hA' : A = some ⟨b, 0, none⟩ := by rcases hA with h | ⟨_, h⟩; (· exact h); (· exact absurd h hc0)
        subst hA'
        have hle : n * i.size ≤ cs.size := by rw [hcsz]; exact Nat.mul_le_mul_right _ hnc
        refine ⟨cs.toList.take (n * i.size), run_firstCells_some w.drew i.size n _ n c _ (by simp; omega) (fun j u hj => ?_), by simp; omega, fun k j hk hj => ?_⟩
        · rw [List.getElem?_take] at hj
          split at hj
          · rw [Addr.add_lit]
            have : cs[j]? = some u := by simpa using hj
            show w.cell? ⟨b, 0 + j, none⟩ = some u
            simp [World.cell?, hblk, this]
          · cases hj
        · obtain ⟨u, hu1, hr1⟩ := hcells k j hk hj
          refine ⟨u, ?_, hr1⟩
          rw [List.getElem?_take, if_pos (cell_lt hk hj)]
          simpa using hu1
    obtain ⟨olds, ho1, ho2, ho3⟩ := hold2
    have hrun := run_append_grow_src (P := P) w t t2 o.type e i z hu hi hz0 A n c olds ho1 (a.eval y) m news hsrc (by omega) (by omega) (growslice_fits (by omega) hlim)
    have hsw := hs.world (w' := w.drew) ((Below.refl _ _).drew)
    have hcapge := grownCap_ge w (n + m) c e
    have hcaple := grownCap_le_maxLen w (n + m) c e (by unfold maxLen; omega)
    generalize hcap : grownCap w (n + m) c e = cap' at hrun hcapge hcaple
    have hcsz : ((olds ++ news).toArray ++ Builtin.zeroCells z.cells (cap' - (n + m))).size = cap' * i.size := by
      rw [Array.size_append, size_zeroCells, hzc]
      simp only [List.size_toArray, List.length_append, ho2, hnl]
      rw [← Nat.add_mul, ← Nat.add_mul]
      congr 1; omega
    obtain ⟨ρ', e1, e2, e3, hs'⟩ := hsw.newA hf (o := .arr i.size (n + m) h) (cs := (olds ++ news).toArray ++ Builtin.zeroCells z.cells (cap' - (n + m))) (e := e) (cap := cap') rfl hcsz hcapge hcaple (fun r j hr hj => by
      have hr : r < n + m := hr
      have hj : j < i.size := hj
      show ∃ u, ((olds ++ news).toArray ++ Builtin.zeroCells z.cells (cap' - (n + m)))[r * i.size + j]? = some u ∧ R ρ w.drew S (h r j) u
      have hlt : r * i.size + j < (olds ++ news).length := by
        rw [List.length_append, ho2, hnl, ← Nat.add_mul]; exact cell_lt hr hj
      rw [Array.getElem?_append_left (by simpa using hlt), hh r j hr hj]
      have hkeep : ∀ {x : AV} {u : Value}, R ρ w S x u → R ρ w.drew S x u := fun hr => hr.keep (hs.mem.same ((Below.refl _ _).drew)) (Rn.refl _ _)
      by_cases hrn : r < n
      · rw [if_pos hrn]
        obtain ⟨u, hu1, hr1⟩ := ho3 r j hrn hj
        refine ⟨u, ?_, hkeep hr1⟩
        simp only [List.getElem?_toArray]
        rw [List.getElem?_append_left (by rw [ho2]; exact cell_lt hrn hj)]; exact hu1
      · rw [if_neg hrn]
        obtain ⟨u, hu1, hr1⟩ := hnews (r - n) j (by omega) hj
        refine ⟨u, ?_, hkeep hr1⟩
        have hq : n * i.size + ((r - n) * i.size + j) = r * i.size + j := by
          rw [← Nat.add_assoc, ← Nat.add_mul]
          rw [show n + (r - n) = r by omega]
        simp only [List.getElem?_toArray]
        rw [List.getElem?_append_right (by rw [ho2]; omega), ho2, show r * i.size + j - n * i.size = (r - n) * i.size + j by omega]; exact hu1) hno
    refine fin _ _ ρ' (by rw [ev]; exact hrun) ?_ ?_
    · refine ⟨hs'.size, hs'.defers, hs'.below, hs'.mem.le' fun k p hp => ?_, hs'.env⟩
      rcases lookup_put hp with ⟨rfl, rfl⟩ | ⟨hne, hp⟩
      · exact HLe.refl (by simp [Sig.set])
      · exact HLe.refl (by simp only [Sig.set]; rw [List.lookup_cons, show (k == id) = false by simpa using hne]; exact hHsub hp)
    · show ∃ A, Value.slice _ _ _ = .slice A (n + m) (ρ' id).2 ∧ n + m ≤ (ρ' id).2 ∧ (ρ' id).2 ≤ maxLen ∧ (A = some ⟨(ρ' id).1, 0, none⟩ ∨ (A = none ∧ (ρ' id).2 = 0))
      rw [e1]
      exact ⟨_, rfl, hcapge, hcaple, .inl rfl⟩
end
end Go.Proofs.Ytmfkmifkkplidaa
