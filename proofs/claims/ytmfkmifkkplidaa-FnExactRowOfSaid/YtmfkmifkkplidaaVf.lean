/-
  A calculus for walks, part 6: variables that are made, written.
-/
import Derived.Test.YtmfkmifkkplidaaVe
namespace Go.Proofs.Ytmfkmifkkplidaa
open Go.ChangeShapes Go.WideShapes Go.ChangeAt Go.RowKit Go.BigFrame Go.Deep
set_option linter.unusedVariables false

set_option linter.unusedSimpArgs false
theorem getD_no {id j : Nat} {l : List AV} (h : l.all (AV.no id) = true) : (l.getD j (.con undef)).no id = true := by
  rw [List.getD_eq_getElem?_getD]
  cases hl : l[j]? with
  | none => rfl
  | some x => exact List.all_eq_true.1 h x (List.mem_of_getElem? hl)
/-- Nothing that is known speaks of id. -/
def FrH (id : Nat) : Heap → Prop
  | [] => True
  | (k, o) :: l => k ≠ id ∧ o.No id ∧ FrH id l
structure Fr (id : Nat) (σ : Sig) : Prop where
  envB : (Nat.blt id 1000000 && σ.env.all (fun p => p.2.no id)) = true
  heap : FrH id σ.heap
theorem Fr.env {id : Nat} {σ : Sig} (h : Fr id σ) : σ.env.all (fun p => p.2.no id) = true := by
  have := h.envB; rw [Bool.and_eq_true] at this; exact this.2
theorem Fr.small {id : Nat} {σ : Sig} (h : Fr id σ) : id < 1000000 := by
  have := h.envB; rw [Bool.and_eq_true] at this; simpa [Nat.blt_eq] using this.1
theorem FrH.get {id : Nat} : ∀ {l : Heap}, FrH id l → ∀ {k : Nat} {o : AObj}, l.lookup k = some o → k ≠ id ∧ o.No id
  | [], _, _, _, h => by simp at h
  | (k', o') :: l, ⟨h1, h2, h3⟩, k, o, h => by
    simp only [List.lookup_cons] at h
    by_cases e : k = k'
    · subst e
      simp at h
      subst h
      exact ⟨h1, h2⟩
    · have : (k == k') = false := by simpa using e
      rw [this] at h
      exact FrH.get h3 h
theorem lookup_mem {α : Type} : ∀ {l : List (Nat × α)} {k : Nat} {o : α}, l.lookup k = some o → (k, o) ∈ l
  | [], _, _, h => by simp at h
  | (k', o') :: l, k, o, h => by
    simp only [List.lookup_cons] at h
    by_cases e : k = k'
    · subst e
      simp at h
      subst h
      exact List.mem_cons_self ..
    · have : (k == k') = false := by simpa using e
      rw [this] at h
      exact List.mem_cons_of_mem _ (lookup_mem h)
theorem lookup_put {α : Type} {l : List (Nat × α)} {k k' : Nat} {o p : α} (h : ((k', p) :: l).lookup k = some o) : (k = k' ∧ o = p) ∨ (k ≠ k' ∧ l.lookup k = some o) := by
  simp only [List.lookup_cons] at h
  by_cases e : k = k'
  · subst e
    simp at h
    exact .inl ⟨rfl, h.symm⟩
  · have : (k == k') = false := by simpa using e
    rw [this] at h
    exact .inr ⟨e, h⟩
section
variable {P : Program} {N : Nat} {w0 : Start} {σ : Sig}
theorem World.heap_alloc (w : World) (o : Obj) : (w.alloc o).heap = w.heap.push o := rfl
/-- A new own object. -/
theorem St.newA {ρ : Rho} {S : Nat → Prop} {a : Act} {w : World} (hs : St N w0 ρ S σ a w) {id : Nat} (hf : Fr id σ) {cs : Array Value} {e : TypeId} {cap : Nat} {o : AObj} (hT : o.isT = false) (h1 : cs.size = cap * o.sz) (h2 : o.n ≤ cap) (h3 : cap ≤ maxLen)
    (h4 : ∀ i j, i < o.n → j < o.sz → ∃ u, cs[i * o.sz + j]? = some u ∧ R ρ w S (o.f i j) u) (h5 : o.No id) :
    ∃ ρ' : Rho, ρ' id = (w.heap.size, cap) ∧ ρ'.base = ρ.base ∧ (∀ k, k ≠ id → Rho.At ρ ρ' k) ∧ St N w0 ρ' S (σ.set id o) a (w.alloc (.cells cs e)) := by
  refine ⟨⟨fun k => if k = id then (w.heap.size, cap) else ρ k, ρ.base, ρ.tv, ρ.tb, ρ.tn⟩, by simp, rfl, fun k hk => ⟨if_neg hk, rfl, rfl, rfl⟩, ?_⟩
  have hb : Below w.heap.size w (w.alloc (.cells cs e)) := (Below.refl _ _).alloc (Nat.le_refl _) _
  have hsame : Same S w S (w.alloc (.cells cs e)) := hs.mem.same hb
  have hρ : ∀ k, k ≠ id → (if k = id then (w.heap.size, cap) else ρ k) = ρ k := fun k hk => if_neg hk
  have hρA : ∀ k, k ≠ id → Rho.At ρ ⟨fun k => if k = id then (w.heap.size, cap) else ρ k, ρ.base, ρ.tv, ρ.tb, ρ.tn⟩ k := fun k hk => ⟨hρ k hk, rfl, rfl, rfl⟩
  refine ⟨hs.size, hs.defers, ⟨hs.below.old.trans (hb.mono hs.mem.low), hs.below.same.trans hsame, fun k hk => (hs.below.ids k hk).trans (hρA k (fun e => by have := hf.small; omega))⟩, ⟨hs.mem.base, ?_, ?_, ?_, ?_, ?_, ?_⟩, ?_⟩
  · exact Nat.le_trans hs.mem.low hb.size
  · exact fun b hS => Nat.lt_of_lt_of_le (hs.mem.lt b hS) hb.size
  · intro k p hp
    rcases lookup_put hp with ⟨rfl, rfl⟩ | ⟨hne, hp⟩
    · simpa using h2
    · simp only [hρ k hne]; exact hs.mem.cap k p hp
  · intro k p hp hc
    rcases lookup_put hp with ⟨rfl, rfl⟩ | ⟨hne, hp⟩
    · refine ⟨cs, e, ?_, by simpa using h1, by simpa using h2, by simpa using h3, by simpa using hs.mem.low, ?_, fun i j hi hj => ?_⟩
      · simp [World.heap_alloc]
      · simp only [if_true]
        exact fun hS => absurd (hs.mem.lt _ hS) (by omega)
      · obtain ⟨u, hu, hr⟩ := h4 i j hi hj
        exact ⟨u, hu, hr.keep (ρ := ρ) hsame ⟨rfl, fun q => by
          by_cases hq : q = k
          · subst hq; exact .inr (h5.at_ i j)
          · exact .inl (hρA q hq)⟩⟩
    · obtain ⟨_, hno⟩ := hf.heap.get hp
      simp only [hρ k hne] at hc
      have hlt := hs.mem.blk hp hc
      obtain ⟨cs', e', g1, g2, g3, g4, g5, g6, g7⟩ := hs.mem.obj k p hp hc
      simp only [hρ k hne]
      refine ⟨cs', e', by rw [hb.block _ hlt]; exact g1, g2, g3, g4, g5, g6, fun i j hi hj => ?_⟩
      obtain ⟨u, hu, hr⟩ := g7 i j hi hj
      exact ⟨u, hu, hr.keep (ρ := ρ) hsame ⟨rfl, fun q => by
        by_cases hq : q = id
        · subst hq; exact .inr (hno.at_ i j)
        · exact .inl (hρA q hq)⟩⟩
  · intro k k' p p' hp hp' hne hc hc'
    rcases lookup_put hp with ⟨rfl, rfl⟩ | ⟨q1, hp2⟩ <;> rcases lookup_put hp' with ⟨rfl, rfl⟩ | ⟨q2, hp2'⟩
    · exact absurd rfl hne
    · simp only [hρ k' q2] at hc'
      simp only [if_true, hρ k' q2]
      have := hs.mem.blk hp2' hc'
      omega
    · simp only [hρ k q1] at hc
      simp only [if_true, hρ k q1]
      have := hs.mem.blk hp2 hc
      omega
    · simp only [hρ k q1] at hc
      simp only [hρ k' q2] at hc'
      simp only [hρ k q1, hρ k' q2]
      exact hs.mem.inj k k' p p' hp2 hp2' hne hc hc'
  · refine hs.mem.treeOf (Nat.le_refl _) (fun k n X hX => ?_) (fun k n X i b hX hi hb' => ?_) (fun k p hp hc => ?_)
    · rcases lookup_put hX with ⟨rfl, rfl⟩ | ⟨hne, hX⟩
      · cases hT
      · exact ⟨X, hX, fun _ _ => rfl, rfl, rfl, rfl⟩
    · obtain ⟨q1, q2, q3, _⟩ := (hs.mem.tree k n X hX i hi).2 b hb'
      exact ⟨hb.block b q2, Nat.lt_of_lt_of_le q2 hb.size, q3⟩
    · rcases lookup_put hp with ⟨rfl, rfl⟩ | ⟨hne, hp⟩
      · refine .inr fun k2 n X i hX hi hb' => ?_
        have := ((hs.mem.tree k2 n X hX i hi).2 _ hb').2.1
        simp at this
      · exact .inl ⟨p, hp, hρ k hne⟩
  · intro t s ht
    refine (hs.env t s ht).keep (ρ := ρ) hsame ⟨rfl, fun q => ?_⟩
    by_cases hq : q = id
    · subst hq
      exact .inr (List.all_eq_true.1 hf.env _ (lookup_mem ht))
    · exact .inl (hρA q hq)
theorem St.new {ρ : Rho} {S : Nat → Prop} {a : Act} {w : World} (hs : St N w0 ρ S σ a w) {id : Nat} (hf : Fr id σ) {cs : Array Value} {e : TypeId} {cap : Nat} {o : AObj} (hT : o.isT = false) (h1 : cs.size = cap * o.sz) (h2 : o.n ≤ cap) (h3 : cap ≤ maxLen)
    (h4 : ∀ i j, i < o.n → j < o.sz → ∃ u, cs[i * o.sz + j]? = some u ∧ R ρ w S (o.f i j) u) (h5 : o.No id) :
    ∃ ρ' : Rho, ρ' id = (w.heap.size, cap) ∧ St N w0 ρ' S (σ.set id o) a (w.alloc (.cells cs e)) :=
  let ⟨ρ', h1', _, _, h4'⟩ := hs.newA hf (e := e) hT h1 h2 h3 h4 h5
  ⟨ρ', h1', h4'⟩
theorem ix_inj {sz a b i j : Nat} (hb : b < sz) (hj : j < sz) (h : a * sz + b = i * sz + j) : a = i ∧ b = j := by
  have h1 : (a * sz + b) / sz = a := by rw [Nat.mul_comm, Nat.mul_add_div (by omega), Nat.div_eq_of_lt hb, Nat.add_zero]
  have h2 : (i * sz + j) / sz = i := by rw [Nat.mul_comm, Nat.mul_add_div (by omega), Nat.div_eq_of_lt hj, Nat.add_zero]
  have h3 : a = i := by rw [← h1, ← h2, h]
  subst h3
  exact ⟨rfl, by omega⟩
/-- The object o' is o with x at (i, j). -/
def AObj.Upd (o o' : AObj) (i j : Nat) (x : AV) : Prop := o'.sz = o.sz ∧ o'.n = o.n ∧ ∀ a b, a < o.n → b < o.sz → (a = i ∧ b = j → o'.f a b = x) ∧ (¬ (a = i ∧ b = j) → o'.f a b = o.f a b)
theorem AObj.upd_cells (l : List AV) (j : Nat) (x : AV) (hj : j < l.length) : (AObj.cells l).Upd (.cells (l.set j x)) 0 j x := by
  refine ⟨by simp [AObj.sz], rfl, fun a b ha hb => ⟨fun h => ?_, fun h => ?_⟩⟩
  · obtain ⟨rfl, rfl⟩ := h
    simp [AObj.f, List.getD_eq_getElem?_getD, hj]
  · have ha : a < 1 := ha
    have : ¬ b = j := fun e => h ⟨by omega, e⟩
    simp only [AObj.f, List.getD_eq_getElem?_getD, List.getElem?_set]
    rw [if_neg (fun e => this e.symm)]
theorem AObj.upd_arr (sz n : Nat) (f : Nat → Nat → AV) (i j : Nat) (x : AV) : (AObj.arr sz n f).Upd (.arr sz n fun a b => if a = i ∧ b = j then x else f a b) i j x :=
  ⟨rfl, rfl, fun a b _ _ => ⟨fun h => by simp only [AObj.f]; rw [if_pos h], fun h => by simp only [AObj.f]; rw [if_neg h]⟩⟩
/-- A store into an own object. -/
theorem St.write {ρ : Rho} {S : Nat → Prop} {a : Act} {w : World} (hs : St N w0 ρ S σ a w) {id i j : Nat} {o o' : AObj} {x : AV} {u : Value} (ho : σ.heap.lookup id = some o) (hi : i < o.n) (hj : j < o.sz) (hu : R ρ w S x u) (hup : o.Upd o' i j x) (hT : o'.isT = false := by rfl) :
    St N w0 ρ S (σ.set id o') a (w.setCell ⟨(ρ id).1, i * o.sz + j, none⟩ u) := by
  obtain ⟨e1, e2, e3⟩ := hup
  have hc0 := hs.mem.pos ho hi
  obtain ⟨cs, e, h1, h2, h3, h4, h5, h6, h7⟩ := hs.mem.obj id o ho hc0
  have hlt := hs.mem.blk ho hc0
  have hblk : ∀ k, k ≠ (ρ id).1 → (w.setCell ⟨(ρ id).1, i * o.sz + j, none⟩ u).heap[k]? = w.heap[k]? := fun k hk => Below.heap_setCell _ _ _ _ hk
  have hown : (w.setCell ⟨(ρ id).1, i * o.sz + j, none⟩ u).heap[(ρ id).1]? = some (.cells (cs.setIfInBounds (i * o.sz + j) u) e (0, 0)) := by
    simp [World.setCell, Array.getElem?_modify, h1]
  have hsame : Same S w S (w.setCell ⟨(ρ id).1, i * o.sz + j, none⟩ u) := ⟨fun _ h => h, fun b hb => hblk b fun e => h6 (e ▸ hb)⟩
  have hsz : (w.setCell ⟨(ρ id).1, i * o.sz + j, none⟩ u).heap.size = w.heap.size := by simp [World.setCell]
  refine ⟨hs.size, hs.defers, hs.below.step ((Below.refl _ _).setCell h5 _) hsame, ⟨hs.mem.base, by rw [hsz]; exact hs.mem.low, fun b hb => by rw [hsz]; exact hs.mem.lt b hb, ?_, ?_, ?_, ?_⟩, fun t s ht => (hs.env t s ht).keep hsame (Rn.refl _ _)⟩
  · intro k p hp
    rcases lookup_put hp with ⟨rfl, rfl⟩ | ⟨hne, hp⟩
    · rw [e2]; exact hs.mem.cap k o ho
    · exact hs.mem.cap k p hp
  · intro k p hp hc
    rcases lookup_put hp with ⟨rfl, rfl⟩ | ⟨hne, hp⟩
    · refine ⟨_, e, hown, by rw [Array.size_setIfInBounds, e1]; exact h2, by rw [e2]; exact h3, h4, h5, h6, fun a b ha hb => ?_⟩
      rw [e2] at ha
      rw [e1] at hb ⊢
      obtain ⟨v, hv, hr⟩ := h7 a b ha hb
      obtain ⟨q1, q2⟩ := e3 a b ha hb
      by_cases hab : a = i ∧ b = j
      · rw [q1 hab]
        obtain ⟨rfl, rfl⟩ := hab
        refine ⟨u, ?_, hu.keep hsame (Rn.refl _ _)⟩
        rw [Array.getElem?_setIfInBounds, if_pos rfl, if_pos (Array.getElem?_eq_some_iff.1 hv).1]
      · rw [q2 hab]
        refine ⟨v, ?_, hr.keep hsame (Rn.refl _ _)⟩
        rw [Array.getElem?_setIfInBounds, if_neg (fun e => hab (ix_inj hb hj e.symm))]
        exact hv
    · obtain ⟨cs', e', g1, g2, g3, g4, g5, g6, g7⟩ := hs.mem.obj k p hp hc
      refine ⟨cs', e', by rw [hblk _ (hs.mem.inj k id p o hp ho hne hc hc0)]; exact g1, g2, g3, g4, g5, g6, fun a b ha hb => ?_⟩
      obtain ⟨v, hv, hr⟩ := g7 a b ha hb
      exact ⟨v, hv, hr.keep hsame (Rn.refl _ _)⟩
  · have conv : ∀ {k p}, (σ.set id o').heap.lookup k = some p → ∃ p', σ.heap.lookup k = some p' := fun {k p} hp => by
      rcases lookup_put hp with ⟨rfl, rfl⟩ | ⟨_, hp⟩
      · exact ⟨o, ho⟩
      · exact ⟨p, hp⟩
    intro k k' p p' hp hp' hne hc hc'
    obtain ⟨q, hq⟩ := conv hp
    obtain ⟨q', hq'⟩ := conv hp'
    exact hs.mem.inj k k' q q' hq hq' hne hc hc'
  · refine hs.mem.treeOf (Nat.le_refl _) (fun k n X hX => ?_) (fun k n X i b hX hi hb => ?_) (fun k p hp hc => ?_)
    · rcases lookup_put hX with ⟨rfl, rfl⟩ | ⟨hne, hX⟩
      · cases hT
      · exact ⟨X, hX, fun _ _ => rfl, rfl, rfl, rfl⟩
    · obtain ⟨q1, q2, q3, q4, _⟩ := (hs.mem.tree k n X hX i hi).2 b hb
      exact ⟨hblk b fun e => q4 id o ho hc0 e.symm, by rw [hsz]; exact q2, q3⟩
    · rcases lookup_put hp with ⟨rfl, rfl⟩ | ⟨_, hp⟩
      · exact .inl ⟨o, ho, rfl⟩
      · exact .inl ⟨p, hp, rfl⟩
/-- Values of one cell. -/
def AV.Cell : AV → Prop
  | .con v => v.cells = #[v] ∧ (∀ c, v ≠ .agg c) ∧ (∀ c, v ≠ .tuple c)
  | .frs x => (match x with | .lst _ _ _ => True | .ref _ _ => True | _ => False)
  | _ => True
theorem AV.Cell.cells {ρ : Rho} {w : World} {S : Nat → Prop} {x : AV} {v : Value} (h : x.Cell) (hr : R ρ w S x v) : v.cells = #[v] ∧ (∀ c, v ≠ .agg c) ∧ (∀ c, v ≠ .tuple c) := by
  cases x with
  | int k n => rw [show v = _ from hr]; exact ⟨rfl, (fun _ e => by cases e), (fun _ e => by cases e)⟩
  | bool b => rw [show v = _ from hr]; exact ⟨rfl, (fun _ e => by cases e), (fun _ e => by cases e)⟩
  | str s => rw [hr.1]; exact ⟨rfl, (fun _ e => by cases e), (fun _ e => by cases e)⟩
  | con c => rw [show v = c from hr]; exact h
  | lst sz n f => obtain ⟨A, c, e, _⟩ := hr; rw [e]; exact ⟨rfl, (fun _ e => by cases e), (fun _ e => by cases e)⟩
  | ref sz f => obtain ⟨b, off, e, _⟩ := hr; rw [e]; exact ⟨rfl, (fun _ e => by cases e), (fun _ e => by cases e)⟩
  | ptr id sz i j => rw [show v = _ from hr]; exact ⟨rfl, (fun _ e => by cases e), (fun _ e => by cases e)⟩
  | own id sz n => obtain ⟨A, e, _⟩ := hr; rw [e]; exact ⟨rfl, (fun _ e => by cases e), (fun _ e => by cases e)⟩
  | frs x =>
    cases x with
    | lst sz n f => obtain ⟨A, c, e, _⟩ := hr; rw [e]; exact ⟨rfl, (fun _ e => by cases e), (fun _ e => by cases e)⟩
    | ref sz f => obtain ⟨b, off, e, _⟩ := hr; rw [e]; exact ⟨rfl, (fun _ e => by cases e), (fun _ e => by cases e)⟩
    | _ => exact h.elim
  | tre id i => obtain ⟨_, _, A, n, c, e⟩ := hr; rw [e]; exact ⟨rfl, (fun _ e => by cases e), (fun _ e => by cases e)⟩
  | fn g m caps => obtain ⟨vs, e, _⟩ := hr; rw [e]; exact ⟨rfl, (fun _ e => by cases e), (fun _ e => by cases e)⟩
/-- The cells of a slot's value. -/
def SV.cs : SV → List AV
  | .one x => [x]
  | .agg l => l
  | _ => []
def SV.Cells : SV → Prop
  | .one x => x.Cell
  | .agg l => ∀ x ∈ l, x.Cell
  | _ => False
theorem SV.Cells.rl {ρ : Rho} {w : World} {S : Nat → Prop} {s : SV} {v : Value} (h : s.Cells) (hr : RS ρ w S s v) : RL ρ w S s.cs v.cells.toList := by
  cases s with
  | one x => rw [(h.cells hr).1]; exact ⟨v, [], rfl, hr, rfl⟩
  | agg l => obtain ⟨us, e, hl⟩ := hr; rw [e]; exact hl
  | tup2 _ _ => exact h.elim
  | tup3 _ _ _ => exact h.elim
  | gd _ _ => exact h.elim
variable {ops : Array Oper} {rest : List Oper} {o : Oper} {Q : Sig → Prop}
theorem St.newVar {ρ : Rho} {S : Nat → Prop} {a : Act} {w : World} (hs : St N w0 ρ S σ a w) {id : Nat} (hf : Fr id σ) {l : List AV} {us : Array Value} {e : TypeId} (hl : RL ρ w S l us.toList) (hn : l.all (AV.no id) = true) :
    ∃ ρ' : Rho, ρ' id = (w.heap.size, 1) ∧ St N w0 ρ' S (σ.set id (.cells l)) a (w.alloc (.cells us e)) := by
  have hlen : us.size = l.length := by have := hl.len; simpa using this
  refine hs.new hf (o := .cells l) (cap := 1) rfl (by simpa [AObj.sz] using hlen) (Nat.le_refl _) (by unfold maxLen; omega) (fun i j hi hj => ?_) hn
  have hi0 : i = 0 := by have : i < 1 := hi; omega
  subst hi0
  have hj' : j < l.length := hj
  obtain ⟨u, hu, hr⟩ := hl.get (j := j) (x := l[j]) (List.getElem?_eq_getElem hj')
  refine ⟨u, by simpa using hu, ?_⟩
  show R ρ w S (l.getD j (.con undef)) u
  rw [List.getD_eq_getElem?_getD, List.getElem?_eq_getElem hj']
  exact hr
theorem ARun.box {t d id : Nat} {x : Operand} {s : SV} (ho : o.op = .box t x) (hx : Kn σ x s) (hc : s.Cells) (hf : Fr id σ) (hn : s.cs.all (AV.no id) = true) (hg : o.guard = none) (hd : o.dst = some d) (hN : d < N)
    (h : ARun P N w0 ops Q rest ((σ.set id (.cells s.cs)).put d (.one (.ptr id s.cs.length 0 0)))) : ARun P N w0 ops Q (o :: rest) σ := by
  intro ρ S a w Q' hQ hs
  refine wpList_plain hg fun K hK => ?_
  obtain ⟨ρ', e1, hs'⟩ := hs.newVar (e := t) hf (hc.rl (hx.sound hs)) hn
  have hrun : (execOp a.eval o).run P w = .ok (.value (.pointer (some ⟨w.heap.size, 0, none⟩))) (w.alloc (.cells (a.eval x).cells t)) := by
    generalize a.eval = ev
    simp [execOp, ho, Instr.box, newVar, newRow, newObj, go_sem]
    rfl
  unfold Oper.wp
  rw [hrun]
  simp only [Oper.upon, hd]
  refine hK _ _ (h ρ' S _ _ Q' hQ (hs'.put hN ?_))
  show Value.pointer _ = .pointer (some ⟨(ρ' id).1, 0 * _ + 0, none⟩)
  rw [e1]; simp
theorem ARun.alloc {t d id : Nat} {z : Value} {l : List AV} (ho : o.op = .alloc t) (hz : (P.info? t).bind (·.zero) = some z) (hl : ∀ ρ w S, RL ρ w S l z.cells.toList) (hf : Fr id σ) (hn : l.all (AV.no id) = true) (hg : o.guard = none) (hd : o.dst = some d) (hN : d < N)
    (h : ARun P N w0 ops Q rest ((σ.set id (.cells l)).put d (.one (.ptr id l.length 0 0)))) : ARun P N w0 ops Q (o :: rest) σ := by
  intro ρ S a w Q' hQ hs
  refine wpList_plain hg fun K hK => ?_
  obtain ⟨ρ', e1, hs'⟩ := hs.newVar (e := t) hf (us := z.cells) (hl ρ w S) hn
  have hrun : (execOp a.eval o).run P w = .ok (.value (.pointer (some ⟨w.heap.size, 0, none⟩))) (w.alloc (.cells z.cells t)) := by
    generalize a.eval = ev
    cases hi : P.info? t with
    | none => rw [hi] at hz; cases hz
    | some inf =>
      rw [hi] at hz
      have hz' : inf.zero = some z := hz
      simp [execOp, ho, Instr.alloc, newVar, newRow, newObj, go_sem, zeroValue, typeInfo, hi, hz']
      rfl
  unfold Oper.wp
  rw [hrun]
  simp only [Oper.upon, hd]
  refine hK _ _ (h ρ' S _ _ Q' hQ (hs'.put hN ?_))
  show Value.pointer _ = .pointer (some ⟨(ρ' id).1, 0 * _ + 0, none⟩)
  rw [e1]; simp
def setL (l : List AV) : Nat → List AV → List AV
  | _, [] => l
  | j, x :: m => setL (l.set j x) (j + 1) m
theorem setL_len : ∀ (m : List AV) (l : List AV) (j : Nat), (setL l j m).length = l.length
  | [], _, _ => rfl
  | x :: m, l, j => by rw [setL, setL_len m]; simp
/-- The cells of a slot's value are stored one behind the other. -/
theorem St.writes {a : Act} {S : Nat → Prop} {ρ : Rho} {id : Nat} : ∀ {m : List AV} {us : List Value} {w : World} {σ : Sig} {l : List AV} {j i : Nat} {ad : Addr}, St N w0 ρ S σ a w → σ.heap.lookup id = some (.cells l) → j + m.length ≤ l.length → RL ρ w S m us → (∀ u ∈ us, (∀ c, u ≠ .agg c) ∧ (∀ c, u ≠ .tuple c)) →
    ad.add i = ⟨(ρ id).1, j, none⟩ → ∃ w', (storeCells ad us i).run P w = .ok () w' ∧ ∃ σ', St N w0 ρ S σ' a w' ∧ σ'.env = σ.env ∧ ∀ k, σ'.heap.lookup k = ((id, AObj.cells (setL l j m)) :: σ.heap).lookup k
  | [], us, w, σ, l, j, i, ad, hs, ho, _, hr, _, _ => by
    rw [show us = [] from hr]
    refine ⟨w, by simp [storeCells, go_sem], σ, hs, rfl, fun k => ?_⟩
    simp only [List.lookup_cons, setL]
    by_cases e : k = id
    · subst e; simp [ho]
    · rw [show (k == id) = false by simpa using e]
  | x :: m, us, w, σ, l, j, i, ad, hs, ho, hlen, hr, hcell, had => by
    obtain ⟨u, us, rfl, h1, h2⟩ := hr
    simp only [List.length_cons] at hlen
    have hj : j < l.length := by omega
    have hw := hs.write (i := 0) (j := j) ho (by simp [AObj.n]) hj h1 (AObj.upd_cells l j x hj)
    obtain ⟨v, hv, _⟩ := hs.cell ho (i := 0) (j := j) (by simp [AObj.n]) hj
    obtain ⟨cs, e, g1, g2, g3, g4, g5, g6, g7⟩ := hs.mem.obj id _ ho (hs.mem.pos ho (i := 0) (by simp [AObj.n]))
    have hfr : w.frozen? ⟨(ρ id).1, j, none⟩ = false := by
      simp [World.frozen?, g1]
    simp only [Nat.zero_mul, Nat.zero_add] at hv hw
    have hsame : Same S w S (w.setCell ⟨(ρ id).1, j, none⟩ u) := ⟨fun _ h => h, fun b hb => Below.heap_setCell _ _ _ _ fun e => g6 (by have e' : b = (ρ id).1 := e; rw [← e']; exact hb)⟩
    have had2 : ad.add (i + 1) = ⟨(ρ id).1, j + 1, none⟩ := by
      rw [← add_add, had]; rfl
    obtain ⟨w', hrun, σ', hs', he, hh⟩ := St.writes (i := i + 1) (ad := ad) (l := l.set j x) (j := j + 1) (m := m) (us := us) hw (by simp [Sig.set]) (by simp; omega) (h2.keep hsame (Rn.refl _ _)) (fun u hu => hcell u (List.mem_cons_of_mem _ hu)) had2
    refine ⟨w', ?_, σ', hs', he, fun k => ?_⟩
    · obtain ⟨c1, c2⟩ := hcell u (List.mem_cons_self ..)
      rw [← hrun]
      simp only [storeCells, store, Sem.run_bind, had]
      cases u <;> first | exact absurd rfl (c1 _) | exact absurd rfl (c2 _) | simp [Sem.run, hv, hfr, Result.andThen]
    · rw [hh k, setL]
      simp only [List.lookup_cons, Sig.set]
      cases k == id <;> rfl
end
section
variable {P : Program} {N : Nat} {w0 : Start} {σ : Sig} {ops : Array Oper} {rest : List Oper} {o : Oper} {Q : Sig → Prop}
def sizeB (P : Program) (t n : Nat) : Bool := match P.info? t with | some i => i.size == n | none => false
theorem sizeB_run {t n : Nat} (h : sizeB P t n = true) (w : World) : (sizeOf t).run P w = .ok n w := by
  unfold sizeB at h
  split at h
  · rename_i i hi
    rw [run_sizeOf' hi]; simp at h; rw [h]
  · cases h
theorem setL_one (l : List AV) (j : Nat) (x : AV) : setL l j [x] = l.set j x := rfl
theorem SV.Cells.each {ρ : Rho} {w : World} {S : Nat → Prop} {s : SV} {v : Value} (h : s.Cells) (hr : RS ρ w S s v) : ∀ u ∈ v.cells.toList, (∀ c, u ≠ .agg c) ∧ (∀ c, u ≠ .tuple c) := by
  have hl := h.rl hr
  have hc : ∀ x ∈ s.cs, x.Cell := by
    cases s with
    | one x => intro y hy; rw [List.mem_singleton.1 hy]; exact h
    | agg l => exact h
    | tup2 _ _ => exact h.elim
    | tup3 _ _ _ => exact h.elim
    | gd _ _ => exact h.elim
  intro u hu
  obtain ⟨j, hj, rfl⟩ := List.mem_iff_getElem.1 hu
  have hj' : j < s.cs.length := by rw [← hl.len]; exact hj
  obtain ⟨u', hu', hr'⟩ := hl.get (List.getElem?_eq_getElem hj')
  rw [List.getElem?_eq_getElem hj] at hu'
  obtain rfl := Option.some.inj hu'
  exact ((hc _ (List.getElem_mem hj')).cells hr').2
/-- A store into a variable of the walk's own (the whole of it, or a field). -/
theorem ARun.store {t id sz j : Nat} {p x : Operand} {s : SV} {l : List AV} (ho : o.op = .store t p x) (hp : Kn σ p (.one (.ptr id sz 0 j))) (hx : Kn σ x s) (hc : s.Cells) (hob : σ.heap.lookup id = some (.cells l)) (hlen : j + s.cs.length ≤ l.length) (hsz : sizeB P t s.cs.length = true)
    (hg : o.guard = none) (hd : o.dst = none) (h : ARun P N w0 ops Q rest (σ.set id (.cells (setL l j s.cs)))) : ARun P N w0 ops Q (o :: rest) σ := by
  intro ρ S a w Q' hQ hs
  refine wpList_plain hg fun K hK => ?_
  have e1 : a.eval p = .pointer (some ⟨(ρ id).1, 0 * sz + j, none⟩) := hp.sound hs
  have hrs := hx.sound hs
  have hl := hc.rl hrs
  obtain ⟨w', hrun, σ', hs', he, hh⟩ := hs.writes (P := P) (i := 0) (ad := ⟨(ρ id).1, 0 * sz + j, none⟩) hob hlen hl (hc.each hrs) (by simp [Addr.add])
  have hvs : (a.eval x).cells.size = s.cs.length := by have := hl.len; simpa using this
  have hr2 : (execOp a.eval o).run P w = .ok .skip w' := by
    generalize a.eval = ev at e1 hrun hvs
    simp only [execOp, ho, e1, Instr.storeAt, Instr.sureAddr, storeVar, Sem.run_bind, Sem.run_pure, Result.andThen_ok, sizeB_run hsz, hvs, ne_eq, not_true, if_false, hrun]
  unfold Oper.wp
  rw [hr2]
  simp only [Oper.upon, hd, Act.put]
  refine hK _ _ (h ρ S _ _ Q' hQ ⟨hs'.size, hs'.defers, hs'.below, ?_, fun t s ht => hs'.env t s (by rw [he]; exact ht)⟩)
  have hm := hs'.mem
  have hget : ∀ k p, (σ.set id (AObj.cells (setL l j s.cs))).heap.lookup k = some p → σ'.heap.lookup k = some p := fun k p hk => by rw [hh k]; exact hk
  exact ⟨hm.base, hm.low, hm.lt, fun k p hk => hm.cap k p (hget k p hk), fun k p hk => hm.obj k p (hget k p hk), fun k k' p p' hk hk' => hm.inj k k' p p' (hget k p hk) (hget k' p' hk'), hm.treeOf (Nat.le_refl _) (fun k n X hX => ⟨X, hget k _ hX, fun _ _ => rfl, rfl, rfl, rfl⟩) (fun k n X i b hX hi hb => ⟨rfl, (((hm.tree k n X hX i hi).2) b hb).2.1, (((hm.tree k n X hX i hi).2) b hb).2.2.1⟩) (fun k p hk _ => .inl ⟨p, hget k p hk, rfl⟩)⟩
/-- A store into a row of the walk's own. -/
theorem ARun.storeArr {t id sz n i j : Nat} {p x : Operand} {y : AV} {f : Nat → Nat → AV} (ho : o.op = .store t p x) (hp : Kn σ p (.one (.ptr id sz i j))) (hx : Kn σ x (.one y)) (hc : y.Cell) (hob : σ.heap.lookup id = some (.arr sz n f)) (hi : i < n) (hj : j < sz) (hsz : sizeB P t 1 = true)
    (hg : o.guard = none) (hd : o.dst = none) (h : ARun P N w0 ops Q rest (σ.set id (.arr sz n fun a b => if a = i ∧ b = j then y else f a b))) : ARun P N w0 ops Q (o :: rest) σ := by
  intro ρ S a w Q' hQ hs
  refine wpList_plain hg fun K hK => ?_
  have e1 : a.eval p = .pointer (some ⟨(ρ id).1, i * sz + j, none⟩) := hp.sound hs
  have hrs : R ρ w S y (a.eval x) := hx.sound hs
  obtain ⟨c0, c1, c2⟩ := hc.cells hrs
  have hs' := hs.write (i := i) (j := j) hob hi hj hrs (AObj.upd_arr sz n f i j y)
  obtain ⟨v, hv, _⟩ := hs.cell hob (i := i) (j := j) hi hj
  obtain ⟨cs, e, g1, _⟩ := hs.mem.obj id _ hob (hs.mem.pos hob (i := i) hi)
  have hfr : w.frozen? ⟨(ρ id).1, i * sz + j, none⟩ = false := by simp [World.frozen?, g1]
  have hv' : w.cell? ⟨(ρ id).1, i * sz + j, none⟩ = some v := hv
  have hr2 : (execOp a.eval o).run P w = .ok .skip (w.setCell ⟨(ρ id).1, i * sz + j, none⟩ (a.eval x)) := by
    generalize a.eval = ev at e1 c0 c1 c2 ⊢
    simp only [execOp, ho, e1, Instr.storeAt, Instr.sureAddr, storeVar, Sem.run_bind, Sem.run_pure, Result.andThen_ok, sizeB_run hsz, c0]
    generalize ev x = u at c0 c1 c2 ⊢
    simp only [storeCells, Go.store, Sem.run_bind, Addr.add]
    cases u <;> first | exact absurd rfl (c1 _) | exact absurd rfl (c2 _) | simp [Sem.run, hv', hfr, Result.andThen]
  unfold Oper.wp
  rw [hr2]
  simp only [Oper.upon, hd, Act.put]
  exact hK _ _ (h ρ S _ _ Q' hQ hs')
end
end Go.Proofs.Ytmfkmifkkplidaa
