/-
  A calculus for walks, part 21: regions that draw their order, make objects of their own, and end in a fixed order.
-/
import Derived.Test.YtmfkmifkkplidaaVw
namespace Go.Proofs.Ytmfkmifkkplidaa
open Go.ChangeShapes Go.WideShapes Go.ChangeAt Go.RowKit Go.BigFrame Go.Deep
set_option linter.unusedVariables false

set_option linter.unusedSimpArgs false
/-- A row of one entry, or none. -/
def oH : Option (Nat × AObj) → Heap
  | none => []
  | some p => [p]
/-- An operation that yields s, and may make one object. -/
structure OpStepC (P : Program) (ops : Array Oper) (o : Oper) (σ : Sig) (s : SV) (C : Option (Nat × AObj)) : Prop where
  run : ∀ (N : Nat) (w0 : Start) (ρ : Rho) (S : Nat → Prop) (a : Act) (w : World) (K : Act → World → Prop) (Q' : Exit → Act → World → Prop), St N w0 ρ S σ a w →
    (∀ v ρ' S' w', Same S w S' w' → Below w.heap.size w w' → (∀ b, S' b → S b ∨ w.heap.size ≤ b) → ρ'.base = ρ.base → (∀ id, (∀ p, C = some p → p.1 ≠ id) → Rho.At ρ ρ' id) → (∀ p, C = some p → (ρ' p.1).2 ≠ 0 → w.heap.size ≤ (ρ' p.1).1) →
      (∀ p n X i b, C = some p → p.2 = .trees n X → i < n → ρ'.tb p.1 i b → w.heap.size ≤ b) → St N w0 ρ' S' ⟨σ.env, oH C ++ σ.heap⟩ a w' → RS ρ' w' S' s v → K (a.put o.dst v) w') →
    if Region.wanted o (yielded ops a.tmps) then o.wp P a w K Q' else K (a.put o.dst undef) w
theorem OpStep.toC {P : Program} {ops : Array Oper} {o : Oper} {σ : Sig} {s : SV} (h : OpStep P ops o σ s) : OpStepC P ops o σ s none := by
  constructor
  intro N w0 ρ S a w K Q' hs hK
  exact h.run N w0 ρ S a w K Q' hs fun v S' w' h1 h2 h3 h4 h5 => hK v ρ S' w' h1 h2 h3 rfl (fun _ _ => .refl _ _) (fun p h => by cases h) (fun p _ _ _ _ h => by cases h) h4 h5
/-- What is new in s comes out of what is looked at. -/
def mentB (ids : List Nat) (e : Env) (s : SV) : Bool := ids.all fun id => s.no id || e.any fun p => !p.2.no id
def AObj.Scl : AObj → Prop
  | .trees _ _ => True
  | o => ∀ i j, (o.f i j).scl = true
theorem scl_no {x : AV} (h : x.scl = true) (id : Nat) : x.no id = true := by cases x <;> first | rfl | cases h
theorem scl_r {ρ ρ' : Rho} {w w' : World} {S S' : Nat → Prop} {x : AV} {v : Value} (h : x.scl = true) (hr : R ρ w S x v) : R ρ' w' S' x v := by
  cases x <;> first | exact hr | cases h
inductive ADsC (P : Program) (N : Nat) (ops : Array Oper) (H0 : Heap) : List Oper → Sig → Sig → Prop
  | nil {σ : Sig} : ADsC P N ops H0 [] σ σ
  | cons {o : Oper} {rest : List Oper} {σ τ : Sig} {d : Nat} {s : SV} {C : Option (Nat × AObj)} : o.dst = some d → d < N → OpStepC P ops o (Sig.only ⟨σ.env, H0⟩ (o.looksAt ops)) s C → (∀ p, C = some p → Fr p.1 σ ∧ p.2.Scl) →
      mentB (σ.heap.map (·.1)) (σ.env.filter fun p => (o.looksAt ops).contains p.1) s = true → ADsC P N ops H0 rest ⟨(d, s) :: σ.env, oH C ++ σ.heap⟩ τ → ADsC P N ops H0 (o :: rest) σ τ
def ordC (md : Region.Mode) (ops : Array Oper) (m : Nat) : Bool :=
  (List.range ops.size).all (fun i => match ops[i]? with
    | none => true
    | some oi => oi.after.all fun e => !Region.binds md e || decide (e.on < i)) &&
  ((List.range m).all (fun i => match ops[i]? with
    | none => true
    | some oi => (List.range m).all fun j => match ops[j]? with
        | none => true
        | some oj => (i == j || oi.dst != oj.dst) && (match oj.dst with
          | none => true
          | some d => !(oi.looksAt ops).contains d || i == j || (if j < i then oi.after.any (fun e => Region.binds md e && e.on == j) else oj.after.any (fun e => Region.binds md e && e.on == i)))) &&
  (List.range ops.size).all (fun k => Nat.blt k m || match ops[k]? with
    | none => true
    | some o => (List.range k).all fun j => o.after.any fun e => Region.binds md e && e.on == j))
theorem ordC_after {md : Region.Mode} {ops : Array Oper} {m : Nat} (h : ordC md ops m = true) {i : Nat} {o : Oper} (hi : ops[i]? = some o) : ∀ e ∈ o.after, Region.binds md e = true → e.on < i := by
  have hlt : i < ops.size := (Array.getElem?_eq_some_iff.1 hi).1
  unfold ordC at h
  rw [Bool.and_eq_true] at h
  have h1 := List.all_eq_true.1 h.1 i (List.mem_range.2 hlt)
  simp only [hi] at h1
  intro e he hb
  have := Array.all_eq_true_iff_forall_mem.1 h1 e he
  rw [hb] at this
  simpa using this
theorem ordC_pair {md : Region.Mode} {ops : Array Oper} {m : Nat} (h : ordC md ops m = true) {i j : Nat} {oi oj : Oper} (him : i < m) (hjm : j < m) (hi : ops[i]? = some oi) (hj : ops[j]? = some oj) :
    (i ≠ j → oi.dst ≠ oj.dst) ∧ ∀ d, oj.dst = some d → d ∈ oi.looksAt ops → i = j ∨ (j < i ∧ ∃ e ∈ oi.after, Region.binds md e = true ∧ e.on = j) ∨ (¬ j < i ∧ ∃ e ∈ oj.after, Region.binds md e = true ∧ e.on = i) := by
  unfold ordC at h
  rw [Bool.and_eq_true, Bool.and_eq_true] at h
  have h1 := List.all_eq_true.1 h.2.1 i (List.mem_range.2 him)
  simp only [hi] at h1
  have h2 := List.all_eq_true.1 h1 j (List.mem_range.2 hjm)
  simp only [hj, Bool.and_eq_true] at h2
  obtain ⟨h3, h4⟩ := h2
  refine ⟨fun hne e => ?_, fun d hd hm => ?_⟩
  · simp [hne, e] at h3
  · simp only [hd] at h4
    by_cases hij : i = j
    · exact .inl hij
    · right
      have hc : (oi.looksAt ops).contains d = true := by simpa using hm
      rw [hc] at h4
      simp only [Bool.not_true, Bool.false_or, show (i == j) = false by simpa using hij] at h4
      by_cases hlt : j < i
      · left
        rw [if_pos hlt] at h4
        obtain ⟨e, he, hb⟩ := Array.any_eq_true'.1 h4
        rw [Bool.and_eq_true, beq_iff_eq] at hb
        exact ⟨hlt, e, he, hb.1, hb.2⟩
      · right
        rw [if_neg hlt] at h4
        obtain ⟨e, he, hb⟩ := Array.any_eq_true'.1 h4
        rw [Bool.and_eq_true, beq_iff_eq] at hb
        exact ⟨hlt, e, he, hb.1, hb.2⟩
theorem ordC_tail {md : Region.Mode} {ops : Array Oper} {m : Nat} (h : ordC md ops m = true) {k j : Nat} {o : Oper} (hk : ops[k]? = some o) (hm : m ≤ k) (hj : j < k) : ∃ e ∈ o.after, Region.binds md e = true ∧ e.on = j := by
  have hlt : k < ops.size := (Array.getElem?_eq_some_iff.1 hk).1
  unfold ordC at h
  rw [Bool.and_eq_true, Bool.and_eq_true] at h
  have h1 := List.all_eq_true.1 h.2.2 k (List.mem_range.2 hlt)
  simp only [hk, show Nat.blt k m = false by rw [Bool.eq_false_iff, ne_eq, Nat.blt_eq]; omega, Bool.false_or] at h1
  have h2 := List.all_eq_true.1 h1 j (List.mem_range.2 hj)
  obtain ⟨e, he, hb⟩ := Array.any_eq_true'.1 h2
  rw [Bool.and_eq_true, beq_iff_eq] at hb
  exact ⟨e, he, hb.1, hb.2⟩
section
variable {P : Program} {N : Nat} {w0 : Start} {ops : Array Oper} {md : Region.Mode} {H0 : Heap}
theorem oH_lookup {C : Option (Nat × AObj)} {H : Heap} {id : Nat} {o : AObj} (h : (oH C ++ H).lookup id = some o) : C = some (id, o) ∨ ((∀ p, C = some p → p.1 ≠ id) ∧ H.lookup id = some o) := by
  cases C with
  | none => exact .inr ⟨(fun p h => by cases h), h⟩
  | some p =>
    obtain ⟨k, x⟩ := p
    rcases lookup_put (show ((k, x) :: H).lookup id = some o from h) with ⟨rfl, rfl⟩ | ⟨hne, h⟩
    · exact .inl rfl
    · refine .inr ⟨fun p hp => ?_, h⟩
      obtain rfl := Option.some.inj hp
      exact fun e => hne e.symm
theorem oH_new {p : Nat × AObj} {H : Heap} : (oH (some p) ++ H).lookup p.1 = some p.2 := by obtain ⟨a, b⟩ := p; simp [oH]
theorem oH_old {C : Option (Nat × AObj)} {H : Heap} {id : Nat} (hC : ∀ p, C = some p → p.1 ≠ id) : (oH C ++ H).lookup id = H.lookup id := by
  cases C with
  | none => rfl
  | some p =>
    show (p :: H).lookup id = _
    rw [List.lookup_cons, show (id == p.1) = false by simpa using fun e : id = p.1 => hC p rfl e.symm]
/-- The walk laid out. -/
theorem ADsC.lay {l : List Oper} {σ τ : Sig} (h : ADsC P N ops H0 l σ τ) : ∃ (d : Nat → Nat) (s : Nat → SV) (e : Nat → Env) (C : Nat → Option (Nat × AObj)) (Hs : Nat → Heap), e 0 = σ.env ∧ Hs 0 = σ.heap ∧ τ = ⟨e l.length, Hs l.length⟩ ∧
    ∀ k o, l[k]? = some o → o.dst = some (d k) ∧ d k < N ∧ e (k + 1) = (d k, s k) :: e k ∧ Hs (k + 1) = oH (C k) ++ Hs k ∧ OpStepC P ops o (Sig.only ⟨e k, H0⟩ (o.looksAt ops)) (s k) (C k) ∧ (∀ p, C k = some p → Fr p.1 ⟨e k, Hs k⟩ ∧ p.2.Scl) ∧
      mentB ((Hs k).map (·.1)) ((e k).filter fun p => (o.looksAt ops).contains p.1) (s k) = true := by
  induction h with
  | @nil σ => exact ⟨fun _ => 0, fun _ => .one (.con undef), fun _ => σ.env, fun _ => none, fun _ => σ.heap, rfl, rfl, rfl, fun k o hk => by simp at hk⟩
  | @cons o rest σ τ d0 s0 C0 hd hN hs hC hm _ ih =>
    obtain ⟨d, s, e, C, Hs, h1, h2, h3, h4⟩ := ih
    refine ⟨fun k => if k = 0 then d0 else d (k - 1), fun k => if k = 0 then s0 else s (k - 1), fun k => if k = 0 then σ.env else e (k - 1), fun k => if k = 0 then C0 else C (k - 1), fun k => if k = 0 then σ.heap else Hs (k - 1), rfl, rfl, ?_, fun k o' hk => ?_⟩
    · rw [h3]; simp
    · cases k with
      | zero =>
        simp at hk
        subst hk
        exact ⟨by simpa using hd, by simpa using hN, by simp [h1], by simp [h2], by simpa using hs, by simpa using hC, by simpa using hm⟩
      | succ k =>
        obtain ⟨g1, g2, g3, g4, g5, g6, g7⟩ := h4 k o' (by simpa using hk)
        exact ⟨by simpa using g1, by simpa using g2, by simpa using g3, by simpa using g4, by simpa using g5, by simpa using g6, by simpa using g7⟩
/-- An object that an operation made joins the others. -/
theorem St.join {ρ ρ' : Rho} {S S' : Nat → Prop} {a : Act} {w w' : World} {C : Option (Nat × AObj)} {H H1 : Heap} (hs : St N w0 ρ S ⟨[], H⟩ a w) (hb : Below w.heap.size w w') (hS : ∀ b, S' b → S b ∨ w.heap.size ≤ b) (hsame : Same S w S' w') (hbase : ρ'.base = ρ.base)
    (hat : ∀ id, (∀ p, C = some p → p.1 ≠ id) → Rho.At ρ ρ' id) (hnew : ∀ p, C = some p → (ρ' p.1).2 ≠ 0 → w.heap.size ≤ (ρ' p.1).1) (hnewT : ∀ p n X i b, C = some p → p.2 = .trees n X → i < n → ρ'.tb p.1 i b → w.heap.size ≤ b)
    (h1 : St N w0 ρ' S' ⟨[], oH C ++ H1⟩ a w') (hno : ∀ p, C = some p → ∀ id o, H.lookup id = some o → id ≠ p.1 ∧ o.No p.1) : St N w0 ρ' S' ⟨[], oH C ++ H⟩ a w' := by
  have hC1 : ∀ {id o}, C = some (id, o) → (oH C ++ H1).lookup id = some o := fun {id o} h => by rw [h]; simp [oH]
  have key : ∀ {id o}, H.lookup id = some o → Rho.At ρ ρ' id ∧ ∀ i j u, R ρ w S (o.f i j) u → R ρ' w' S' (o.f i j) u := fun {id o} ho => by
    refine ⟨hat id fun p hp e => (hno p hp id o ho).1 e.symm, fun i j u hr => hr.keep hsame ⟨hbase, fun q => ?_⟩⟩
    by_cases hq : ∀ p, C = some p → p.1 ≠ q
    · exact .inl (hat q hq)
    · right
      simp only [Classical.not_forall, Classical.not_not] at hq
      obtain ⟨p, hp, rfl⟩ := hq
      exact (hno p hp id o ho).2.at_ i j
  refine ⟨hs.size, hs.defers, h1.below, ⟨h1.mem.base, h1.mem.low, h1.mem.lt, ?_, ?_, ?_, ?_⟩, fun t s ht => by simp at ht⟩
  · intro id o ho
    rcases oH_lookup ho with h | ⟨_, h⟩
    · exact h1.mem.cap id o (hC1 h)
    · rw [(key h).1.m]; exact hs.mem.cap id o h
  · intro id o ho hc
    rcases oH_lookup ho with h | ⟨_, h⟩
    · exact h1.mem.obj id o (hC1 h) hc
    · obtain ⟨k1, k2⟩ := key h
      rw [k1.m] at hc ⊢
      have hlt := hs.mem.blk h hc
      obtain ⟨cs, e, g1, g2, g3, g4, g5, g6, g7⟩ := hs.mem.obj id o h hc
      refine ⟨cs, e, by rw [hb.block _ hlt]; exact g1, g2, g3, g4, g5, fun hS' => ?_, fun i j hi hj => ?_⟩
      · rcases hS _ hS' with h | h
        · exact g6 h
        · omega
      · obtain ⟨u, hu, hr⟩ := g7 i j hi hj
        exact ⟨u, hu, k2 i j u hr⟩
  · intro id id' o o' ho ho' hne hc hc'
    rcases oH_lookup ho with h | ⟨_, h⟩ <;> rcases oH_lookup ho' with h' | ⟨_, h'⟩
    · rw [h] at h'; cases h'; exact absurd rfl hne
    · have e1 := hnew _ h hc
      have k1 := (key h').1
      rw [k1.m] at hc' ⊢
      have := hs.mem.blk h' hc'
      intro e
      have e1 : w.heap.size ≤ (ρ' id).1 := e1
      omega
    · have e1 := hnew _ h' hc'
      have k1 := (key h).1
      rw [k1.m] at hc ⊢
      have := hs.mem.blk h hc
      intro e
      have e1 : w.heap.size ≤ (ρ' id').1 := e1
      omega
    · rw [(key h).1.m] at hc ⊢
      rw [(key h').1.m] at hc' ⊢
      exact hs.mem.inj id id' o o' h h' hne hc hc'
  · intro id n X hX
    rcases oH_lookup hX with h | ⟨_, h⟩
    · obtain ⟨t1, t2⟩ := h1.mem.tree0 id n X (hC1 h)
      refine ⟨t1, fun i hi => ⟨(t2 i hi).1, fun b hb' => ?_⟩⟩
      obtain ⟨q1, q2, q3, q4, q5⟩ := (t2 i hi).2 b hb'
      have hge : w.heap.size ≤ b := hnewT _ n X i b h rfl hi hb'
      refine ⟨q1, q2, q3, fun id' o ho hc => ?_, fun id' m Y i' hY hi' hne => ?_⟩
      · rcases oH_lookup ho with g | ⟨_, g⟩
        · exact q4 id' o (hC1 g) hc
        · have k1 := (key g).1
          rw [k1.m] at hc ⊢
          have := hs.mem.blk g hc
          omega
      · rcases oH_lookup hY with g | ⟨_, g⟩
        · exact q5 id' m Y i' (hC1 g) hi' hne
        · have k1 := (key g).1
          rw [k1.b]
          intro hg
          have := ((hs.mem.tree id' m Y g i' hi').2 b hg).2.1
          omega
    · obtain ⟨k1, _⟩ := key h
      refine ⟨k1.n.trans (hs.mem.tree0 id n X h).1, fun i hi => ?_⟩
      obtain ⟨t1, t2⟩ := hs.mem.tree id n X h i hi
      rw [k1.v, k1.b]
      refine ⟨t1.keep fun b hb' => hb.block b (t2 b hb').2.1, fun b hb' => ?_⟩
      obtain ⟨q1, q2, q3, q4, q5⟩ := t2 b hb'
      refine ⟨q1, Nat.lt_of_lt_of_le q2 hb.size, fun hS' => ?_, fun id' o ho hc => ?_, fun id' m Y i' hY hi' hne => ?_⟩
      · rcases hS _ hS' with h | h
        · exact q3 h
        · omega
      · rcases oH_lookup ho with g | ⟨_, g⟩
        · have := hnew _ g hc
          have this : w.heap.size ≤ (ρ' id').1 := this
          omega
        · have k2 := (key g).1
          rw [k2.m] at hc ⊢
          exact q4 id' o g hc
      · rcases oH_lookup hY with g | ⟨_, g⟩
        · intro hg
          have := hnewT _ m Y i' b g rfl hi' hg
          omega
        · have k2 := (key g).1
          rw [k2.b]
          exact q5 id' m Y i' g hi' hne
/-- What stands listed. -/
structure MidC (P : Program) (N : Nat) (w0 : Start) (ops : Array Oper) (m : Nat) (md : Region.Mode) (d : Nat → Nat) (s : Nat → SV) (C : Nat → Option (Nat × AObj)) (σ : Sig) (listed : Array Bool) (ρ : Rho) (S : Nat → Prop) (a : Act) (w : World) : Prop where
  len : listed.size = ops.size
  closed : ∀ j o, ops[j]? = some o → listed.getD j false = true → ∀ e ∈ o.after, Region.binds md e = true → listed.getD e.on false = true
  tail : ∀ j, m ≤ j → j < ops.size → listed.getD j false = false
  mem : ∃ H, St N w0 ρ S ⟨[], H⟩ a w ∧ (∀ id o, σ.heap.lookup id = some o → H.lookup id = some o) ∧ (∀ j p, j < m → listed.getD j false = true → C j = some p → H.lookup p.1 = some p.2) ∧ (∀ id o, H.lookup id = some o → σ.heap.lookup id = some o ∨ ∃ j, j < m ∧ listed.getD j false = true ∧ C j = some (id, o))
  done : ∀ j, j < m → listed.getD j false = true → RS ρ w S (s j) (a.tmps.getD (d j) undef)
  old : ∀ t x, σ.env.lookup t = some x → (∀ j, j < m → d j = t → listed.getD j false = false) → RS ρ w S x (a.tmps.getD t undef)
theorem SV.no_keep {ρ ρ' : Rho} {w w' : World} {S S' : Nat → Prop} (hsame : Same S w S' w') (hbase : ρ'.base = ρ.base) {C : Option (Nat × AObj)} (hat : ∀ id, (∀ p, C = some p → p.1 ≠ id) → Rho.At ρ ρ' id) {s : SV} {v : Value} (hno : ∀ p, C = some p → s.no p.1 = true) (h : RS ρ w S s v) : RS ρ' w' S' s v :=
  h.keep hsame ⟨hbase, fun q => by
    by_cases hq : ∀ p, C = some p → p.1 ≠ q
    · exact .inl (hat q hq)
    · right
      simp only [Classical.not_forall, Classical.not_not] at hq
      obtain ⟨p, hp, rfl⟩ := hq
      exact hno p hp⟩
/-- The end, in a fixed order. -/
theorem tail_run {m : Nat} (hord : ordC md ops m = true) {Q : Exit → Act → World → Prop} : ∀ (f k : Nat) (listed : Array Bool) (a : Act) (w : World), f + k = ops.size → m ≤ k → listed.size = ops.size → (∀ j, j < k → listed.getD j false = true) → (∀ j, k ≤ j → j < ops.size → listed.getD j false = false) →
    wpList P ops Q (ops.toList.drop k) a w → wpAny P md ops Q f listed a w
  | 0, k, listed, a, w, hf, _, hsz, hl, _, h => by
    refine ⟨?_, ?_⟩
    · unfold Region.ready
      rw [List.filter_eq_nil_iff]
      intro i hi
      have := List.mem_range.1 hi
      have h1 := hl i (by omega)
      rw [← getD_tf (by omega)] at h1
      rw [h1]; simp
    · rw [List.drop_of_length_le (by simp; omega)] at h
      exact h
  | f + 1, k, listed, a, w, hf, hm, hsz, hl, hu, h => by
    have hk : k < ops.size := by omega
    have hko : ops[k]? = some ops[k] := Array.getElem?_eq_getElem hk
    have hrdy : k ∈ Region.ready md ops listed := by
      refine mem_ready.2 ⟨by rw [getD_tf (by omega)]; exact hu k (Nat.le_refl _) hk, _, hko, fun ed hed hbd => ?_⟩
      have := ordC_after hord hko ed hed hbd
      exact hl ed.on this
    refine ⟨(fun hnil => by rw [hnil] at hrdy; cases hrdy), fun i hi => ?_⟩
    obtain ⟨hun, o, ho, hpre⟩ := mem_ready.1 hi
    have hilt : i < ops.size := (Array.getElem?_eq_some_iff.1 ho).1
    have hik : i = k := by
      rcases Nat.lt_trichotomy i k with hlt | heq | hgt
      · rw [getD_tf (by omega), hl i hlt] at hun; cases hun
      · exact heq
      · obtain ⟨ed, hed, hb, hon⟩ := ordC_tail hord ho (by omega) hgt
        have := hpre ed hed hb
        rw [hon, hu k (Nat.le_refl _) hk] at this
        cases this
    subst hik
    rw [hko] at ho
    obtain rfl := Option.some.inj ho
    have hdrop : ops.toList.drop i = ops[i] :: ops.toList.drop (i + 1) := by
      rw [List.drop_eq_getElem_cons (by simpa using hk)]; simp
    rw [hdrop] at h
    have hrec : ∀ a' w', wpList P ops Q (ops.toList.drop (i + 1)) a' w' → wpAny P md ops Q f (listed.setIfInBounds i true) a' w' := fun a' w' h' =>
      tail_run hord f (i + 1) _ a' w' (by omega) (by omega) (by simp [hsz]) (fun j hj => by
        by_cases hji : j = i
        · subst hji; simp [hsz, hk]
        · exact getD_set_true (hl j (by omega))) (fun j hj hj2 => by rw [getD_set_ne false (by omega)]; exact hu j (by omega) hj2) h'
    unfold wpOp
    simp only [hko]
    unfold wpList at h
    split
    · rename_i hw
      rw [if_pos hw] at h
      rcases h with h | h
      · exact .inl (Oper.wp_mono hrec h)
      · exact .inr h
    · rename_i hw
      rw [if_neg hw] at h
      exact hrec _ _ h
theorem any_orderC {m : Nat} {σ τ : Sig} {Q : Exit → Act → World → Prop} (hle : m ≤ ops.size) (hord : ordC md ops m = true) (h : ADsC P N ops σ.heap (ops.toList.take m) σ τ)
    (hQ : ∀ ρ S a w, St N w0 ρ S τ a w → wpList P ops Q (ops.toList.drop m) a w) :
    ∀ (ρ : Rho) (S : Nat → Prop) (a : Act) (w : World), St N w0 ρ S σ a w → wpAny P md ops Q ops.size (Array.replicate ops.size false) a w := by
  obtain ⟨d, s, e, C, Hs, he0, hH0, hτ, hst⟩ := h.lay
  have hops : ∀ k, k < m → (ops.toList.take m)[k]? = ops[k]? := fun k hk => by rw [List.getElem?_take, if_pos hk]; first | rfl | exact Array.getElem?_toList | simp
  have hlen : (ops.toList.take m).length = m := by simp; omega
  have hstep : ∀ k o, k < m → ops[k]? = some o → _ := fun k o hkm hk => hst k o (by rw [hops k hkm]; exact hk)
  have hget0 : ∀ k (hk : k < m), ops[k]? = some (ops[k]'(by omega)) := fun k hk => Array.getElem?_eq_getElem (by omega)
  have hinj : ∀ i j, i < m → j < m → i ≠ j → d i ≠ d j := fun i j hi hj hne heq => by
    have g1 := hstep i _ hi (hget0 i hi)
    have g2 := hstep j _ hj (hget0 j hj)
    exact (ordC_pair hord hi hj (hget0 i hi) (hget0 j hj)).1 hne (by rw [g1.1, g2.1, heq])
  have hget := lay_get (fun k hk => (hstep k _ hk (hget0 k hk)).2.2.1) hinj
  -- what the laid heap holds
  have hHs : ∀ k, k ≤ m → ∀ id o, (Hs k).lookup id = some o → (σ.heap.lookup id = some o) ∨ ∃ j, j < k ∧ C j = some (id, o) := by
    intro k
    induction k with
    | zero => intro _ id o ho; rw [hH0] at ho; exact .inl ho
    | succ k ih =>
      intro hk id o ho
      obtain ⟨_, _, _, g4, _⟩ := hstep k _ (by omega) (hget0 k (by omega))
      rw [g4] at ho
      rcases oH_lookup ho with h | ⟨_, h⟩
      · exact .inr ⟨k, by omega, h⟩
      · rcases ih (by omega) id o h with h | ⟨j, hj, h⟩
        · exact .inl h
        · exact .inr ⟨j, by omega, h⟩
  have hFr : ∀ k p, k < m → C k = some p → (∀ q ∈ e k, q.2.no p.1 = true) ∧ (∀ id o, (Hs k).lookup id = some o → id ≠ p.1 ∧ o.No p.1) := by
    intro k p hk hp
    obtain ⟨_, _, _, _, _, g6, _⟩ := hstep k _ hk (hget0 k hk)
    obtain ⟨f1, _⟩ := g6 p hp
    refine ⟨fun q hq => ?_, fun id o ho => f1.heap.get ho⟩
    exact List.all_eq_true.1 f1.env q hq
  -- keys of the heap ahead stay keys
  have hkeys : ∀ k, k ≤ m → ∀ id, (∃ o, σ.heap.lookup id = some o) ∨ (∃ j o, j < k ∧ C j = some (id, o)) → ∃ o, (Hs k).lookup id = some o := by
    intro k
    induction k with
    | zero => intro _ id h; rw [hH0]; rcases h with h | ⟨j, o, hj, _⟩; (· exact h); (· omega)
    | succ k ih =>
      intro hk id h
      obtain ⟨_, _, _, g4, _⟩ := hstep k _ (by omega) (hget0 k (by omega))
      rw [g4]
      by_cases hc : ∀ p, C k = some p → p.1 ≠ id
      · rw [oH_old hc]
        refine ih (by omega) id ?_
        rcases h with h | ⟨j, o, hj, h⟩
        · exact .inl h
        · by_cases hjk : j = k
          · subst hjk; exact absurd rfl (hc _ h)
          · exact .inr ⟨j, o, by omega, h⟩
      · simp only [Classical.not_forall, Classical.not_not] at hc
        obtain ⟨p, hp, rfl⟩ := hc
        exact ⟨p.2, by rw [hp]; exact oH_new⟩
  have hcid : ∀ j k p q, j < m → k < m → C j = some p → C k = some q → p.1 = q.1 → j = k := by
    have one : ∀ j k p q, j < k → k < m → C j = some p → C k = some q → p.1 ≠ q.1 := fun j k p q hjk hk hp hq => by
      obtain ⟨o, ho⟩ := hkeys k (by omega) p.1 (.inr ⟨j, p.2, hjk, hp⟩)
      exact ((hFr k q hk hq).2 p.1 o ho).1
    intro j k p q hj hk hp hq he
    rcases Nat.lt_trichotomy j k with h | h | h
    · exact absurd he (one j k p q h hk hp hq)
    · exact h
    · exact absurd he.symm (one k j q p h hj hq hp)
  have hbase : ∀ k p, k < m → C k = some p → (∀ id o, σ.heap.lookup id = some o → id ≠ p.1) ∧ (∀ q ∈ σ.env, q.2.no p.1 = true) ∧ (∀ id o, σ.heap.lookup id = some o → o.No p.1) := by
    intro k p hk hp
    obtain ⟨f1, f2⟩ := hFr k p hk hp
    have hkeep : ∀ i, i ≤ k → (∀ q ∈ e i, q.2.no p.1 = true) → ∀ q ∈ e 0, q.2.no p.1 = true := by
      intro i
      induction i with
      | zero => intro _ h; exact h
      | succ i ih =>
        intro hi h
        obtain ⟨_, _, g3, _⟩ := hstep i _ (by omega) (hget0 i (by omega))
        rw [g3] at h
        exact ih (by omega) fun q hq => h q (List.mem_cons_of_mem _ hq)
    have hlook : ∀ id o, σ.heap.lookup id = some o → (Hs k).lookup id = some o := by
      have : ∀ i, i ≤ k → ∀ id o, σ.heap.lookup id = some o → (Hs i).lookup id = some o := by
        intro i
        induction i with
        | zero => intro _ id o ho; rw [hH0]; exact ho
        | succ i ih =>
          intro hi id o ho
          obtain ⟨_, _, _, g4, _⟩ := hstep i _ (by omega) (hget0 i (by omega))
          rw [g4, oH_old fun q hq => ?_]
          · exact ih (by omega) id o ho
          · have := ((hFr i q (by omega) hq).2 id o (ih (by omega) id o ho)).1
            exact fun e => this e.symm
      exact this k (Nat.le_refl _)
    refine ⟨fun id o ho => (f2 id o (hlook id o ho)).1, fun q hq => hkeep k (Nat.le_refl _) f1 q (by rw [he0]; exact hq), fun id o ho => (f2 id o (hlook id o ho)).2⟩
  have hscl : ∀ j k p q, j < m → k < m → C j = some p → C k = some q → q.2.No p.1 := by
    intro j k p q _ hk _ hq
    obtain ⟨_, _, _, _, _, g6, _⟩ := hstep k _ hk (hget0 k hk)
    obtain ⟨_, h⟩ := g6 q hq
    obtain ⟨id, o⟩ := q
    cases o with
    | trees n X => trivial
    | arr sz n f => exact fun i j => scl_no (h i j) _
    | cells l =>
      show l.all (AV.no p.1) = true
      rw [List.all_eq_true]
      intro x hx
      obtain ⟨i, hi, rfl⟩ := List.mem_iff_getElem.1 hx
      have := h 0 i
      rw [show (AObj.cells l).f 0 i = l[i] by show l.getD i (.con undef) = _; rw [List.getD_eq_getElem?_getD, List.getElem?_eq_getElem hi]; rfl] at this
      exact scl_no this _
  -- mention: what a listed slot speaks of is listed
  have hment : ∀ (listed : Array Bool) (_ : ∀ j o, ops[j]? = some o → listed.getD j false = true → ∀ e ∈ o.after, Region.binds md e = true → listed.getD e.on false = true) (k : Nat), k < m → listed.getD k false = true → ∀ j p, j < m → C j = some p → (s k).no p.1 = false → listed.getD j false = true := by
    intro listed hcl k
    induction k using Nat.strongRecOn with
    | _ k ih =>
      intro hk hlk j p hj hp hn
      by_cases hjk : j = k
      · subst hjk; exact hlk
      · have hlt : j < k := by
          apply Classical.byContradiction
          intro hge
          have hkj : k < j := by omega
          -- a later creation is not spoken of
          have hin : (d k, s k) ∈ e j := by
            have : ∀ i, k < i → i ≤ j → (d k, s k) ∈ e i := by
              intro i
              induction i with
              | zero => intro h; omega
              | succ i ihi =>
                intro h1 h2
                obtain ⟨_, _, g3, _⟩ := hstep i _ (by omega) (hget0 i (by omega))
                rw [g3]
                by_cases hik : i = k
                · subst hik; exact List.mem_cons_self ..
                · exact List.mem_cons_of_mem _ (ihi (by omega) (by omega))
            exact this j hkj (Nat.le_refl _)
          have := (hFr j p hj hp).1 _ hin
          rw [hn] at this; cases this
        obtain ⟨_, _, _, _, _, _, g7⟩ := hstep k _ hk (hget0 k hk)
        obtain ⟨o, ho⟩ := hkeys k (by omega) p.1 (.inr ⟨j, p.2, hlt, hp⟩)
        have hkey : p.1 ∈ (Hs k).map (·.1) := List.mem_map.2 ⟨_, lookup_mem ho, rfl⟩
        have h8 := List.all_eq_true.1 g7 p.1 hkey
        rw [hn, Bool.false_or] at h8
        obtain ⟨q, hq, hqn⟩ := List.any_eq_true.1 h8
        obtain ⟨hqe, hql⟩ := List.mem_filter.1 hq
        simp only [Bool.not_eq_true'] at hqn
        have : (∃ i, i < k ∧ q = (d i, s i)) ∨ q ∈ e 0 := by
          have : ∀ i, i ≤ k → q ∈ e i → (∃ i', i' < i ∧ q = (d i', s i')) ∨ q ∈ e 0 := by
            intro i
            induction i with
            | zero => intro _ h; exact .inr h
            | succ i ihi =>
              intro hi h
              obtain ⟨_, _, g3, _⟩ := hstep i _ (by omega) (hget0 i (by omega))
              rw [g3] at h
              rcases List.mem_cons.1 h with h | h
              · exact .inl ⟨i, by omega, h⟩
              · rcases ihi (by omega) h with ⟨i', hi', h⟩ | h
                · exact .inl ⟨i', by omega, h⟩
                · exact .inr h
          exact this k (Nat.le_refl _) hqe
        rcases this with ⟨i, hik, rfl⟩ | h0
        · have hli : listed.getD i false = true := by
            obtain ⟨g1, _⟩ := hstep i _ (by omega) (hget0 i (by omega))
            rcases (ordC_pair hord hk (by omega) (hget0 k hk) (hget0 i (by omega))).2 _ g1 (by simpa using hql) with e1 | ⟨_, ed, hed, hb, hon⟩ | ⟨hn', _⟩
            · omega
            · rw [← hon]; exact hcl k _ (hget0 k hk) hlk ed hed hb
            · omega
          exact ih i hik (by omega) hli j p hj hp hqn
        · have := (hbase j p hj hp).2.1 q (by rw [← he0]; exact h0)
          rw [hqn] at this; cases this
  have key : ∀ fuel listed ρ S a w, unl listed ops.size = fuel → MidC P N w0 ops m md d s C σ listed ρ S a w → wpAny P md ops Q fuel listed a w := by
    intro fuel
    induction fuel with
    | zero =>
      intro listed ρ S a w hf hm
      have hall : ∀ j, j < ops.size → listed.getD j true = true := unl_zero _ hf
      have hmn : m = ops.size := by
        apply Classical.byContradiction
        intro hne
        have h1 := hm.tail m (Nat.le_refl _) (by omega)
        rw [← getD_tf (by rw [hm.len]; omega), hall m (by omega)] at h1
        cases h1
      have hfin := tail_run (P := P) hord (Q := Q) 0 m listed a w (by omega) (Nat.le_refl _) hm.len (fun j hj => by rw [← getD_tf (by rw [hm.len]; omega)]; exact hall j (by omega)) (fun j hj hj2 => by omega)
      refine hfin (hQ ρ S a w ?_)
      obtain ⟨H, hH1, hH2, hH3, hH4⟩ := hm.mem
      have hallF : ∀ j, j < m → listed.getD j false = true := fun j hj => by rw [← getD_tf (by rw [hm.len]; omega)]; exact hall j (by omega)
      refine ⟨hH1.size, hH1.defers, hH1.below, ?_, fun t x ht => ?_⟩
      · rw [hτ]
        refine hH1.mem.le' fun id o ho => HLe.refl ?_
        rw [hlen] at ho
        rcases hHs m (Nat.le_refl _) id o ho with h | ⟨j, hj, h⟩
        · exact hH2 id o h
        · exact hH3 j _ hj (hallF j hj) h
      · rw [hτ, hlen] at ht
        rcases hget m (Nat.le_refl _) t x ht with ⟨j, hj, rfl, rfl⟩ | ⟨h1, h2⟩
        · exact hm.done j hj (hallF j hj)
        · exact hm.old t x (by rw [← he0]; exact h2) fun j hj hd => absurd hd (h1 j hj)
    | succ fuel ih =>
      intro listed ρ S a w hf hm
      by_cases hpre : ∀ j, j < m → listed.getD j false = true
      · -- the prefix is done
        have hcnt : ∀ k, k ≤ ops.size → unl listed k + min k m = k := by
          intro k
          induction k with
          | zero => intro _; simp [unl]
          | succ k ihk =>
            intro hk
            have h1 := ihk (by omega)
            simp only [unl]
            by_cases hkm : k < m
            · have := hpre k hkm
              rw [getD_tf (by rw [hm.len]; omega), this]
              simp only [if_true]; omega
            · have := hm.tail k (by omega) (by omega)
              rw [getD_tf (by rw [hm.len]; omega), this]
              simp only [Bool.false_eq_true, if_false]; omega
        have h0 := hcnt ops.size (Nat.le_refl _)
        refine tail_run (P := P) hord (Q := Q) (fuel + 1) m listed a w (by omega) (Nat.le_refl _) hm.len hpre (fun j h1 h2 => hm.tail j h1 h2) (hQ ρ S a w ?_)
        obtain ⟨H, hH1, hH2, hH3, hH4⟩ := hm.mem
        refine ⟨hH1.size, hH1.defers, hH1.below, ?_, fun t x ht => ?_⟩
        · rw [hτ]
          refine hH1.mem.le' fun id o ho => HLe.refl ?_
          rw [hlen] at ho
          rcases hHs m (Nat.le_refl _) id o ho with h | ⟨j, hj, h⟩
          · exact hH2 id o h
          · exact hH3 j _ hj (hpre j hj) h
        · rw [hτ, hlen] at ht
          rcases hget m (Nat.le_refl _) t x ht with ⟨j, hj, rfl, rfl⟩ | ⟨h1, h2⟩
          · exact hm.done j hj (hpre j hj)
          · exact hm.old t x (by rw [← he0]; exact h2) fun j hj hd => absurd hd (h1 j hj)
      · have hex : ∃ j, j < m ∧ listed.getD j false = false := by
          apply Classical.byContradiction
          intro hno
          exact hpre fun j hj => by
            cases hb : listed.getD j false with
            | true => rfl
            | false => exact absurd ⟨j, hj, hb⟩ hno
        refine ⟨fun hnil => ?_, fun i hi => ?_⟩
        · exfalso
          obtain ⟨j0, hj0⟩ := hex
          obtain ⟨j, ⟨hj, hb⟩, hmin⟩ := exists_min (p := fun j => j < m ∧ listed.getD j false = false) j0 hj0
          have : j ∈ Region.ready md ops listed := by
            refine mem_ready.2 ⟨by rw [getD_tf (by rw [hm.len]; omega)]; exact hb, _, hget0 j hj, fun ed hed hbd => ?_⟩
            have hlt := ordC_after hord (hget0 j hj) ed hed hbd
            cases hc : listed.getD ed.on false with
            | true => rfl
            | false => have := hmin ed.on ⟨by omega, hc⟩; omega
          rw [hnil] at this
          cases this
        · obtain ⟨hun, o, ho, hprei⟩ := mem_ready.1 hi
          have hilt : i < ops.size := (Array.getElem?_eq_some_iff.1 ho).1
          have hunf : listed.getD i false = false := by rw [← getD_tf (by rw [hm.len]; exact hilt)]; exact hun
          have him : i < m := by
            apply Classical.byContradiction
            intro hge
            obtain ⟨j, hj, hb⟩ := hex
            obtain ⟨ed, hed, hbd, hon⟩ := ordC_tail hord ho (by omega) (show j < i by omega)
            have := hprei ed hed hbd
            rw [hon, hb] at this; cases this
          obtain ⟨hd, hN, hen, hHn, hop, hfr, _⟩ := hstep i o him ho
          obtain ⟨H, hH1, hH2, hH3, hH4⟩ := hm.mem
          have hpre' : St N w0 ρ S (Sig.only ⟨e i, σ.heap⟩ (o.looksAt ops)) a w := by
            refine ⟨hH1.size, hH1.defers, hH1.below, hH1.mem.le' fun id ob hob => HLe.refl (hH2 id ob hob), fun t x ht => ?_⟩
            obtain ⟨htl, ht⟩ := lookup_filter ht
            rcases hget i (by omega) t x ht with ⟨j, hj, rfl, rfl⟩ | ⟨h1, h2⟩
            · have hjm : j < m := by omega
              obtain ⟨g1, _⟩ := hstep j _ hjm (hget0 j hjm)
              rcases (ordC_pair hord him hjm ho (hget0 j hjm)).2 _ g1 htl with e1 | ⟨_, ed, hed, hb, hon⟩ | ⟨hn, _⟩
              · omega
              · exact hm.done j hjm (by rw [← hon]; exact hprei ed hed hb)
              · exact absurd hj hn
            · refine hm.old t x (by rw [← he0]; exact h2) fun j hj hdj => ?_
              obtain ⟨g1, _⟩ := hstep j _ hj (hget0 j hj)
              rw [hdj] at g1
              rcases (ordC_pair hord him hj ho (hget0 j hj)).2 _ g1 htl with e1 | ⟨hlt, _⟩ | ⟨hn, ed, hed, hb, hon⟩
              · subst e1; exact hunf
              · exact absurd hdj (h1 j hlt)
              · cases hc : listed.getD j false with
                | false => rfl
                | true =>
                  have := hm.closed j _ (hget0 j hj) hc ed hed hb
                  rw [hon, hunf] at this
                  cases this
          have hnoH : ∀ p, C i = some p → ∀ id ob, H.lookup id = some ob → id ≠ p.1 ∧ ob.No p.1 := by
            intro p hp id ob hob
            rcases hH4 id ob hob with h | ⟨j, hj, hlj, h⟩
            · exact ⟨(hbase i p him hp).1 id ob h, (hbase i p him hp).2.2 id ob h⟩
            · refine ⟨fun e => ?_, hscl i j p _ him hj hp h⟩
              have := hcid j i _ p hj him h hp e
              subst this
              rw [hunf] at hlj; cases hlj
          have hnext : ∀ v ρ' S' w', Same S w S' w' → Below w.heap.size w w' → (∀ b, S' b → S b ∨ w.heap.size ≤ b) → ρ'.base = ρ.base → (∀ id, (∀ p, C i = some p → p.1 ≠ id) → Rho.At ρ ρ' id) → (∀ p, C i = some p → (ρ' p.1).2 ≠ 0 → w.heap.size ≤ (ρ' p.1).1) →
              (∀ p n X k b, C i = some p → p.2 = .trees n X → k < n → ρ'.tb p.1 k b → w.heap.size ≤ b) → St N w0 ρ' S' ⟨(Sig.only ⟨e i, σ.heap⟩ (o.looksAt ops)).env, oH (C i) ++ σ.heap⟩ a w' → RS ρ' w' S' (s i) v → wpAny P md ops Q fuel (listed.setIfInBounds i true) (a.put o.dst v) w' := by
            intro v ρ' S' w' hsame hbel hSS hbs hat hnew hnewT hs' hv
            have hj1 : St N w0 ρ' S' ⟨[], oH (C i) ++ H⟩ a w' := St.join hH1 hbel hSS hsame hbs hat hnew hnewT ⟨hs'.size, hs'.defers, hs'.below, hs'.mem, fun t s hs => by simp at hs⟩ hnoH
            refine ih _ ρ' S' _ w' ?_ ⟨by simp [hm.len], ?_, ?_, ?_, ?_, ?_⟩
            · have := unl_set hun ops.size
              rw [if_pos hilt] at this
              omega
            · intro j oj hoj hl ed hed hb
              by_cases hji : j = i
              · subst hji
                rw [ho] at hoj
                obtain rfl := Option.some.inj hoj
                exact getD_set_true (hprei ed hed hb)
              · rw [getD_set_ne false (Ne.symm hji)] at hl
                exact getD_set_true (hm.closed j oj hoj hl ed hed hb)
            · intro j h1 h2
              rw [getD_set_ne false (by omega)]
              exact hm.tail j h1 h2
            · refine ⟨oH (C i) ++ H, ?_, fun id ob hob => ?_, fun j p hj hl hp => ?_, fun id ob hob => ?_⟩
              · rw [hd]
                exact (hj1.put hN hv).memOnly
              · rw [oH_old fun p hp e => (hnoH p hp id ob (hH2 id ob hob)).1 e.symm]
                exact hH2 id ob hob
              · by_cases hji : j = i
                · subst hji; rw [hp]; exact oH_new
                · rw [getD_set_ne false (Ne.symm hji)] at hl
                  have h3 := hH3 j p hj hl hp
                  rw [oH_old fun q hq e => (hnoH q hq p.1 p.2 h3).1 e.symm]
                  exact h3
              · rcases oH_lookup hob with h | ⟨_, h⟩
                · exact .inr ⟨i, him, by simp [hm.len, hilt], h⟩
                · rcases hH4 id ob h with h | ⟨j, hj, hl, h⟩
                  · exact .inl h
                  · exact .inr ⟨j, hj, getD_set_true hl, h⟩
            · intro j hj hl
              have hsz : d i < a.tmps.size := by rw [hH1.size]; exact hN
              rw [hd, getD_put hsz]
              by_cases hji : j = i
              · subst hji; rw [if_pos rfl]; exact hv
              · rw [if_neg (hinj j i hj him hji)]
                rw [getD_set_ne false (Ne.symm hji)] at hl
                refine SV.no_keep hsame hbs hat (fun p hp => ?_) (hm.done j hj hl)
                cases hn : (s j).no p.1 with
                | true => rfl
                | false =>
                  have := hment listed hm.closed j hj hl i p him hp hn
                  rw [hunf] at this; cases this
            · intro t x ht hno
              have hsz : d i < a.tmps.size := by rw [hH1.size]; exact hN
              have hti : t ≠ d i := fun e => by
                have := hno i him e.symm
                rw [show (listed.setIfInBounds i true).getD i false = true by simp [hm.len, hilt]] at this
                cases this
              rw [hd, getD_put hsz, if_neg hti]
              refine SV.no_keep hsame hbs hat (fun p hp => (hbase i p him hp).2.1 _ (lookup_mem ht)) (hm.old t x ht fun j hj hdj => ?_)
              have hji : i ≠ j := fun e => hti (by rw [← hdj, e])
              have := hno j hj hdj
              rwa [getD_set_ne false hji] at this
          have h1 := hop.run N w0 ρ S a w (wpAny P md ops Q fuel (listed.setIfInBounds i true)) Q hpre' hnext
          unfold wpOp
          simp only [ho]
          split
          · rename_i hw; rw [if_pos hw] at h1; exact .inl h1
          · rename_i hw; rw [if_neg hw] at h1; exact h1
  intro ρ S a w hs
  refine key ops.size _ ρ S a w ?_ ⟨by simp, fun j o ho hl => ?_, fun j h1 h2 => by simp [h2], ⟨σ.heap, hs.memOnly, fun _ _ h => h, fun j p hj hl => ?_, fun _ _ h => .inl h⟩, fun j hj hl => ?_, fun t x ht _ => hs.env t x ht⟩
  · have : ∀ k, k ≤ ops.size → unl (Array.replicate ops.size false) k = k := by
      intro k
      induction k with
      | zero => intro _; rfl
      | succ k ihk => intro hk; simp only [unl]; rw [ihk (by omega)]; simp [show k < ops.size by omega]
    exact this _ (Nat.le_refl _)
  · exfalso
    by_cases hj : j < ops.size <;> simp [hj] at hl
  · exfalso
    simp [show j < ops.size by omega] at hl
  · exfalso
    simp [show j < ops.size by omega] at hl
/-- A region that draws its order, and ends in a fixed one. -/
def ADC (P : Program) (N : Nat) (w0 : Start) (ops : Array Oper) (H0 : Heap) (Q : Sig → Prop) (l : List Oper) (m : Nat) (σ : Sig) : Prop := ∃ τ, ADsC P N ops H0 (l.take m) σ τ ∧ ARun P N w0 ops Q (l.drop m) τ
theorem AW.anyC (m : Nat) {i : Nat} {l : List Oper} {Q : Exit → Sig → Prop} {σ : Sig} (hm : P.follows .mixedOrders = true) (hle : m ≤ l.length) (hord : ordC .any l.toArray m = true) (h : ADC P N w0 l.toArray σ.heap (fun σ => Q .normal σ) l m σ) : AW P N w0 (.region i l.toArray true) Q σ := by
  intro ρ S a w Q' hQ hs
  obtain ⟨τ, h1, h2⟩ := h
  refine wp_region_any hm ?_
  exact any_orderC (w0 := w0) (by simpa using hle) hord (by simpa using h1) (fun ρ S a w hs' => by simpa using h2 ρ S a w Q' (fun ρ S σ a w hs hq => hQ _ ρ S σ a w hs hq) hs') ρ S a _ (hs.world ((Below.refl _ _).drew))
variable {Q : Sig → Prop} {σ : Sig} {o : Oper} {rest : List Oper} {m : Nat}
theorem ADC.tail {l : List Oper} (h : ARun P N w0 ops Q l σ) : ADC P N w0 ops H0 Q l 0 σ := ⟨σ, .nil, h⟩
theorem ADC.cons {s : SV} {d : Nat} {C : Option (Nat × AObj)} (hp : OpStepC P ops o (Sig.only ⟨σ.env, H0⟩ (o.looksAt ops)) s C) (hC : ∀ p, C = some p → Fr p.1 σ ∧ p.2.Scl) (hm : mentB (σ.heap.map (·.1)) (σ.env.filter fun p => (o.looksAt ops).contains p.1) s = true) (hd : o.dst = some d) (hN : d < N)
    (h : ADC P N w0 ops H0 Q rest m ⟨(d, s) :: σ.env, oH C ++ σ.heap⟩) : ADC P N w0 ops H0 Q (o :: rest) (m + 1) σ :=
  let ⟨τ, h1, h2⟩ := h
  ⟨τ, .cons hd hN hp hC hm h1, h2⟩
theorem ADC.pure {s : SV} {d : Nat} (hp : PureOp P o (Sig.only ⟨σ.env, H0⟩ (o.looksAt ops)) s) (hg : o.guard = none) (hd : o.dst = some d) (hN : d < N) (hm : mentB (σ.heap.map (·.1)) (σ.env.filter fun p => (o.looksAt ops).contains p.1) s = true) (h : ADC P N w0 ops H0 Q rest m (σ.put d s)) : ADC P N w0 ops H0 Q (o :: rest) (m + 1) σ :=
  ADC.cons (hp.fresh.step hg).toC (fun p h => by cases h) hm hd hN h
theorem ADC.fresh {s : SV} {d : Nat} (hp : FreshOp P o (Sig.only ⟨σ.env, H0⟩ (o.looksAt ops)) s) (hg : o.guard = none) (hd : o.dst = some d) (hN : d < N) (hm : mentB (σ.heap.map (·.1)) (σ.env.filter fun p => (o.looksAt ops).contains p.1) s = true) (h : ADC P N w0 ops H0 Q rest m (σ.put d s)) : ADC P N w0 ops H0 Q (o :: rest) (m + 1) σ :=
  ADC.cons (hp.step hg).toC (fun p h => by cases h) hm hd hN h
theorem ADC.gpure {s : SV} {d g t : Nat} {want c : Bool} (hgate : Gate (Sig.only ⟨σ.env, H0⟩ (o.looksAt ops)) t want c) (hp : c = true → PureOp P o (Sig.only ⟨σ.env, H0⟩ (o.looksAt ops)) s) (hg : o.guard = some (g, want)) (hgd : (ops[g]?).bind (·.dst) = some t) (hd : o.dst = some d) (hN : d < N)
    (hm : mentB (σ.heap.map (·.1)) (σ.env.filter fun p => (o.looksAt ops).contains p.1) (.gd c s) = true) (h : ADC P N w0 ops H0 Q rest m (σ.put d (.gd c s))) : ADC P N w0 ops H0 Q (o :: rest) (m + 1) σ :=
  ADC.cons (FreshOp.gstep hgate (fun hc => (hp hc).fresh) hg hgd fun N _ _ _ _ _ _ => by omega).toC (fun p h => by cases h) hm hd hN h
end
end Go.Proofs.Ytmfkmifkkplidaa
