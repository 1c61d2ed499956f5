/-
  A calculus for walks, part 9: one walk of the lexical order serves every order of a region.
-/
import Derived.Test.YtmfkmifkkplidaaVh
namespace Go.Proofs.Ytmfkmifkkplidaa
open Go.ChangeShapes Go.WideShapes Go.ChangeAt Go.RowKit Go.BigFrame Go.Deep
set_option linter.unusedVariables false

set_option linter.unusedSimpArgs false
theorem ordB_after {md : Region.Mode} {ops : Array Oper} (h : ordB md ops = true) {i : Nat} {o : Oper} (hi : ops[i]? = some o) : ∀ e ∈ o.after, Region.binds md e = true → e.on < i := by
  have hlt : i < ops.size := (Array.getElem?_eq_some_iff.1 hi).1
  have h1 := List.all_eq_true.1 h i (List.mem_range.2 hlt)
  simp only [hi, Bool.and_eq_true] at h1
  intro e he hb
  have := Array.all_eq_true_iff_forall_mem.1 h1.1 e he
  rw [hb] at this
  simpa using this
theorem ordB_pair {md : Region.Mode} {ops : Array Oper} (h : ordB md ops = true) {i j : Nat} {oi oj : Oper} (hi : ops[i]? = some oi) (hj : ops[j]? = some oj) :
    (i ≠ j → oi.dst ≠ oj.dst) ∧ ∀ d, oj.dst = some d → d ∈ oi.looksAt ops → i = j ∨ (j < i ∧ ∃ e ∈ oi.after, Region.binds md e = true ∧ e.on = j) ∨ (¬ j < i ∧ ∃ e ∈ oj.after, Region.binds md e = true ∧ e.on = i) := by
  have hlt : i < ops.size := (Array.getElem?_eq_some_iff.1 hi).1
  have hlt2 : j < ops.size := (Array.getElem?_eq_some_iff.1 hj).1
  have h1 := List.all_eq_true.1 h i (List.mem_range.2 hlt)
  simp only [hi, Bool.and_eq_true] at h1
  have h2 := List.all_eq_true.1 h1.2 j (List.mem_range.2 hlt2)
  simp only [hj, Bool.and_eq_true] at h2
  obtain ⟨h3, h4⟩ := h2
  refine ⟨fun hne e => ?_, fun d hd hm => ?_⟩
  · simp [hne, e] at h3
  · simp only [hd] at h4
    by_cases hij : i = j
    · exact .inl hij
    · right
      have hc : (oi.looksAt ops).contains d = true := by simpa using hm
      rw [hc] at h4
      simp only [Bool.not_true, Bool.false_or, show (i == j) = false by simpa using hij] at h4
      by_cases hlt : j < i
      · left
        rw [if_pos hlt] at h4
        obtain ⟨e, he, hb⟩ := Array.any_eq_true'.1 h4
        rw [Bool.and_eq_true, beq_iff_eq] at hb
        exact ⟨hlt, e, he, hb.1, hb.2⟩
      · right
        rw [if_neg hlt] at h4
        obtain ⟨e, he, hb⟩ := Array.any_eq_true'.1 h4
        rw [Bool.and_eq_true, beq_iff_eq] at hb
        exact ⟨hlt, e, he, hb.1, hb.2⟩
section
variable {P : Program} {N : Nat} {w0 : Start} {ops : Array Oper} {md : Region.Mode}
/-- The walk laid out: what each operation writes, and what is known ahead of it. -/
theorem ADs.lay {l : List Oper} {σ τ : Sig} (h : ADs P N ops l σ τ) : ∃ (d : Nat → Nat) (s : Nat → SV) (e : Nat → Env), e 0 = σ.env ∧ τ = ⟨e l.length, σ.heap⟩ ∧
    ∀ k o, l[k]? = some o → o.dst = some (d k) ∧ d k < N ∧ e (k + 1) = (d k, s k) :: e k ∧ OpStep P ops o (Sig.only ⟨e k, σ.heap⟩ (o.looksAt ops)) (s k) := by
  induction h with
  | @nil σ => exact ⟨fun _ => 0, fun _ => .one (.con undef), fun _ => σ.env, rfl, rfl, fun k o hk => by simp at hk⟩
  | @cons o rest σ τ d0 s0 hd hN hs _ ih =>
    obtain ⟨d, s, e, h1, h2, h3⟩ := ih
    refine ⟨fun k => if k = 0 then d0 else d (k - 1), fun k => if k = 0 then s0 else s (k - 1), fun k => if k = 0 then σ.env else e (k - 1), rfl, ?_, fun k o' hk => ?_⟩
    · rw [h2]; simp [Sig.put]
    · cases k with
      | zero =>
        simp at hk
        subst hk
        refine ⟨by simpa using hd, by simpa using hN, by simp [h1, Sig.put], by simpa using hs⟩
      | succ k =>
        obtain ⟨g1, g2, g3, g4⟩ := h3 k o' (by simpa using hk)
        refine ⟨by simpa using g1, by simpa using g2, by simpa using g3, by simpa [Sig.put] using g4⟩
theorem lay_get {d : Nat → Nat} {s : Nat → SV} {e : Nat → Env} {n : Nat} (he : ∀ k, k < n → e (k + 1) = (d k, s k) :: e k) (hinj : ∀ i j, i < n → j < n → i ≠ j → d i ≠ d j) :
    ∀ k, k ≤ n → ∀ t x, (e k).lookup t = some x → (∃ j, j < k ∧ d j = t ∧ x = s j) ∨ ((∀ j, j < k → d j ≠ t) ∧ (e 0).lookup t = some x) := by
  intro k
  induction k with
  | zero => intro _ t x h; exact .inr ⟨fun j hj => absurd hj (by omega), h⟩
  | succ k ih =>
    intro hk t x h
    rw [he k (by omega)] at h
    rcases lookup_put h with ⟨rfl, rfl⟩ | ⟨hne, h⟩
    · exact .inl ⟨k, by omega, rfl, rfl⟩
    · rcases ih (by omega) t x h with ⟨j, hj, h1, h2⟩ | ⟨h1, h2⟩
      · exact .inl ⟨j, by omega, h1, h2⟩
      · refine .inr ⟨fun j hj => ?_, h2⟩
        by_cases hjk : j = k
        · subst hjk; exact fun e => hne e.symm
        · exact h1 j (by omega)
/-- How many are not yet listed. -/
def unl (listed : Array Bool) : Nat → Nat
  | 0 => 0
  | k + 1 => unl listed k + (if listed.getD k true then 0 else 1)
theorem unl_set {listed : Array Bool} {i : Nat} (hi : listed.getD i true = false) : ∀ k, unl (listed.setIfInBounds i true) k + (if i < k then 1 else 0) = unl listed k
  | 0 => rfl
  | k + 1 => by
    have ih := unl_set hi k
    have hb : i < listed.size := by
      apply Classical.byContradiction
      intro hb
      rw [Array.getD_eq_getD_getElem?, Array.getElem?_eq_none (by omega)] at hi
      cases hi
    have h1 : (listed.setIfInBounds i true).getD i true = true := by simp [hb]
    simp only [unl]
    by_cases hik : i = k
    · subst hik
      simp only [Nat.lt_irrefl, if_false, Nat.add_zero] at ih
      rw [h1, hi, ih]
      simp
    · rw [getD_set_ne true hik]
      by_cases hlt : i < k
      · have h2 : i < k + 1 := by omega
        simp only [hlt, h2, if_true] at ih ⊢
        omega
      · have h2 : ¬ i < k + 1 := by omega
        simp only [hlt, h2, if_false] at ih ⊢
        omega
theorem unl_zero {listed : Array Bool} : ∀ k, unl listed k = 0 → ∀ j, j < k → listed.getD j true = true
  | 0, _, j, hj => absurd hj (by omega)
  | k + 1, h, j, hj => by
    simp only [unl] at h
    by_cases hjk : j = k
    · subst hjk
      cases hb : listed.getD j true with
      | true => rfl
      | false => rw [hb] at h; simp at h
    · exact unl_zero k (by omega) j (by omega)
/-- In the midst of a region. -/
structure Mid (P : Program) (N : Nat) (w0 : Start) (ops : Array Oper) (md : Region.Mode) (d : Nat → Nat) (s : Nat → SV) (σ : Sig) (listed : Array Bool) (ρ : Rho) (S : Nat → Prop) (a : Act) (w : World) : Prop where
  len : listed.size = ops.size
  closed : ∀ j o, ops[j]? = some o → listed.getD j false = true → ∀ e ∈ o.after, Region.binds md e = true → listed.getD e.on false = true
  mem : St N w0 ρ S ⟨[], σ.heap⟩ a w
  done : ∀ j, j < ops.size → listed.getD j false = true → RS ρ w S (s j) (a.tmps.getD (d j) undef)
  old : ∀ t x, σ.env.lookup t = some x → (∀ j, j < ops.size → d j = t → listed.getD j false = false) → RS ρ w S x (a.tmps.getD t undef)
theorem getD_tf {listed : Array Bool} {j : Nat} (hj : j < listed.size) : listed.getD j true = listed.getD j false := by
  rw [Array.getD_eq_getD_getElem?, Array.getD_eq_getD_getElem?, Array.getElem?_eq_getElem hj]; rfl
theorem St.memOnly {σ : Sig} {ρ : Rho} {S : Nat → Prop} {a : Act} {w : World} (h : St N w0 ρ S σ a w) : St N w0 ρ S ⟨[], σ.heap⟩ a w := ⟨h.size, h.defers, h.below, h.mem, fun t s hs => by simp at hs⟩
theorem any_order {σ τ : Sig} {Q : Exit → Act → World → Prop} (hord : ordB md ops = true) (h : ADs P N ops ops.toList σ τ) (hQ : ∀ ρ S a w, St N w0 ρ S τ a w → Q .normal a w) :
    ∀ (ρ : Rho) (S : Nat → Prop) (a : Act) (w : World), St N w0 ρ S σ a w → wpAny P md ops Q ops.size (Array.replicate ops.size false) a w := by
  obtain ⟨d, s, e, he0, hτ, hst⟩ := h.lay
  have hops : ∀ k, ops.toList[k]? = ops[k]? := fun k => by first | rfl | exact Array.getElem?_toList | simp
  have hlen : ops.toList.length = ops.size := by simp
  have hstep : ∀ k o, ops[k]? = some o → o.dst = some (d k) ∧ d k < N ∧ e (k + 1) = (d k, s k) :: e k ∧ OpStep P ops o (Sig.only ⟨e k, σ.heap⟩ (o.looksAt ops)) (s k) := fun k o hk => hst k o (by rw [hops]; exact hk)
  have hinj : ∀ i j, i < ops.size → j < ops.size → i ≠ j → d i ≠ d j := fun i j hi hj hne heq => by
    have g1 := hstep i _ (Array.getElem?_eq_getElem hi)
    have g2 := hstep j _ (Array.getElem?_eq_getElem hj)
    exact (ordB_pair hord (Array.getElem?_eq_getElem hi) (Array.getElem?_eq_getElem hj)).1 hne (by rw [g1.1, g2.1, heq])
  have hget := lay_get (fun k hk => (hstep k _ (Array.getElem?_eq_getElem hk)).2.2.1) hinj
  have key : ∀ fuel listed ρ S a w, unl listed ops.size = fuel → Mid P N w0 ops md d s σ listed ρ S a w → wpAny P md ops Q fuel listed a w := by
    intro fuel
    induction fuel with
    | zero =>
      intro listed ρ S a w hf hm
      have hall : ∀ j, j < ops.size → listed.getD j true = true := unl_zero _ hf
      refine ⟨?_, ?_⟩
      · unfold Region.ready
        rw [List.filter_eq_nil_iff]
        intro i hi
        rw [hall i (List.mem_range.1 hi)]; simp
      · refine hQ ρ S a w ⟨hm.mem.size, hm.mem.defers, hm.mem.below, by rw [hτ]; exact hm.mem.mem, fun t x ht => ?_⟩
        rw [hτ, hlen] at ht
        rcases hget _ (Nat.le_refl _) t x ht with ⟨j, hj, rfl, rfl⟩ | ⟨h1, h2⟩
        · exact hm.done j hj (by rw [← getD_tf (by rw [hm.len]; exact hj)]; exact hall j hj)
        · exact hm.old t x (by rw [← he0]; exact h2) fun j hj hd => absurd hd (h1 j hj)
    | succ fuel ih =>
      intro listed ρ S a w hf hm
      refine ⟨fun hnil => ?_, fun i hi => ?_⟩
      · -- something is ready: the least that is not listed
        exfalso
        have hex : ∃ j, j < ops.size ∧ listed.getD j true = false := by
          by_cases hall : ∀ j, j < ops.size → listed.getD j true = true
          · have : ∀ k, k ≤ ops.size → unl listed k = 0 := by
              intro k
              induction k with
              | zero => intro _; rfl
              | succ k ihk => intro hk; simp only [unl]; rw [ihk (by omega), hall k (by omega)]; rfl
            have := this _ (Nat.le_refl _)
            omega
          · apply Classical.byContradiction
            intro hno
            exact hall fun j hj => by
              cases hb : listed.getD j true with
              | true => rfl
              | false => exact absurd ⟨j, hj, hb⟩ hno
        obtain ⟨j0, hj0⟩ := hex
        obtain ⟨j, ⟨hj, hb⟩, hmin⟩ := exists_min (p := fun j => j < ops.size ∧ listed.getD j true = false) j0 hj0
        have : j ∈ Region.ready md ops listed := by
          refine mem_ready.2 ⟨hb, _, Array.getElem?_eq_getElem hj, fun ed hed hbd => ?_⟩
          have hlt := ordB_after hord (Array.getElem?_eq_getElem hj) ed hed hbd
          have h1 : listed.getD ed.on true = true := by
            cases hc : listed.getD ed.on true with
            | true => rfl
            | false => have := hmin ed.on ⟨by omega, hc⟩; omega
          rw [← getD_tf (by rw [hm.len]; omega)]; exact h1
        rw [hnil] at this
        cases this
      · obtain ⟨hun, o, ho, hpre⟩ := mem_ready.1 hi
        have hilt : i < ops.size := (Array.getElem?_eq_some_iff.1 ho).1
        obtain ⟨hd, hN, hen, hop⟩ := hstep i o ho
        have hunf : listed.getD i false = false := by rw [← getD_tf (by rw [hm.len]; exact hilt)]; exact hun
        have hpre' : St N w0 ρ S (Sig.only ⟨e i, σ.heap⟩ (o.looksAt ops)) a w := by
          refine ⟨hm.mem.size, hm.mem.defers, hm.mem.below, hm.mem.mem, fun t x ht => ?_⟩
          obtain ⟨htl, ht⟩ := lookup_filter ht
          rcases hget i (by omega) t x ht with ⟨j, hj, rfl, rfl⟩ | ⟨h1, h2⟩
          · have hjlt : j < ops.size := by omega
            obtain ⟨g1, _⟩ := hstep j _ (Array.getElem?_eq_getElem hjlt)
            rcases (ordB_pair hord ho (Array.getElem?_eq_getElem hjlt)).2 _ g1 htl with e1 | ⟨_, ed, hed, hb, hon⟩ | ⟨hn, _⟩
            · omega
            · exact hm.done j hjlt (by rw [← hon]; exact hpre ed hed hb)
            · exact absurd hj hn
          · refine hm.old t x (by rw [← he0]; exact h2) fun j hj hdj => ?_
            obtain ⟨g1, _⟩ := hstep j _ (Array.getElem?_eq_getElem hj)
            rw [hdj] at g1
            rcases (ordB_pair hord ho (Array.getElem?_eq_getElem hj)).2 _ g1 htl with e1 | ⟨hlt, _⟩ | ⟨hn, ed, hed, hb, hon⟩
            · subst e1; exact hunf
            · exact absurd hdj (h1 j hlt)
            · cases hc : listed.getD j false with
              | false => rfl
              | true =>
                have := hm.closed j _ (Array.getElem?_eq_getElem hj) hc ed hed hb
                rw [hon, hunf] at this
                cases this
        have hnext : ∀ v S' w', Same S w S' w' → Below w.heap.size w w' → (∀ b, S' b → S b ∨ w.heap.size ≤ b) → St N w0 ρ S' (Sig.only ⟨e i, σ.heap⟩ (o.looksAt ops)) a w' → RS ρ w' S' (s i) v → wpAny P md ops Q fuel (listed.setIfInBounds i true) (a.put o.dst v) w' := by
          intro v S' w' hsame hbel _ hs' hv
          refine ih _ ρ S' _ w' ?_ ⟨by simp [hm.len], ?_, ?_, ?_, ?_⟩
          · have := unl_set hun ops.size
            rw [if_pos hilt] at this
            omega
          · intro j oj hoj hl ed hed hb
            by_cases hji : j = i
            · subst hji
              rw [ho] at hoj
              obtain rfl := Option.some.inj hoj
              exact getD_set_true (hpre ed hed hb)
            · rw [getD_set_ne false (Ne.symm hji)] at hl
              exact getD_set_true (hm.closed j oj hoj hl ed hed hb)
          · have := hs'.memOnly
            rw [hd]
            exact (this.put hN hv).memOnly
          · intro j hj hl
            have hsz : d i < a.tmps.size := by rw [hm.mem.size]; exact hN
            rw [hd, getD_put hsz]
            by_cases hji : j = i
            · subst hji; rw [if_pos rfl]; exact hv
            · rw [if_neg (hinj j i hj hilt hji)]
              rw [getD_set_ne false (Ne.symm hji)] at hl
              exact (hm.done j hj hl).keep hsame (Rn.refl _ _)
          · intro t x ht hno
            have hsz : d i < a.tmps.size := by rw [hm.mem.size]; exact hN
            have hti : t ≠ d i := fun e => by
              have := hno i hilt e.symm
              rw [show (listed.setIfInBounds i true).getD i false = true by simp [hm.len, hilt]] at this
              cases this
            rw [hd, getD_put hsz, if_neg hti]
            refine (hm.old t x ht fun j hj hdj => ?_).keep hsame (Rn.refl _ _)
            have hji : i ≠ j := fun e => hti (by rw [← hdj, e])
            have := hno j hj hdj
            rwa [getD_set_ne false hji] at this
        have h1 := hop.run N w0 ρ S a w (wpAny P md ops Q fuel (listed.setIfInBounds i true)) Q hpre' hnext
        unfold wpOp
        simp only [ho]
        split
        · rename_i hw; rw [if_pos hw] at h1; exact .inl h1
        · rename_i hw; rw [if_neg hw] at h1; exact h1
  intro ρ S a w hs
  refine key ops.size _ ρ S a w ?_ ⟨by simp, fun j o ho hl => ?_, hs.memOnly, fun j hj hl => ?_, fun t x ht _ => hs.env t x ht⟩
  · have : ∀ k, k ≤ ops.size → unl (Array.replicate ops.size false) k = k := by
      intro k
      induction k with
      | zero => intro _; rfl
      | succ k ihk => intro hk; simp only [unl]; rw [ihk (by omega)]; simp [show k < ops.size by omega]
    exact this _ (Nat.le_refl _)
  · exfalso
    by_cases hj : j < ops.size <;> simp [hj] at hl
  · exfalso
    simp [hj] at hl
theorem AW.any {i : Nat} {l : List Oper} {Q : Exit → Sig → Prop} {σ : Sig} (hm : P.follows .mixedOrders = true) (hord : ordB .any l.toArray = true) (h : AD P N l.toArray (fun σ => Q .normal σ) l σ) : AW P N w0 (.region i l.toArray true) Q σ := by
  intro ρ S a w Q' hQ hs
  obtain ⟨τ, h1, h2⟩ := h
  refine wp_region_any hm ?_
  exact any_order hord (by simpa using h1) (fun ρ S a w hs' => hQ _ ρ S τ a w hs' h2) ρ S a _ (hs.world ((Below.refl _ _).drew))
end
end Go.Proofs.Ytmfkmifkkplidaa
