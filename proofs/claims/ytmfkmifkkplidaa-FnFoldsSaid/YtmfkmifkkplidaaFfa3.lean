/-
  Part 3 of the proof: the texts of a seat's own library, joined.
-/
import Derived.Laws.CopyOwn
import Derived.Lib.Overlaps
import Derived.Lib.AppendZerosOnto
import Derived.Test.YtmfkmifkkplidaaFfa1
import Derived.Test.YtmfkmifkkplidaaFfa2
/-
  A calculus for walks, part 37: copy onto a row of the walk's own (cells of size one).
-/
namespace Go.Proofs.Ytmfkmifkkplidaa
open Go.ChangeShapes Go.WideShapes Go.ChangeAt Go.RowKit Go.BigFrame Go.Deep
set_option linter.unusedVariables false

set_option linter.unusedSimpArgs false
section
variable {P : Program} {N : Nat} {w0 : Start} {σ : Sig} {ops : Array Oper} {rest : List Oper} {o : Oper} {Q : Sig → Prop}
theorem St.reblock {ρ : Rho} {S : Nat → Prop} {a : Act} {w w' : World} (hs : St N w0 ρ S σ a w) {id sz n : Nat} {f f' : Nat → Nat → AV} (ho : σ.heap.lookup id = some (.arr sz n f)) (hc0 : (ρ id).2 ≠ 0) {cs' : Array Value}
    (h1 : ∀ cs e, w.heap[(ρ id).1]? = some (.cells cs e (0, 0)) → w'.heap[(ρ id).1]? = some (.cells cs' e (0, 0)) ∧ cs'.size = cs.size) (hblk : ∀ k, k ≠ (ρ id).1 → w'.heap[k]? = w.heap[k]?) (hsz : w'.heap.size = w.heap.size) (hb : Below w0.base w w')
    (hcell : ∀ i j, i < n → j < sz → ∃ u, cs'[i * sz + j]? = some u ∧ R ρ w S (f' i j) u) : St N w0 ρ S ⟨σ.env, (id, .arr sz n f') :: σ.heap⟩ a w' := by
  obtain ⟨cs, e, g1, g2, g3, g4, g5, g6, g7⟩ := hs.mem.obj id _ ho hc0
  obtain ⟨hown, hcsz⟩ := h1 cs e g1
  have hsame : Same S w S w' := ⟨fun _ h => h, fun b hb => hblk b fun e => g6 (e ▸ hb)⟩
  refine ⟨hs.size, hs.defers, hs.below.step hb hsame, ⟨hs.mem.base, by rw [hsz]; exact hs.mem.low, fun b hb => by rw [hsz]; exact hs.mem.lt b hb, ?_, ?_, ?_, ?_⟩, fun t s ht => (hs.env t s ht).keep hsame (Rn.refl _ _)⟩
  · intro k p hp
    rcases lookup_put hp with ⟨rfl, rfl⟩ | ⟨hne, hp⟩
    · exact (show (AObj.arr sz n f).n ≤ _ from hs.mem.cap k _ ho)
    · exact hs.mem.cap k p hp
  · intro k p hp hc
    rcases lookup_put hp with ⟨rfl, rfl⟩ | ⟨hne, hp⟩
    · refine ⟨cs', e, hown, by rw [hcsz]; exact g2, g3, g4, g5, g6, fun i j hi hj => ?_⟩
      obtain ⟨u, hu, hr⟩ := hcell i j hi hj
      exact ⟨u, hu, hr.keep hsame (Rn.refl _ _)⟩
    · obtain ⟨cs2, e2, q1, q2, q3, q4, q5, q6, q7⟩ := hs.mem.obj k p hp hc
      refine ⟨cs2, e2, by rw [hblk _ (hs.mem.inj k id p _ hp ho hne hc hc0)]; exact q1, q2, q3, q4, q5, q6, fun i j hi hj => ?_⟩
      obtain ⟨v, hv, hr⟩ := q7 i j hi hj
      exact ⟨v, hv, hr.keep hsame (Rn.refl _ _)⟩
  · have conv : ∀ {k p}, ((id, AObj.arr sz n f') :: σ.heap : Heap).lookup k = some p → ∃ p', σ.heap.lookup k = some p' := fun {k p} hp => by
      rcases lookup_put hp with ⟨rfl, rfl⟩ | ⟨_, hp⟩
      · exact ⟨_, ho⟩
      · exact ⟨p, hp⟩
    intro k k' p p' hp hp' hne hc hc'
    obtain ⟨q, hq⟩ := conv hp
    obtain ⟨q', hq'⟩ := conv hp'
    exact hs.mem.inj k k' q q' hq hq' hne hc hc'
  · refine hs.mem.treeOf (Nat.le_refl _) (fun k n X hX => ?_) (fun k n X i b hX hi hb => ?_) (fun k p hp hc => ?_)
    · rcases lookup_put hX with ⟨_, h⟩ | ⟨hne, hX⟩
      · cases h
      · exact ⟨X, hX, fun _ _ => rfl, rfl, rfl, rfl⟩
    · obtain ⟨q1, q2, q3, q4, _⟩ := (hs.mem.tree k n X hX i hi).2 b hb
      exact ⟨hblk b fun e => q4 id _ ho hc0 e.symm, by rw [hsz]; exact q2, q3⟩
    · rcases lookup_put hp with ⟨rfl, rfl⟩ | ⟨_, hp⟩
      · exact .inl ⟨_, ho, rfl⟩
      · exact .inl ⟨p, hp, rfl⟩
theorem KnR.at_ {ρ : Rho} {S : Nat → Prop} {a : Act} {w : World} {y : Operand} {sz m : Nat} {g : Nat → Nat → AV} (h : KnR σ y sz m g) (hs : St N w0 ρ S σ a w) : ∃ A c, a.eval y = .slice A m c ∧ (0 < m → ∃ b off, A = some ⟨b, off, none⟩ ∧ ∀ i j, i < m → j < sz → ∃ u, w.cell? ⟨b, off + (i * sz + j), none⟩ = some u ∧ R ρ w S (g i j) u) := by
  cases h with
  | @own id ob k1 k2 k3 k4 k5 =>
    subst k3
    obtain ⟨A, ev, hn1, hn2, hA⟩ := k1.sound hs
    refine ⟨A, _, ev, fun hm => ?_⟩
    have hc : (ρ id).2 ≠ 0 := by omega
    obtain ⟨cs, e, h1, h2, h3, h4, h5, h6, h7⟩ := hs.mem.obj id ob k2 hc
    refine ⟨(ρ id).1, 0, by rcases hA with h | ⟨_, h⟩; (· exact h); (· exact absurd h hc), fun i j hi hj => ?_⟩
    obtain ⟨u, hu, hr⟩ := h7 i j (by omega) hj
    rw [k5 i j hi hj] at hr
    exact ⟨u, by simp [World.cell?, h1, hu], hr⟩
  | gen k1 => exact k1 _ _ _ _ _ _ hs
  | lst k1 =>
    obtain ⟨A, c, ev, h1, h2, h3, h4⟩ := k1.sound hs
    refine ⟨A, c, ev, fun hm => ?_⟩
    obtain ⟨b, off, hA, _, _⟩ := h4 0 hm
    refine ⟨b, off, hA, fun i j hi hj => ?_⟩
    obtain ⟨b', off', hA', _, hc⟩ := h4 i hi
    rw [hA] at hA'
    cases hA'
    obtain ⟨u, hu, hd⟩ := hc j hj
    exact ⟨u, hu, hd.toR⟩
/-- Where a copy goes: an own row from place q on. -/
inductive KnD (σ : Sig) (x : Operand) (id q n : Nat) : Prop
  | tl : Kn σ x (.one (.tl id 1 q n)) → KnD σ x id q n
  | own : q = 0 → Kn σ x (.one (.own id 1 n)) → KnD σ x id q n
end
end Go.Proofs.Ytmfkmifkkplidaa


/-
  A calculus for walks, part 38: a member of a family becomes a row of its own (takeOut); the names of a family are given anew (reindex).
-/
namespace Go.Proofs.Ytmfkmifkkplidaa
open Go.ChangeShapes Go.WideShapes Go.ChangeAt Go.RowKit Go.BigFrame Go.Deep
set_option linter.unusedVariables false

set_option linter.unusedSimpArgs false
section
variable {P : Program} {N : Nat} {w0 : Start} {σ : Sig} {ops : Array Oper} {rest : List Oper} {o : Oper} {Q : Sig → Prop}
/-- A reading does not look at the blocks of the families. -/
theorem R.noB {ρ ρ' : Rho} {w : World} {S : Nat → Prop} {id : Nat} (hb : ρ'.base = ρ.base) (hm : ∀ k, k ≠ id → ρ' k = ρ k) (hv : ∀ k, k ≠ id → ρ'.tv k = ρ.tv k) (hn : ∀ k, k ≠ id → ρ'.tn k = ρ.tn k) : ∀ {x : AV} {u : Value}, x.no id = true → R ρ w S x u → R ρ' w S x u := by
  intro x
  induction x with
  | tre k i =>
    rintro u h ⟨e, hi, hsl⟩
    have hk : k ≠ id := fun e => by subst e; simp [AV.no] at h
    exact ⟨by rw [hv k hk]; exact e, by rw [hn k hk]; exact hi, hsl⟩
  | fn g m caps ih =>
    rintro u h ⟨vs, e, hm, hc⟩
    rw [AV.no, List.all_eq_true] at h
    refine ⟨vs, e, hm, fun j hj => ?_⟩
    obtain ⟨u, hu, hr⟩ := hc j hj
    exact ⟨u, hu, ih j (h j (List.mem_range.2 hj)) hr⟩
  | frs x =>
    intro u _ h
    unfold R at h ⊢
    exact h.keep ⟨fun b hb' => ⟨hb'.1, by rw [hb]; exact hb'.2⟩, fun _ _ => rfl⟩
  | lst _ _ _ => exact fun _ h => h
  | ref _ _ => exact fun _ h => h
  | int _ _ => exact fun _ h => h
  | bool _ => exact fun _ h => h
  | str _ => exact fun _ h => h
  | con _ => exact fun _ h => h
  | cv _ _ => exact fun _ h => h
  | tl k _ _ _ =>
    intro u h hr
    have hk : k ≠ id := fun e => by subst e; simp [AV.no] at h
    unfold R at hr ⊢
    rw [hm k hk]; exact hr
  | ptr k _ _ _ =>
    intro u h hr
    have hk : k ≠ id := fun e => by subst e; simp [AV.no] at h
    unfold R at hr ⊢
    rw [hm k hk]; exact hr
  | own k _ _ =>
    intro u h hr
    have hk : k ≠ id := fun e => by subst e; simp [AV.no] at h
    unfold R at hr ⊢
    rw [hm k hk]; exact hr
theorem RL.noB {ρ ρ' : Rho} {w : World} {S : Nat → Prop} {id : Nat} (hb : ρ'.base = ρ.base) (hm : ∀ k, k ≠ id → ρ' k = ρ k) (hv : ∀ k, k ≠ id → ρ'.tv k = ρ.tv k) (hn : ∀ k, k ≠ id → ρ'.tn k = ρ.tn k) : ∀ {l : List AV} {us : List Value}, l.all (AV.no id) = true → RL ρ w S l us → RL ρ' w S l us
  | [], _, _, h => h
  | x :: l, _, hno, h => by
    obtain ⟨u, us', e, h1, h2⟩ := h
    rw [List.all_cons, Bool.and_eq_true] at hno
    exact ⟨u, us', e, R.noB hb hm hv hn hno.1 h1, RL.noB hb hm hv hn hno.2 h2⟩
theorem RS.noB {ρ ρ' : Rho} {w : World} {S : Nat → Prop} {id : Nat} (hb : ρ'.base = ρ.base) (hm : ∀ k, k ≠ id → ρ' k = ρ k) (hv : ∀ k, k ≠ id → ρ'.tv k = ρ.tv k) (hn : ∀ k, k ≠ id → ρ'.tn k = ρ.tn k) : ∀ {s : SV} {u : Value}, s.no id = true → RS ρ w S s u → RS ρ' w S s u := by
  intro s
  induction s with
  | one x => exact R.noB hb hm hv hn
  | agg l => rintro u hno ⟨us, e, h⟩; exact ⟨us, e, RL.noB hb hm hv hn hno h⟩
  | tup2 x y ih1 ih2 =>
    rintro u hno ⟨a, b, e, h1, h2⟩
    rw [SV.no, Bool.and_eq_true] at hno
    exact ⟨a, b, e, ih1 hno.1 h1, ih2 hno.2 h2⟩
  | tup3 x y z ih1 ih2 ih3 =>
    rintro u hno ⟨a, b, c, e, h1, h2, h3⟩
    rw [SV.no, Bool.and_eq_true, Bool.and_eq_true] at hno
    exact ⟨a, b, c, e, ih1 hno.1.1 h1, ih2 hno.1.2 h2, ih3 hno.2 h3⟩
  | tup4 x y z t ih1 ih2 ih3 ih4 =>
    rintro u hno ⟨a, b, c, d, e, h1, h2, h3, h4⟩
    rw [SV.no, Bool.and_eq_true, Bool.and_eq_true, Bool.and_eq_true] at hno
    exact ⟨a, b, c, d, e, ih1 hno.1.1.1 h1, ih2 hno.1.1.2 h2, ih3 hno.1.2 h3, ih4 hno.2 h4⟩
  | gd b s ih => rintro u hno ⟨h1, h2⟩; exact ⟨fun hb => ih hno (h1 hb), h2⟩
theorem St.takeOut {ρ : Rho} {S : Nat → Prop} {a : Act} {w : World} (hs : St N w0 ρ S σ a w) {t K q m sz n id : Nat} {X : Nat → AV} {f : Nat → Nat → AV} (ht : σ.env.lookup t = some (.one (.tre K q))) (hK : σ.heap.lookup K = some (.trees m X)) (hq : q < m) (hX : X q = .lst sz n f)
    (hlt : Nat.blt K 1000000 = true) (hsc : ∀ i j, i < n → j < sz → (f i j).scl = true) (hno : ∀ i j, (f i j).no id = true) (hf : Fr id σ) :
    ∃ ρ' v, St N w0 ρ' S ⟨(t, .one (.own id sz n)) :: σ.env, (id, .arr sz n f) :: (K, .trees m fun i => if i = q then .con v else X i) :: σ.heap⟩ a w := by
  obtain ⟨ev, _⟩ := hs.env _ _ ht
  obtain ⟨t1, t2⟩ := hs.mem.tree K m X hK q hq
  rw [hX] at t1
  rw [← ev] at t1
  unfold Tr at t1
  obtain ⟨A, c, e, hnc, hcm, hcase⟩ := t1
  obtain ⟨b, cs, hA, hblk⟩ : ∃ (b : Nat) (cs : Array Value), (A = some ⟨b, 0, none⟩ ∨ (A = none ∧ c = 0)) ∧ (c ≠ 0 → ρ.tb K q b ∧ (∃ e, w.heap[b]? = some (.cells cs e (0, 0))) ∧ cs.size = c * sz ∧ ∀ i j, i < n → j < sz → ∃ u, cs[i * sz + j]? = some u ∧ R ρ w S (f i j) u) := by
    rcases hcase with ⟨rfl, hA⟩ | ⟨b, cs, e', g1, g2, g3, g4, F, g5, g6⟩
    · rcases hA with hA | ⟨b, hA⟩
      · exact ⟨0, #[], .inr ⟨hA, rfl⟩, fun h => absurd rfl h⟩
      · exact ⟨b, #[], .inl hA, fun h => absurd rfl h⟩
    · refine ⟨b, cs, .inl g1, fun _ => ⟨g2, ⟨e', g3⟩, g4, fun i j hi hj => ?_⟩⟩
      obtain ⟨_, u, hu, hT⟩ := g5 i j hi hj
      refine ⟨u, hu, ?_⟩
      have hl := hsc i j hi hj
      generalize f i j = y at hT hl
      cases y <;> first | exact hT | cases hl
  have hKid : K ≠ id := (hf.heap.get hK).1
  have hlt' : K < 1000000 := by simpa [Nat.blt_eq] using hlt
  let ρ' : Rho := ⟨fun k => if k = id then (b, c) else ρ k, ρ.base, ρ.tv, fun k i => if k = K ∧ i = q then (fun _ => False) else ρ.tb k i, ρ.tn⟩
  have hm : ∀ k, k ≠ id → ρ' k = ρ k := fun k hk => if_neg hk
  have hmid : ρ' id = (b, c) := if_pos rfl
  have htb : ∀ k i, ¬ (k = K ∧ i = q) → ρ'.tb k i = ρ.tb k i := fun k i h => if_neg h
  have htq : ρ'.tb K q = fun _ => False := if_pos ⟨rfl, rfl⟩
  have hkeep : ∀ {x : AV} {u : Value}, x.no id = true → R ρ w S x u → R ρ' w S x u := R.noB (ρ := ρ) (ρ' := ρ') (id := id) rfl hm (fun _ _ => rfl) (fun _ _ => rfl)
  refine ⟨ρ', ρ.tv K q, ?_⟩
  have conv : ∀ {k p}, ((id, AObj.arr sz n f) :: (K, AObj.trees m fun i => if i = q then .con (ρ.tv K q) else X i) :: σ.heap : Heap).lookup k = some p → k ≠ id → ∃ p', σ.heap.lookup k = some p' ∧ p'.sz = p.sz ∧ p'.n = p.n ∧ ∀ i j, i < p.n → p.f i j = p'.f i j := fun {k p} hp hk => by
    rcases lookup_put hp with ⟨h1, _⟩ | ⟨_, hp⟩
    · exact absurd h1 hk
    · rcases lookup_put hp with ⟨rfl, rfl⟩ | ⟨_, hp⟩
      · exact ⟨_, hK, rfl, rfl, fun i j hi => absurd hi (Nat.not_lt_zero _)⟩
      · exact ⟨p, hp, rfl, rfl, fun _ _ _ => rfl⟩
  have convT : ∀ {k m2 Y}, ((id, AObj.arr sz n f) :: (K, AObj.trees m fun i => if i = q then .con (ρ.tv K q) else X i) :: σ.heap : Heap).lookup k = some (.trees m2 Y) → k ≠ id ∧ ∃ Y', σ.heap.lookup k = some (.trees m2 Y') ∧ ∀ i, ¬ (k = K ∧ i = q) → Y i = Y' i := fun {k m2 Y} hp => by
    rcases lookup_put hp with ⟨_, h1⟩ | ⟨hk, hp⟩
    · cases h1
    · rcases lookup_put hp with ⟨rfl, h1⟩ | ⟨hk2, hp⟩
      · cases h1
        exact ⟨hk, X, hK, fun i hi => if_neg fun e => hi ⟨rfl, e⟩⟩
      · exact ⟨hk, Y, hp, fun _ _ => rfl⟩
  refine ⟨hs.size, hs.defers, ⟨hs.below.old, hs.below.same, fun k hk => (hs.below.ids k hk).trans ⟨hm k (fun e => by have := hf.small; omega), rfl, by funext i; exact htb k i (fun e => by omega), rfl⟩⟩, ⟨hs.mem.base, hs.mem.low, hs.mem.lt, ?_, ?_, ?_, ?_⟩, fun t' s ht' => ?_⟩
  · intro k p hp
    by_cases hk : k = id
    · subst hk
      rcases lookup_put hp with ⟨_, rfl⟩ | ⟨hne, _⟩
      · rw [hmid]; exact hnc
      · exact absurd rfl hne
    · obtain ⟨p', h1, h2, h3, h4⟩ := conv hp hk
      rw [hm k hk, ← h3]; exact hs.mem.cap k p' h1
  · intro k p hp hc
    by_cases hk : k = id
    · subst hk
      rcases lookup_put hp with ⟨_, rfl⟩ | ⟨hne, _⟩
      · rw [hmid] at hc ⊢
        obtain ⟨g1, ⟨e', g2⟩, g3, g4⟩ := hblk hc
        obtain ⟨q1, q2, q3, _⟩ := t2 b g1
        refine ⟨cs, e', g2, g3, hnc, hcm, q1, q3, fun i j hi hj => ?_⟩
        obtain ⟨u, hu, hr⟩ := g4 i j hi hj
        exact ⟨u, hu, hkeep (hno i j) hr⟩
      · exact absurd rfl hne
    · obtain ⟨p', h1, h2, h3, h4⟩ := conv hp hk
      rw [hm k hk] at hc ⊢
      obtain ⟨cs2, e2, g1, g2, g3, g4, g5, g6, g7⟩ := hs.mem.obj k p' h1 hc
      refine ⟨cs2, e2, g1, by rw [← h2]; exact g2, by rw [← h3]; exact g3, g4, g5, g6, fun i j hi hj => ?_⟩
      obtain ⟨u, hu, hr⟩ := g7 i j (by rw [h3]; exact hi) (by rw [h2]; exact hj)
      refine ⟨u, by rw [← h2]; exact hu, ?_⟩
      rw [h4 i j hi]
      exact hkeep ((hf.heap.get h1).2.at_ i j) hr
  · intro k k' p p' hp hp' hne hc hc'
    by_cases hk : k = id
    · subst hk
      obtain ⟨p2, h1, _⟩ := conv hp' (fun e => hne e.symm)
      rw [hmid] at hc ⊢
      rw [hm k' (fun e => hne e.symm)] at hc' ⊢
      obtain ⟨g1, _⟩ := hblk hc
      exact fun e => (t2 b g1).2.2.2.1 k' p2 h1 hc' e.symm
    · obtain ⟨p1, h1, _⟩ := conv hp hk
      rw [hm k hk] at hc ⊢
      by_cases hk' : k' = id
      · subst hk'
        rw [hmid] at hc' ⊢
        obtain ⟨g1, _⟩ := hblk hc'
        exact (t2 b g1).2.2.2.1 k p1 h1 hc
      · obtain ⟨p2, h2, _⟩ := conv hp' hk'
        rw [hm k' hk'] at hc' ⊢
        exact hs.mem.inj k k' p1 p2 h1 h2 hne hc hc'
  · intro k m2 Y hY
    obtain ⟨hk, Y', hY', hYe⟩ := convT hY
    refine ⟨(hs.mem.tree0 k m2 Y' hY').1, fun i hi => ?_⟩
    by_cases hkq : k = K ∧ i = q
    · obtain ⟨rfl, rfl⟩ := hkq
      rw [htq]
      refine ⟨?_, fun b hb => hb.elim⟩
      rcases lookup_put hY with ⟨_, h1⟩ | ⟨_, hY⟩
      · cases h1
      · rcases lookup_put hY with ⟨_, h1⟩ | ⟨hk2, _⟩
        · cases h1
          show Tr w (if i = i then _ else _) _ _
          rw [if_pos rfl]
          unfold Tr; rfl
        · exact absurd rfl hk2
    · obtain ⟨g1, g2⟩ := hs.mem.tree k m2 Y' hY' i hi
      rw [hYe i hkq, htb k i hkq]
      refine ⟨g1, fun b' hb' => ?_⟩
      obtain ⟨q1, q2, q3, q4, q5⟩ := g2 b' hb'
      refine ⟨q1, q2, q3, fun k' p hp hc => ?_, fun k' m4 Y4 i' hY4 hi' hne' => ?_⟩
      · by_cases hk' : k' = id
        · subst hk'
          rw [hmid] at hc ⊢
          obtain ⟨g1, _⟩ := hblk hc
          intro e
          have e : b = b' := e
          subst e
          exact q5 K m X q hK hq (fun h => hkq ⟨h.1.symm, h.2.symm⟩) g1
        · obtain ⟨p', h1, _⟩ := conv hp hk'
          rw [hm k' hk'] at hc ⊢
          exact q4 k' p' h1 hc
      · obtain ⟨_, Y5, h5, _⟩ := convT hY4
        by_cases hkq' : k' = K ∧ i' = q
        · obtain ⟨rfl, rfl⟩ := hkq'
          rw [htq]; exact fun h => h
        · rw [htb k' i' hkq']
          exact q5 k' m4 Y5 i' h5 hi' hne'
  · rcases lookup_put ht' with ⟨rfl, rfl⟩ | ⟨_, ht2⟩
    · show ∃ B, _ = Value.slice B n (ρ' id).2 ∧ n ≤ (ρ' id).2 ∧ (ρ' id).2 ≤ maxLen ∧ (B = some ⟨(ρ' id).1, 0, none⟩ ∨ (B = none ∧ (ρ' id).2 = 0))
      rw [hmid]
      exact ⟨A, e, hnc, hcm, hA⟩
    · exact RS.noB (ρ := ρ) (ρ' := ρ') (id := id) rfl hm (fun _ _ => rfl) (fun _ _ => rfl) (List.all_eq_true.1 hf.env _ (lookup_mem ht2)) (hs.env t' s ht2)
theorem ARun.takeOut (t K q m sz n id : Nat) (X : Nat → AV) (f : Nat → Nat → AV) (ht : σ.env.lookup t = some (.one (.tre K q))) (hK : σ.heap.lookup K = some (.trees m X)) (hq : q < m) (hX : X q = .lst sz n f) (hlt : Nat.blt K 1000000 = true)
    (hsc : ∀ i j, i < n → j < sz → (f i j).scl = true) (hno : ∀ i j, (f i j).no id = true) (hf : Fr id σ) (h : ∀ v, ARun P N w0 ops Q rest ⟨(t, .one (.own id sz n)) :: σ.env, (id, .arr sz n f) :: (K, .trees m fun i => if i = q then .con v else X i) :: σ.heap⟩) : ARun P N w0 ops Q rest σ := by
  intro ρ S a w Q' hQ hs
  obtain ⟨ρ', v, hs'⟩ := hs.takeOut ht hK hq hX hlt hsc hno hf
  exact h v ρ' S a w Q' hQ hs'
/-- The names of a family are given anew: the member i of the new one is the member φ i of the old one. -/
theorem St.reindex {ρ : Rho} {S : Nat → Prop} {a : Act} {w : World} (hs : St N w0 ρ S σ a w) {K K2 id n n' sz m : Nat} {φ : Nat → Nat} {X : Nat → AV} {f f' : Nat → Nat → AV} (hK : σ.heap.lookup K = some (.trees n X)) (hA : σ.heap.lookup id = some (.arr sz m f))
    (hφ : ∀ i, i < n' → φ i < n) (hinj : ∀ i j, i < n' → j < n' → φ i = φ j → i = j) (hcell : ∀ i j, i < m → j < sz → f' i j = f i j ∨ ∃ p, p < n' ∧ f i j = .tre K (φ p) ∧ f' i j = .tre K2 p) (hf : Fr K2 σ) :
    ∃ ρ', St N w0 ρ' S ⟨σ.env, (K2, .trees n' fun i => X (φ i)) :: (id, .arr sz m f') :: σ.heap.filter fun p => p.1 != K⟩ a w ∧ ∀ p, p < n' → ∀ v, R ρ w S (.tre K (φ p)) v → R ρ' w S (.tre K2 p) v := by
  obtain ⟨hKK, _⟩ := hf.heap.get hK
  obtain ⟨hAK, _⟩ := hf.heap.get hA
  have hidK : id ≠ K := fun e => by subst e; rw [hK] at hA; cases hA
  let ρ' : Rho := ⟨fun k => if k = K2 then (0, 0) else ρ k, ρ.base, fun k => if k = K2 then (fun i => ρ.tv K (φ i)) else ρ.tv k, fun k => if k = K2 then (fun i => ρ.tb K (φ i)) else ρ.tb k, fun k => if k = K2 then n' else ρ.tn k⟩
  have hm : ∀ k, k ≠ K2 → ρ' k = ρ k := fun k hk => if_neg hk
  have hv : ∀ k, k ≠ K2 → ρ'.tv k = ρ.tv k := fun k hk => if_neg hk
  have hb : ∀ k, k ≠ K2 → ρ'.tb k = ρ.tb k := fun k hk => if_neg hk
  have hn : ∀ k, k ≠ K2 → ρ'.tn k = ρ.tn k := fun k hk => if_neg hk
  have hm2 : ρ' K2 = (0, 0) := if_pos rfl
  have hv2 : ρ'.tv K2 = fun i => ρ.tv K (φ i) := if_pos rfl
  have hb2 : ρ'.tb K2 = fun i => ρ.tb K (φ i) := if_pos rfl
  have hn2 : ρ'.tn K2 = n' := if_pos rfl
  have hkeep : ∀ {x : AV} {u : Value}, x.no K2 = true → R ρ w S x u → R ρ' w S x u := R.noB (ρ := ρ) (ρ' := ρ') (id := K2) rfl hm hv hn
  have conv : ∀ {k p}, ((K2, AObj.trees n' fun i => X (φ i)) :: (id, AObj.arr sz m f') :: σ.heap.filter fun p => p.1 != K : Heap).lookup k = some p → k ≠ K2 → k ≠ K ∧ ∃ p', σ.heap.lookup k = some p' ∧ p'.sz = p.sz ∧ p'.n = p.n ∧ (k ≠ id → p' = p) := fun {k p} hp hk => by
    rcases lookup_put hp with ⟨h1, _⟩ | ⟨_, hp⟩
    · exact absurd h1 hk
    · rcases lookup_put hp with ⟨rfl, rfl⟩ | ⟨_, hp⟩
      · exact ⟨hidK, _, hA, rfl, rfl, fun h => absurd rfl h⟩
      · obtain ⟨f1, f2⟩ := filter_lookup hp
        exact ⟨f1, p, f2, rfl, rfl, fun _ => rfl⟩
  have convT : ∀ {k m2 Y}, ((K2, AObj.trees n' fun i => X (φ i)) :: (id, AObj.arr sz m f') :: σ.heap.filter fun p => p.1 != K : Heap).lookup k = some (.trees m2 Y) → (k = K2 ∧ m2 = n' ∧ Y = fun i => X (φ i)) ∨ (k ≠ K2 ∧ k ≠ K ∧ σ.heap.lookup k = some (.trees m2 Y)) := fun {k m2 Y} hp => by
    rcases lookup_put hp with ⟨rfl, h1⟩ | ⟨hk, hp⟩
    · cases h1; exact .inl ⟨rfl, rfl, rfl⟩
    · rcases lookup_put hp with ⟨rfl, h1⟩ | ⟨_, hp⟩
      · cases h1
      · obtain ⟨f1, f2⟩ := filter_lookup hp
        exact .inr ⟨hk, f1, f2⟩
  refine ⟨ρ', ⟨hs.size, hs.defers, ⟨hs.below.old, hs.below.same, fun k hk => (hs.below.ids k hk).trans ?_⟩, ⟨hs.mem.base, hs.mem.low, hs.mem.lt, ?_, ?_, ?_, ?_⟩, fun t' s ht' => ?_⟩, fun q hq v hr => by
    obtain ⟨r1, r2, r3⟩ := hr
    exact ⟨by rw [hv2]; exact r1, by rw [hn2]; exact hq, r3⟩⟩
  · have hne : k ≠ K2 := fun e => by have := hf.small; omega
    exact ⟨hm k hne, hv k hne, hb k hne, hn k hne⟩
  · intro k p hp
    by_cases hk : k = K2
    · subst hk
      rcases lookup_put hp with ⟨_, rfl⟩ | ⟨hne, _⟩
      · exact Nat.zero_le _
      · exact absurd rfl hne
    · obtain ⟨_, p', h1, h2, h3, _⟩ := conv hp hk
      rw [hm k hk, ← h3]; exact hs.mem.cap k p' h1
  · intro k p hp hc
    by_cases hk : k = K2
    · subst hk; rw [hm2] at hc; exact absurd rfl hc
    · obtain ⟨_, p', h1, h2, h3, h4⟩ := conv hp hk
      rw [hm k hk] at hc ⊢
      obtain ⟨cs2, e2, g1, g2, g3, g4, g5, g6, g7⟩ := hs.mem.obj k p' h1 hc
      refine ⟨cs2, e2, g1, by rw [← h2]; exact g2, by rw [← h3]; exact g3, g4, g5, g6, fun i j hi hj => ?_⟩
      obtain ⟨u, hu, hr⟩ := g7 i j (by rw [h3]; exact hi) (by rw [h2]; exact hj)
      refine ⟨u, by rw [← h2]; exact hu, ?_⟩
      by_cases hkid : k = id
      · subst hkid
        rw [hA] at h1
        cases h1
        rcases lookup_put hp with ⟨h5, _⟩ | ⟨_, hp⟩
        · exact absurd h5 hk
        · rcases lookup_put hp with ⟨_, rfl⟩ | ⟨h5, _⟩
          · have hr : R ρ w S (f i j) u := hr
            show R ρ' w S (f' i j) u
            rcases hcell i j hi hj with h6 | ⟨q, hq, h6, h7⟩
            · rw [h6]; exact hkeep ((hf.heap.get hA).2.at_ i j) hr
            · rw [h6] at hr
              rw [h7]
              obtain ⟨r1, r2, r3⟩ := hr
              exact ⟨by rw [hv2]; exact r1, by rw [hn2]; exact hq, r3⟩
          · exact absurd rfl h5
      · obtain rfl := h4 hkid
        exact hkeep ((hf.heap.get h1).2.at_ i j) hr
  · intro k k' p p' hp hp' hne hc hc'
    by_cases hk : k = K2
    · subst hk; rw [hm2] at hc; exact absurd rfl hc
    by_cases hk' : k' = K2
    · subst hk'; rw [hm2] at hc'; exact absurd rfl hc'
    obtain ⟨_, p1, h1, _⟩ := conv hp hk
    obtain ⟨_, p2, h2, _⟩ := conv hp' hk'
    rw [hm k hk] at hc ⊢
    rw [hm k' hk'] at hc' ⊢
    exact hs.mem.inj k k' p1 p2 h1 h2 hne hc hc'
  · intro k m2 Y hY
    rcases convT hY with ⟨rfl, rfl, rfl⟩ | ⟨hk, hkK, hY'⟩
    · refine ⟨hn2, fun i hi => ?_⟩
      obtain ⟨g1, g2⟩ := hs.mem.tree K n X hK (φ i) (hφ i hi)
      rw [hv2, hb2]
      refine ⟨g1, fun b' hb' => ?_⟩
      obtain ⟨q1, q2, q3, q4, q5⟩ := g2 b' hb'
      refine ⟨q1, q2, q3, fun k' p hp hc => ?_, fun k' m4 Y4 i' hY4 hi' hne' => ?_⟩
      · by_cases hk' : k' = k
        · subst hk'; rw [hm2] at hc; exact absurd rfl hc
        · obtain ⟨_, p', h1, _⟩ := conv hp hk'
          rw [hm k' hk'] at hc ⊢
          exact q4 k' p' h1 hc
      · rcases convT hY4 with ⟨rfl, rfl, rfl⟩ | ⟨hk', hkK', hY5⟩
        · rw [hb2]
          exact q5 K n X (φ i') hK (hφ i' hi') (fun e => hne' ⟨rfl, hinj i' i hi' hi e.2⟩)
        · rw [hb k' hk']
          exact q5 k' m4 Y4 i' hY5 hi' (fun e => hkK' e.1)
    · refine ⟨(hn k hk).trans (hs.mem.tree0 k m2 Y hY').1, fun i hi => ?_⟩
      obtain ⟨g1, g2⟩ := hs.mem.tree k m2 Y hY' i hi
      rw [hv k hk, hb k hk]
      refine ⟨g1, fun b' hb' => ?_⟩
      obtain ⟨q1, q2, q3, q4, q5⟩ := g2 b' hb'
      refine ⟨q1, q2, q3, fun k' p hp hc => ?_, fun k' m4 Y4 i' hY4 hi' hne' => ?_⟩
      · by_cases hk' : k' = K2
        · subst hk'; rw [hm2] at hc; exact absurd rfl hc
        · obtain ⟨_, p', h1, _⟩ := conv hp hk'
          rw [hm k' hk'] at hc ⊢
          exact q4 k' p' h1 hc
      · rcases convT hY4 with ⟨rfl, rfl, rfl⟩ | ⟨hk', hkK', hY5⟩
        · rw [hb2]
          exact q5 K n X (φ i') hK (hφ i' hi') (fun e => hkK e.1.symm)
        · rw [hb k' hk']
          exact q5 k' m4 Y4 i' hY5 hi' hne'
  · exact RS.noB (ρ := ρ) (ρ' := ρ') (id := K2) rfl hm hv hn (List.all_eq_true.1 hf.env _ (lookup_mem ht')) (hs.env t' s ht')
theorem ARun.reindex (K K2 id n n' sz m : Nat) (φ : Nat → Nat) (X : Nat → AV) (f f' : Nat → Nat → AV) (hK : σ.heap.lookup K = some (.trees n X)) (hA : σ.heap.lookup id = some (.arr sz m f))
    (hφ : ∀ i, i < n' → φ i < n) (hinj : ∀ i j, i < n' → j < n' → φ i = φ j → i = j) (hcell : ∀ i j, i < m → j < sz → f' i j = f i j ∨ ∃ p, p < n' ∧ f i j = .tre K (φ p) ∧ f' i j = .tre K2 p) (hf : Fr K2 σ)
    (h : ARun P N w0 ops Q rest ⟨σ.env, (K2, .trees n' fun i => X (φ i)) :: (id, .arr sz m f') :: σ.heap.filter fun p => p.1 != K⟩) : ARun P N w0 ops Q rest σ := by
  intro ρ S a w Q' hQ hs
  obtain ⟨ρ', hs', _⟩ := hs.reindex hK hA hφ hinj hcell hf
  exact h ρ' S a w Q' hQ hs'
theorem AW.reindex {c : Code} {Q : Exit → Sig → Prop} (K K2 id n n' sz m : Nat) (φ : Nat → Nat) (X : Nat → AV) (f f' : Nat → Nat → AV) (hK : σ.heap.lookup K = some (.trees n X)) (hA : σ.heap.lookup id = some (.arr sz m f))
    (hφ : ∀ i, i < n' → φ i < n) (hinj : ∀ i j, i < n' → j < n' → φ i = φ j → i = j) (hcell : ∀ i j, i < m → j < sz → f' i j = f i j ∨ ∃ p, p < n' ∧ f i j = .tre K (φ p) ∧ f' i j = .tre K2 p) (hf : Fr K2 σ)
    (h : AW P N w0 c Q ⟨σ.env, (K2, .trees n' fun i => X (φ i)) :: (id, .arr sz m f') :: σ.heap.filter fun p => p.1 != K⟩) : AW P N w0 c Q σ := by
  intro ρ S a w Q' hQ hs
  obtain ⟨ρ', hs', _⟩ := hs.reindex hK hA hφ hinj hcell hf
  exact h ρ' S a w Q' hQ hs'
theorem ARun.reindexS (t K K2 id n n' sz m p0 : Nat) (φ : Nat → Nat) (X : Nat → AV) (f f' : Nat → Nat → AV) (ht : σ.env.lookup t = some (.one (.tre K (φ p0)))) (hp0 : p0 < n') (hK : σ.heap.lookup K = some (.trees n X)) (hA : σ.heap.lookup id = some (.arr sz m f))
    (hφ : ∀ i, i < n' → φ i < n) (hinj : ∀ i j, i < n' → j < n' → φ i = φ j → i = j) (hcell : ∀ i j, i < m → j < sz → f' i j = f i j ∨ ∃ p, p < n' ∧ f i j = .tre K (φ p) ∧ f' i j = .tre K2 p) (hf : Fr K2 σ)
    (h : ARun P N w0 ops Q rest ⟨(t, .one (.tre K2 p0)) :: σ.env, (K2, .trees n' fun i => X (φ i)) :: (id, .arr sz m f') :: σ.heap.filter fun p => p.1 != K⟩) : ARun P N w0 ops Q rest σ := by
  intro ρ S a w Q' hQ hs
  obtain ⟨ρ', hs', hv⟩ := hs.reindex hK hA hφ hinj hcell hf
  refine h ρ' S a w Q' hQ ⟨hs'.size, hs'.defers, hs'.below, hs'.mem, fun t' s ht' => ?_⟩
  rcases lookup_put ht' with ⟨rfl, rfl⟩ | ⟨_, ht2⟩
  · exact hv p0 hp0 _ (hs.env _ _ ht)
  · exact hs'.env t' s ht2
end
end Go.Proofs.Ytmfkmifkkplidaa


/-
  A calculus for walks, part 39: copy onto a row of the walk's own, for cells of any size.
-/
namespace Go.Proofs.Ytmfkmifkkplidaa
open Go.ChangeShapes Go.WideShapes Go.ChangeAt Go.RowKit Go.BigFrame Go.Deep
set_option linter.unusedVariables false

set_option linter.unusedSimpArgs false
section
variable {P : Program} {N : Nat} {w0 : Start} {σ : Sig} {ops : Array Oper} {rest : List Oper} {o : Oper} {Q : Sig → Prop}
theorem run_copy_rowN (w : World) (dT sT ty elem : TypeId) (sz n g o dLen dCap : Nat) (a : Addr) (sLen sCap : Nat) (cur : Array Value) (t : TypeId) (cs : List Value)
    (hu : P.underlying dT = some (.slice elem)) (hs : (P.info? elem).map (·.size) = some sz)
    (hg : w.heap[g]? = some (.cells cur t (0, 0))) (hmin : n = Nat.min sLen dLen) (hn : cs.length = n * sz)
    (hsrc : ∀ j v, cs[j]? = some v → w.cell? (a.add j) = some v) (hfit : o + cs.length ≤ cur.size) (h1 : ∀ v ∈ cs, v.oneCell' = true) :
    (Builtin.copy_ #[dT, sT] ty #[.slice (some ⟨g, o, none⟩) dLen dCap, .slice (some a) sLen sCap]).run P w =
      .ok (goInt n) (w.setRow g (cur.toList.take o ++ cs ++ cur.toList.drop (o + cs.length)).toArray) := by
  have hl := run_loadCells_list (P := P) w a cs hsrc
  have hst := run_storeCells_at P g o t cs 0 cur w hg (by simpa using hfit) h1
  cases hq : P.info? elem with
  | none => simp [hq] at hs
  | some i =>
    have hi : i.size = sz := by simpa [hq] using hs
    rw [hn] at hl
    simp [Builtin.copy_, run_underlying hu, Builtin.lenOf, Builtin.firstCells, sizeOf, typeInfo, hq, hi, ← hmin, hl, hst]
theorem wpList_copy_ownN {w : World} {a : Act} {Q : Exit → Act → World → Prop} (hgd : o.guard = none) (d s : Operand) (dT sT : TypeId)
    (ho : o.op = .call { callee := .builtin .copy, args := #[d, s], argTypes := #[dT, sT] }) (elem : TypeId) (sz n : Nat) (hu : P.underlying dT = some (.slice elem)) (hsz : (P.info? elem).map (·.size) = some sz)
    (g off dLen dCap : Nat) (ad : Addr) (sLen sCap : Nat) (hd : a.eval d = .slice (some ⟨g, off, none⟩) dLen dCap) (hs : a.eval s = .slice (some ad) sLen sCap)
    (cur : Array Value) (t : TypeId) (hg : w.heap[g]? = some (.cells cur t (0, 0))) (cs : List Value) (hmin : n = Nat.min sLen dLen) (hn : cs.length = n * sz)
    (hsrc : ∀ j v, cs[j]? = some v → w.cell? (ad.add j) = some v) (hfit : off + cs.length ≤ cur.size) (h1 : ∀ v ∈ cs, v.oneCell' = true)
    (h : wpList P ops Q rest (a.put o.dst (goInt n)) (w.setRow g (cur.toList.take off ++ cs ++ cur.toList.drop (off + cs.length)).toArray)) : wpList P ops Q (o :: rest) a w := by
  refine wpList_plain hgd fun K hK => ?_
  have hrun := run_copy_rowN (P := P) w dT sT o.type elem sz n g off dLen dCap ad sLen sCap cur t cs hu hsz hg hmin hn hsrc hfit h1
  unfold Oper.wp
  simp only [execOp, ho, resolve, invoke, builtin, Sem.run_bind, Sem.run_pure, Result.andThen_ok, List.map_toArray, List.map_cons, List.map_nil, hd, hs, hrun]
  exact hK _ _ h
theorem run_copy_noneN (w : World) (dT sT ty elem : TypeId) (sz : Nat) (dp sp : Option Addr) (dLen dCap sLen sCap : Nat) (hu : P.underlying dT = some (.slice elem)) (hs : (P.info? elem).map (·.size) = some sz) (hn : Nat.min sLen dLen = 0) :
    (Builtin.copy_ #[dT, sT] ty #[.slice dp dLen dCap, .slice sp sLen sCap]).run P w = .ok (goInt 0) w := by
  cases hq : P.info? elem with
  | none => simp [hq] at hs
  | some i =>
    have hl : ∀ (x : Addr), (loadCells x 0).run P w = .ok #[] w := fun x => by simpa using run_loadCells_list (P := P) w x [] (by simp)
    cases dp <;> cases sp <;> simp [Builtin.copy_, run_underlying hu, Builtin.lenOf, Builtin.firstCells, sizeOf, typeInfo, hq, hn, storeCells, hl]
theorem wpList_copy_nothingN {w : World} {a : Act} {Q : Exit → Act → World → Prop} (hgd : o.guard = none) (d s : Operand) (dT sT : TypeId)
    (ho : o.op = .call { callee := .builtin .copy, args := #[d, s], argTypes := #[dT, sT] }) (elem : TypeId) (sz : Nat) (hu : P.underlying dT = some (.slice elem)) (hsz : (P.info? elem).map (·.size) = some sz)
    (dp sp : Option Addr) (dLen dCap sLen sCap : Nat) (hd : a.eval d = .slice dp dLen dCap) (hs : a.eval s = .slice sp sLen sCap) (hn : Nat.min sLen dLen = 0)
    (h : wpList P ops Q rest (a.put o.dst (goInt 0)) w) : wpList P ops Q (o :: rest) a w := by
  refine wpList_plain hgd fun K hK => ?_
  have hrun := run_copy_noneN (P := P) w dT sT o.type elem sz dp sp dLen dCap sLen sCap hu hsz hn
  unfold Oper.wp
  simp only [execOp, ho, resolve, invoke, builtin, Sem.run_bind, Sem.run_pure, Result.andThen_ok, List.map_toArray, List.map_cons, List.map_nil, hd, hs, hrun]
  exact hK _ _ h
/-- Where a copy goes: an own row from place q on. -/
inductive KnDN (σ : Sig) (x : Operand) (sz id q n : Nat) : Prop
  | tl : Kn σ x (.one (.tl id sz q n)) → KnDN σ x sz id q n
  | own : q = 0 → Kn σ x (.one (.own id sz n)) → KnDN σ x sz id q n
/-- A source of so many elements. -/
structure SrcOk (σ : Sig) (y : Operand) (sz m : Nat) (g : Nat → Nat → AV) : Prop where
  src : ∀ (N : Nat) (w0 : Start) (ρ : Rho) (S : Nat → Prop) (a : Act) (w : World), St N w0 ρ S σ a w → ∃ A c, a.eval y = .slice A m c ∧ (0 < m → ∃ b off, A = some ⟨b, off, none⟩ ∧ ∀ i j, i < m → j < sz → ∃ u, w.cell? ⟨b, off + (i * sz + j), none⟩ = some u ∧ R ρ w S (g i j) u)
theorem SrcOk.of {y : Operand} {sz m : Nat} {g : Nat → Nat → AV} (h : KnR σ y sz m g) : SrcOk σ y sz m g := ⟨fun _ _ _ _ _ _ hs => h.at_ hs⟩
theorem SrcOk.tl {y : Operand} {id sz q n m : Nat} {ob : AObj} {g : Nat → Nat → AV} (k1 : Kn σ y (.one (.tl id sz q n))) (k2 : σ.heap.lookup id = some ob) (k3 : ob.sz = sz) (k4 : n ≤ ob.n) (hm : m = n - q) (k5 : ∀ i j, i < m → j < sz → ob.f (q + i) j = g i j) : SrcOk σ y sz m g := by
  subst hm
  refine ⟨fun N w0 ρ S a w hs => ?_⟩
  obtain ⟨A, ev, h1, h2, h3, h4⟩ := k1.sound hs
  refine ⟨A, _, ev, fun hm => ?_⟩
  have hA : A = some ⟨(ρ id).1, q * sz, none⟩ := by rcases h4 with h | h; (· exact h); (· omega)
  have hc : (ρ id).2 ≠ 0 := by omega
  obtain ⟨cs, e, g1, g2, g3, g4, g5, g6, g7⟩ := hs.mem.obj id ob k2 hc
  refine ⟨_, _, hA, fun i j hi hj => ?_⟩
  obtain ⟨u, hu, hr⟩ := g7 (q + i) j (by omega) (by rw [k3]; exact hj)
  rw [k5 i j hi hj] at hr
  rw [k3] at hu
  refine ⟨u, ?_, hr⟩
  rw [show q * sz + (i * sz + j) = (q + i) * sz + j by rw [Nat.add_mul]; omega]
  simp [World.cell?, g1, hu]
theorem ix_mod {sz k : Nat} (h : 0 < sz) : k / sz * sz + k % sz = k := by rw [Nat.mul_comm]; exact Nat.div_add_mod k sz
theorem ARun.copyN {t t2 : TypeId} {x y : Operand} {d id q n m r sz : Nat} {f g : Nat → Nat → AV} (ho : o.op = .call { callee := .builtin .copy, args := #[x, y], argTypes := #[t, t2] }) (he : elemB P t sz = true) (h0 : 0 < sz) (hx : KnDN σ x sz id q n)
    (hob : σ.heap.lookup id = some (.arr sz n f)) (hy : SrcOk σ y sz m g) (hoc : ∀ i j, i < r → j < sz → (g i j).oc = true) (hr : r = Nat.min m (n - q)) (hg : o.guard = none) (hd : o.dst = some d ∨ o.dst = none) (hN : d < N)
    (h : ARun P N w0 ops Q rest ⟨consO o.dst (.one (.int .i64 (r : Int))) σ.env, (id, .arr sz n fun i j => if q ≤ i ∧ i < q + r then g (i - q) j else f i j) :: σ.heap⟩) : ARun P N w0 ops Q (o :: rest) σ := by
  intro ρ S a w Q' hQ hs
  obtain ⟨e, i, hu, hi, hsz⟩ := elemB_spec he
  have hs1 : (P.info? e).map (·.size) = some sz := by rw [hi]; simp [hsz]
  obtain ⟨A, ev, hq1, hq2, hq3, hA⟩ : ∃ A, a.eval x = .slice A (n - q) ((ρ id).2 - q) ∧ q ≤ n ∧ n ≤ (ρ id).2 ∧ (ρ id).2 ≤ maxLen ∧ (A = some ⟨(ρ id).1, q * sz, none⟩ ∨ (ρ id).2 = q) := by
    cases hx with
    | tl k =>
      obtain ⟨A, h1, h2, h3, h4, h5⟩ := k.sound hs
      exact ⟨A, h1, h2, h3, h4, h5⟩
    | own k1 k2 =>
      subst k1
      obtain ⟨A, h1, h2, h3, h4⟩ := k2.sound hs
      exact ⟨A, h1, Nat.zero_le _, h2, h3, h4.imp (fun h => by rw [Nat.zero_mul]; exact h) fun h => h.2⟩
  obtain ⟨A2, c2, ev2, hsrc⟩ := hy.src _ _ _ _ _ _ hs
  have hput : ∀ {ρ2 : Rho} {H2 : Heap} {w2 : World} {v : Value}, St N w0 ρ2 S ⟨σ.env, H2⟩ a w2 → v = goInt (r : Int) → St N w0 ρ2 S ⟨consO o.dst (.one (.int .i64 (r : Int))) σ.env, H2⟩ (a.put o.dst v) w2 := fun {ρ2 H2 w2 v} hst hv => by
    subst hv
    rcases hd with hd | hd
    · rw [hd]; exact hst.put hN (s := .one (.int .i64 (r : Int))) (v := goInt (r : Int)) rfl
    · rw [hd]; exact hst
  by_cases hr0 : r = 0
  · subst hr0
    refine wpList_copy_nothingN hg x y t t2 ho e sz hu hs1 A A2 (n - q) _ m c2 ev ev2 hr.symm ?_
    have hst : St N w0 ρ S ⟨σ.env, (id, .arr sz n fun i j => if q ≤ i ∧ i < q + 0 then g (i - q) j else f i j) :: σ.heap⟩ a w := ⟨hs.size, hs.defers, hs.below, hs.mem.le' fun k p hp => (by
      rcases lookup_put hp with ⟨rfl, rfl⟩ | ⟨hne, hp⟩
      · exact ⟨_, hob, rfl, Nat.le_refl _, fun i j _ _ => by show f i j = if _ then _ else _; rw [if_neg (by omega)]⟩
      · exact HLe.refl hp), hs.env⟩
    exact h ρ S _ w Q' hQ (hput hst rfl)
  · have hrm : r ≤ m ∧ r ≤ n - q := by rw [hr]; exact ⟨Nat.min_le_left .., Nat.min_le_right ..⟩
    have hA' : A = some ⟨(ρ id).1, q * sz, none⟩ := by rcases hA with h | h; (· exact h); (· omega)
    subst hA'
    obtain ⟨b, off, rfl, hcells⟩ := hsrc (by omega)
    have hc0 : (ρ id).2 ≠ 0 := by omega
    obtain ⟨cs, e', g1, g2, g3, g4, g5, g6, g7⟩ := hs.mem.obj id _ hob hc0
    have g2 : cs.size = (ρ id).2 * sz := g2
    have hdm : ∀ k, k < r * sz → k / sz < r ∧ k % sz < sz := fun k hk => ⟨(Nat.div_lt_iff_lt_mul h0).2 hk, Nat.mod_lt _ h0⟩
    obtain ⟨news, hnl, hnews⟩ := news_of (w := w) (b := b) (off := off) (n := r * sz) fun k hk => by
      obtain ⟨h1, h2⟩ := hdm k hk
      obtain ⟨u, hu, _⟩ := hcells (k / sz) (k % sz) (by omega) h2
      exact ⟨u, by rw [ix_mod h0] at hu; exact hu⟩
    have hget : ∀ i j, i < r → j < sz → ∃ u, news[i * sz + j]? = some u ∧ R ρ w S (g i j) u := fun i j hi hj => by
      obtain ⟨u, hu, hru⟩ := hcells i j (by omega) hj
      have hk' : i * sz + j < news.length := by rw [hnl]; exact cell_lt hi hj
      have := hnews _ _ (List.getElem?_eq_getElem hk')
      rw [hu] at this
      exact ⟨u, by rw [List.getElem?_eq_getElem hk', Option.some.inj this], hru⟩
    have hle : (q + r) * sz ≤ cs.size := by rw [g2]; exact Nat.mul_le_mul (by omega) (Nat.le_refl _)
    have hle' : q * sz + r * sz ≤ cs.size := by rw [← Nat.add_mul]; exact hle
    refine wpList_copy_ownN hg x y t t2 ho e sz r hu hs1 (ρ id).1 (q * sz) (n - q) _ ⟨b, off, none⟩ m c2 ev ev2 cs e' g1 news hr hnl (fun j v hj => by rw [Addr.add_lit]; exact hnews j v hj) (by rw [hnl]; exact hle') (fun v hv => ?_) ?_
    · obtain ⟨k, hk, rfl⟩ := List.mem_iff_getElem.1 hv
      rw [hnl] at hk
      obtain ⟨h1, h2⟩ := hdm k hk
      obtain ⟨u, hu, hru⟩ := hget (k / sz) (k % sz) h1 h2
      simp only [ix_mod h0] at hu
      rw [List.getElem?_eq_getElem (by rw [hnl]; exact hk)] at hu
      rw [Option.some.inj hu]
      exact AV.oc_r (hoc _ _ h1 h2) hru
    · have hst := hs.reblock (f' := fun i j => if q ≤ i ∧ i < q + r then g (i - q) j else f i j) hob hc0 (w' := w.setRow (ρ id).1 (cs.toList.take (q * sz) ++ news ++ cs.toList.drop (q * sz + news.length)).toArray) (cs' := (cs.toList.take (q * sz) ++ news ++ cs.toList.drop (q * sz + news.length)).toArray) (fun cs2 e2 h2 => ?_) (fun k hk => setRow_other w _ k _ hk) (by simp [World.setRow]) (below_setRow (Below.refl _ _) g5 _) (fun i j hi hj => ?_)
      · exact h ρ S _ _ Q' hQ (hput hst rfl)
      · rw [g1] at h2
        cases h2
        exact ⟨setRow_heap w _ _ _ _ _ g1, by simp; omega⟩
      · have hci : i * sz + j < cs.toList.length := by rw [Array.length_toList, g2]; exact cell_lt (by omega) hj
        by_cases hin : q ≤ i ∧ i < q + r
        · rw [if_pos hin]
          obtain ⟨u, hu, hru⟩ := hget (i - q) j (by omega) hj
          refine ⟨u, ?_, hru⟩
          have hix : i * sz + j = q * sz + ((i - q) * sz + j) := by rw [← Nat.add_assoc, ← Nat.add_mul]; congr 2; omega
          have hlt : (i - q) * sz + j < news.length := by rw [hnl]; exact cell_lt (by omega) hj
          rw [List.getElem?_toArray, List.getElem?_append_left (by rw [List.length_append, List.length_take, Nat.min_eq_left (by simp; omega)]; omega), List.getElem?_append_right (by rw [List.length_take, Nat.min_eq_left (by simp; omega)]; omega), List.length_take, Nat.min_eq_left (by simp; omega), hix, Nat.add_sub_cancel_left]
          exact hu
        · rw [if_neg hin]
          obtain ⟨u, hu, hru⟩ := g7 i j hi hj
          refine ⟨u, ?_, hru⟩
          have hu : cs[i * sz + j]? = some u := hu
          rw [List.getElem?_toArray]
          by_cases hlt : i < q
          · have h1 : i * sz + j < q * sz := cell_lt hlt hj
            rw [List.append_assoc, List.getElem?_append_left (by rw [List.length_take, Nat.min_eq_left (by simp; omega)]; exact h1), List.getElem?_take, if_pos h1]; simpa using hu
          · have h1 : (q + r) * sz ≤ i * sz := Nat.mul_le_mul (by omega) (Nat.le_refl _)
            rw [Nat.add_mul] at h1
            have hlen : (cs.toList.take (q * sz) ++ news).length = q * sz + r * sz := by rw [List.length_append, List.length_take, Nat.min_eq_left (by simp; omega), hnl]
            rw [List.getElem?_append_right (by rw [hlen]; omega), hlen, List.getElem?_drop, hnl, show q * sz + r * sz + (i * sz + j - (q * sz + r * sz)) = i * sz + j by omega]; simpa using hu
end
end Go.Proofs.Ytmfkmifkkplidaa


/-
  A calculus for walks, part 40: the capacity of a row that was handed over; rows that get a new name.
-/
namespace Go.Proofs.Ytmfkmifkkplidaa
open Go.ChangeShapes Go.WideShapes Go.ChangeAt Go.RowKit Go.BigFrame Go.Deep
set_option linter.unusedVariables false

set_option linter.unusedSimpArgs false
section
variable {P : Program} {N : Nat} {w0 : Start} {σ : Sig} {ops : Array Oper} {rest : List Oper} {o : Oper} {Q : Sig → Prop}
theorem ARun.capH {t : TypeId} {x : Operand} {d id sz n : Nat} (ho : o.op = .call { callee := .builtin .cap, args := #[x], argTypes := #[t] }) (hx : Kn σ x (.one (.own id sz n))) (hid : Nat.ble 1000000 id = true) (ht : sliceB P t = true) (hg : o.guard = none) (hd : o.dst = some d) (hN : d < N)
    (h : n ≤ (w0.ρ id).2 → (w0.ρ id).2 ≤ maxLen → ARun P N w0 ops Q rest ⟨(d, .one (.int .i64 ((w0.ρ id).2 : Int))) :: σ.env, σ.heap⟩) : ARun P N w0 ops Q (o :: rest) σ := by
  intro ρ S a w Q' hQ hs
  obtain ⟨A, e1, h1, h2, h3⟩ := hx.sound hs
  have hρ : (ρ id).2 = (w0.ρ id).2 := by rw [(hs.below.ids id (Nat.le_of_ble_eq_true hid)).m]
  obtain ⟨e, he⟩ := sliceB_spec ht
  refine wpList_plain hg fun K hK => ?_
  have hrun : (Builtin.cap_ #[t] o.type #[.slice A n (ρ id).2]).run P w = .ok (goInt (ρ id).2) w := by simp [Builtin.cap_, run_underlying he, goInt, go_sem]
  unfold Oper.wp
  simp only [execOp, ho, resolve, invoke, builtin, Sem.run_bind, Sem.run_pure, Result.andThen_ok, List.map_toArray, List.map_cons, List.map_nil, e1, hrun]
  refine hK _ _ ?_
  rw [hd]
  exact h (by rw [← hρ]; exact h1) (by rw [← hρ]; exact h2) ρ S _ w Q' hQ (hs.put hN (s := .one (.int .i64 ((w0.ρ id).2 : Int))) (v := goInt (ρ id).2) (by rw [hρ]; rfl))
/-- A row is looked at as far as its block goes. -/
theorem St.growH {ρ : Rho} {S : Nat → Prop} {a : Act} {w : World} (hs : St N w0 ρ S σ a w) {id sz n : Nat} {f : Nat → Nat → AV} (hob : σ.heap.lookup id = some (.arr sz n f)) : n ≤ (ρ id).2 ∧ ∃ gg : Nat → Nat → Value, St N w0 ρ S ⟨σ.env, (id, .arr sz (ρ id).2 fun i j => if i < n then f i j else .con (gg i j)) :: σ.heap⟩ a w := by
  have hn : n ≤ (ρ id).2 := hs.mem.cap id _ hob
  obtain ⟨gg, hgg⟩ : ∃ gg : Nat → Nat → Value, (ρ id).2 ≠ 0 → ∀ cs e, w.heap[(ρ id).1]? = some (.cells cs e (0, 0)) → ∀ i j, i < (ρ id).2 → j < sz → cs.size = (ρ id).2 * sz → cs[i * sz + j]? = some (gg i j) := by
    by_cases hc : (ρ id).2 = 0
    · exact ⟨fun _ _ => undef, fun h => absurd hc h⟩
    · obtain ⟨cs, e, h1, _⟩ := hs.mem.obj id _ hob hc
      refine ⟨fun i j => cs.getD (i * sz + j) undef, fun _ cs2 e2 h2 i j hi hj hz => ?_⟩
      rw [h1] at h2
      cases h2
      have hlt : i * sz + j < cs.size := by rw [hz]; exact cell_lt hi hj
      simp [hlt]
  refine ⟨hn, gg, hs.size, hs.defers, hs.below, ⟨hs.mem.base, hs.mem.low, hs.mem.lt, ?_, ?_, ?_, ?_⟩, hs.env⟩
  · intro k p hp
    rcases lookup_put hp with ⟨rfl, rfl⟩ | ⟨hne, hp⟩
    · exact Nat.le_refl _
    · exact hs.mem.cap k p hp
  · intro k p hp hc
    rcases lookup_put hp with ⟨rfl, rfl⟩ | ⟨hne, hp⟩
    · obtain ⟨cs, e, h1, h2, h3, h4, h5, h6, h7⟩ := hs.mem.obj k _ hob hc
      refine ⟨cs, e, h1, h2, Nat.le_refl _, h4, h5, h6, fun i j hi hj => ?_⟩
      have hi : i < (ρ k).2 := hi
      have hj : j < sz := hj
      show ∃ u, cs[i * sz + j]? = some u ∧ R ρ w S (if i < n then f i j else .con (gg i j)) u
      by_cases hin : i < n
      · rw [if_pos hin]; exact h7 i j hin hj
      · rw [if_neg hin]
        exact ⟨_, hgg hc cs e h1 i j hi hj h2, rfl⟩
    · exact hs.mem.obj k p hp hc
  · have conv : ∀ {k p}, ((id, AObj.arr sz (ρ id).2 fun i j => if i < n then f i j else .con (gg i j)) :: σ.heap : Heap).lookup k = some p → ∃ p', σ.heap.lookup k = some p' := fun {k p} hp => by
      rcases lookup_put hp with ⟨rfl, rfl⟩ | ⟨_, hp⟩
      · exact ⟨_, hob⟩
      · exact ⟨p, hp⟩
    intro k k' p p' hp hp' hne hc hc'
    obtain ⟨q, hq⟩ := conv hp
    obtain ⟨q', hq'⟩ := conv hp'
    exact hs.mem.inj k k' q q' hq hq' hne hc hc'
  · refine hs.mem.treeOf (Nat.le_refl _) (fun k n X hX => ?_) (fun k n X i b hX hi hb => ⟨rfl, (((hs.mem.tree k n X hX i hi).2) b hb).2.1, (((hs.mem.tree k n X hX i hi).2) b hb).2.2.1⟩) (fun k p hp hc => ?_)
    · rcases lookup_put hX with ⟨_, h⟩ | ⟨hne, hX⟩
      · cases h
      · exact ⟨X, hX, fun _ _ => rfl, rfl, rfl, rfl⟩
    · rcases lookup_put hp with ⟨rfl, rfl⟩ | ⟨_, hp⟩
      · exact .inl ⟨_, hob, rfl⟩
      · exact .inl ⟨p, hp, rfl⟩
theorem AW.growH {c : Code} {Q : Exit → Sig → Prop} (id sz n : Nat) (f : Nat → Nat → AV) (hob : σ.heap.lookup id = some (.arr sz n f)) (hid : Nat.ble 1000000 id = true)
    (h : n ≤ (w0.ρ id).2 → ∀ gg : Nat → Nat → Value, AW P N w0 c Q ⟨σ.env, (id, .arr sz (w0.ρ id).2 fun i j => if i < n then f i j else .con (gg i j)) :: σ.heap⟩) : AW P N w0 c Q σ := by
  intro ρ S a w Q' hQ hs
  have hρ : (ρ id).2 = (w0.ρ id).2 := by rw [(hs.below.ids id (Nat.le_of_ble_eq_true hid)).m]
  obtain ⟨h1, gg, h2⟩ := hs.growH hob
  rw [hρ] at h1 h2
  exact h h1 gg ρ S a w Q' hQ h2
/-- A row of the walk's own, cut anew within its object. -/
theorem PureOp.growOwn {t : TypeId} {x y : Operand} {id sz n k : Nat} {m : Int} {kd : IntKind} {ob : AObj} (ho : o.op = .slice t x none (some y) none) (hx : Kn σ x (.one (.own id sz n))) (hy : Kn σ y (.one (.int kd m))) (hm : m = (k : Int)) (hob : σ.heap.lookup id = some ob) (hk : k ≤ ob.n) (ht : elemB P t sz = true) : PureOp P o σ (.one (.own id sz k)) := by
  subst hm
  refine PureOp.val fun N w0 ρ S ac w hs => ?_
  obtain ⟨A, e1, h1, h2, h3⟩ := hx.sound hs
  have hk' : k ≤ (ρ id).2 := Nat.le_trans hk (hs.mem.cap id ob hob)
  have e2 : ac.eval y = .int kd (k : Int) := hy.sound hs
  obtain ⟨e, i, hu, hi, hsz⟩ := elemB_spec ht
  refine ⟨.slice A k (ρ id).2, ⟨A, rfl, hk', h2, h3⟩, fun w' _ => ?_⟩
  generalize ac.eval = ev at e1 e2 ⊢
  have hle : (0 : Int) ≤ (k : Int) ∧ (k : Int) ≤ ((ρ id).2 : Int) := by omega
  simp only [execOp, ho, e1, e2, Option.map_some, Option.map_none]
  have hr : (Instr.sliceAt t (.slice A n (ρ id).2) none (some (.int kd (k : Int))) none).run P w' = .ok (.slice A k (ρ id).2) w' := by
    have hA : (if (ρ id).2 = 0 then A else A.map (·.add (0 * i.size))) = A := by
      rcases h3 with rfl | ⟨rfl, h0⟩
      · simp [Addr.add]
      · simp
    have hk2 : (k : Int) ≤ ((ρ id).2 : Int) := hle.2
    simp only [Nat.zero_mul] at hA
    simp [Instr.sliceAt, Instr.slice, run_underlying hu, Instr.sliceBounds, Instr.sliceBound, asIntOf, hk2, run_sizeOf' hi, go_sem]
    try exact hA
    try (intro hlt; omega)
  rw [Sem.run_bind, hr]
  rfl
end
end Go.Proofs.Ytmfkmifkkplidaa


/-
  A calculus for walks, part 41: rows that get a new name; two own rows do not overlap.
-/
namespace Go.Proofs.Ytmfkmifkkplidaa
open Go.ChangeShapes Go.WideShapes Go.ChangeAt Go.RowKit Go.BigFrame Go.Deep
set_option linter.unusedVariables false

set_option linter.unusedSimpArgs false
section
variable {P : Program} {N : Nat} {w0 : Start} {σ : Sig} {ops : Array Oper} {rest : List Oper} {o : Oper} {Q : Sig → Prop}
theorem St.moveRow {ρ : Rho} {S : Nat → Prop} {a : Act} {w : World} (hs : St N w0 ρ S σ a w) {t id id2 sz n : Nat} {ob : AObj} (ht : σ.env.lookup t = some (.one (.own id sz n))) (hob : σ.heap.lookup id = some ob) (hT : ob.isT = false) (hf : Fr id2 σ) :
    ∃ ρ', St N w0 ρ' S ⟨(t, .one (.own id2 sz n)) :: σ.env, (id2, ob) :: σ.heap.filter fun p => p.1 != id⟩ a w := by
  have hne : id ≠ id2 := (hf.heap.get hob).1
  let ρ' : Rho := ⟨fun k => if k = id2 then ρ id else ρ k, ρ.base, ρ.tv, ρ.tb, ρ.tn⟩
  have hm : ∀ k, k ≠ id2 → ρ' k = ρ k := fun k hk => if_neg hk
  have hm2 : ρ' id2 = ρ id := if_pos rfl
  have hkeep : ∀ {x : AV} {u : Value}, x.no id2 = true → R ρ w S x u → R ρ' w S x u := R.noB (ρ := ρ) (ρ' := ρ') (id := id2) rfl hm (fun _ _ => rfl) (fun _ _ => rfl)
  -- every object of the new heap is one of the old
  have conv : ∀ {k p}, ((id2, ob) :: σ.heap.filter fun p => p.1 != id : Heap).lookup k = some p → ∃ k', σ.heap.lookup k' = some p ∧ ρ' k = ρ k' ∧ (k' = if k = id2 then id else k) ∧ p.No id2 := fun {k p} hp => by
    rcases lookup_put hp with ⟨rfl, rfl⟩ | ⟨hk, hp⟩
    · exact ⟨id, hob, hm2, (if_pos rfl).symm, (hf.heap.get hob).2⟩
    · obtain ⟨f1, f2⟩ := filter_lookup hp
      exact ⟨k, f2, hm k hk, (if_neg hk).symm, (hf.heap.get f2).2⟩
  refine ⟨ρ', ⟨hs.size, hs.defers, ⟨hs.below.old, hs.below.same, fun k hk => (hs.below.ids k hk).trans ⟨hm k (fun e => by have := hf.small; omega), rfl, rfl, rfl⟩⟩, ⟨hs.mem.base, hs.mem.low, hs.mem.lt, ?_, ?_, ?_, ?_⟩, fun t' s ht' => ?_⟩⟩
  · intro k p hp
    obtain ⟨k', h1, h2, _⟩ := conv hp
    rw [h2]; exact hs.mem.cap k' p h1
  · intro k p hp hc
    obtain ⟨k', h1, h2, _, h4⟩ := conv hp
    rw [h2] at hc ⊢
    obtain ⟨cs, e, g1, g2, g3, g4, g5, g6, g7⟩ := hs.mem.obj k' p h1 hc
    refine ⟨cs, e, g1, g2, g3, g4, g5, g6, fun i j hi hj => ?_⟩
    obtain ⟨u, hu, hr⟩ := g7 i j hi hj
    exact ⟨u, hu, hkeep (h4.at_ i j) hr⟩
  · intro k k' p p' hp hp' hkk hc hc'
    obtain ⟨q, h1, h2, h3, _⟩ := conv hp
    obtain ⟨q', h1', h2', h3', _⟩ := conv hp'
    rw [h2] at hc ⊢
    rw [h2'] at hc' ⊢
    refine hs.mem.inj q q' p p' h1 h1' (fun e => hkk ?_) hc hc'
    have f1 : k ≠ id := fun e => by
      subst e
      rcases lookup_put hp with ⟨e, _⟩ | ⟨_, hp⟩
      · exact hne e
      · exact (filter_lookup hp).1 rfl
    have f2 : k' ≠ id := fun e => by
      subst e
      rcases lookup_put hp' with ⟨e, _⟩ | ⟨_, hp'⟩
      · exact hne e
      · exact (filter_lookup hp').1 rfl
    rw [h3, h3'] at e
    by_cases a1 : k = id2 <;> by_cases a2 : k' = id2
    · rw [a1, a2]
    · rw [if_pos a1, if_neg a2] at e; exact absurd e.symm f2
    · rw [if_neg a1, if_pos a2] at e; exact absurd e f1
    · rwa [if_neg a1, if_neg a2] at e
  · refine hs.mem.treeOf (Nat.le_refl _) (fun k n' X hX => ?_) (fun k n' X i b hX hi hb => ⟨rfl, (((hs.mem.tree k n' X hX i hi).2) b hb).2.1, (((hs.mem.tree k n' X hX i hi).2) b hb).2.2.1⟩) (fun k p hp hc => ?_)
    · rcases lookup_put hX with ⟨_, rfl⟩ | ⟨_, hX⟩
      · cases hT
      · exact ⟨X, (filter_lookup hX).2, fun _ _ => rfl, rfl, rfl, rfl⟩
    · obtain ⟨k', h1, h2, _⟩ := conv hp
      rw [h2] at hc ⊢
      exact .inr fun k4 n4 X4 i4 hX4 hi4 hb4 => ((hs.mem.tree k4 n4 X4 hX4 i4 hi4).2 _ hb4).2.2.2.1 k' p h1 hc rfl
  · rcases lookup_put ht' with ⟨rfl, rfl⟩ | ⟨_, ht2⟩
    · have h := hs.env _ _ ht
      show ∃ A, _ = Value.slice A n (ρ' id2).2 ∧ n ≤ (ρ' id2).2 ∧ (ρ' id2).2 ≤ maxLen ∧ (A = some ⟨(ρ' id2).1, 0, none⟩ ∨ (A = none ∧ (ρ' id2).2 = 0))
      rw [hm2]; exact h
    · exact RS.noB (ρ := ρ) (ρ' := ρ') (id := id2) rfl hm (fun _ _ => rfl) (fun _ _ => rfl) (List.all_eq_true.1 hf.env _ (lookup_mem ht2)) (hs.env t' s ht2)
theorem AW.moveRow {c : Code} {Q : Exit → Sig → Prop} (t id id2 sz n : Nat) {ob : AObj} (ht : σ.env.lookup t = some (.one (.own id sz n))) (hob : σ.heap.lookup id = some ob) (hT : ob.isT = false) (hf : Fr id2 σ)
    (h : AW P N w0 c Q ⟨(t, .one (.own id2 sz n)) :: σ.env, (id2, ob) :: σ.heap.filter fun p => p.1 != id⟩) : AW P N w0 c Q σ := by
  intro ρ S a w Q' hQ hs
  obtain ⟨ρ', hs'⟩ := hs.moveRow ht hob hT hf
  exact h ρ' S a w Q' hQ hs'
theorem ARun.moveRow (t id id2 sz n : Nat) {ob : AObj} (ht : σ.env.lookup t = some (.one (.own id sz n))) (hob : σ.heap.lookup id = some ob) (hT : ob.isT = false) (hf : Fr id2 σ)
    (h : ARun P N w0 ops Q rest ⟨(t, .one (.own id2 sz n)) :: σ.env, (id2, ob) :: σ.heap.filter fun p => p.1 != id⟩) : ARun P N w0 ops Q rest σ := by
  intro ρ S a w Q' hQ hs
  obtain ⟨ρ', hs'⟩ := hs.moveRow ht hob hT hf
  exact h ρ' S a w Q' hQ hs'
/-- slices.overlaps, of two rows of the walk's own. -/
theorem PureOp.overlaps {g : FuncId} {fn : Func} {ts : Array TypeId} {tS tR : TypeId} {x y : Operand} {id id2 sz n q n2 : Nat} {ob ob2 : AObj} (ho : o.op = .call { callee := .value (.func g), args := #[x, y], argTypes := ts })
    (hfn : P.funcs[g]? = some fn) (hname : (fn.name == "runtime.NumGoroutine") = false) (hb : fn.body.isNone = true) (hnx : Extern.findNext fn = none) (he : Extern.find fn = some (Extern.SlicesOverlaps.overlaps #[tS, tS] #[tR]))
    (hel : elemB P tS sz = true) (h0 : 0 < sz) (hx : Kn σ x (.one (.own id sz n))) (hy : Kn σ y (.one (.tl id2 sz q n2))) (hn : 0 < n) (hq : q < n2) (hob : σ.heap.lookup id = some ob) (hob2 : σ.heap.lookup id2 = some ob2) (hsz : ob.sz = sz) (hsz2 : ob2.sz = sz) (hne : id ≠ id2) : PureOp P o σ (.one (.bool false)) := by
  refine PureOp.val fun N w0 ρ S ac w hs => ⟨.bool false, rfl, fun w' hb' => ?_⟩
  obtain ⟨A, e1, h1, h2, h3⟩ := hx.sound hs
  obtain ⟨B, e2, h4, h5, h6, h7⟩ := hy.sound hs
  have hA : A = some ⟨(ρ id).1, 0, none⟩ := by rcases h3 with h | ⟨_, h⟩; (· exact h); (· omega)
  have hB : B = some ⟨(ρ id2).1, q * sz, none⟩ := by rcases h7 with h | h; (· exact h); (· omega)
  subst hA hB
  have c1 : (ρ id).2 ≠ 0 := by omega
  have c2 : (ρ id2).2 ≠ 0 := by omega
  obtain ⟨cs, e, g1, g2, _⟩ := hs.mem.obj id ob hob c1
  obtain ⟨cs2, e', g1', g2', _⟩ := hs.mem.obj id2 ob2 hob2 c2
  have hlt := hs.mem.blk hob c1
  have hlt2 := hs.mem.blk hob2 c2
  rw [← hb'.block _ hlt] at g1
  rw [← hb'.block _ hlt2] at g1'
  rw [hsz] at g2
  rw [hsz2] at g2'
  obtain ⟨el, i, hu, hi, hsi⟩ := elemB_spec hel
  have eg : ac.eval (.func g) = .func (.func g) #[] #[] := rfl
  generalize ac.eval = ev at e1 e2 eg ⊢
  have hrun := Lib.run_overlaps_apart (P := P) w' tS tR el hu sz (fun w => by rw [← hsi]; exact run_sizeOf' hi w) ⟨(ρ id).1, 0, none⟩ ⟨(ρ id2).1, q * sz, none⟩ n (ρ id).2 (n2 - q) ((ρ id2).2 - q) (hs.mem.inj id id2 ob ob2 hob hob2 hne c1 c2) e e' cs.size cs2.size
    (by simp [World.shape?, g1]) (by simp [World.shape?, g1']) (by rw [g2']; exact Nat.mul_ne_zero c2 (by omega)) (by simp [World.frozen?, g1]) (by simp [World.frozen?, g1])
  have hcall : (callFunc g #[.slice (some ⟨(ρ id).1, 0, none⟩) n (ρ id).2, .slice (some ⟨(ρ id2).1, q * sz, none⟩) (n2 - q) ((ρ id2).2 - q)]).run P w' = .ok (.value (.bool false)) w' := by
    rw [run_callFunc_extern hfn hname hb hnx he, hrun]; rfl
  simp [execOp, ho, resolve, invoke, Deferred.ofValue, eg, e1, e2, hcall]
end
end Go.Proofs.Ytmfkmifkkplidaa


/-
  A calculus for walks, part 42: append of zeros by their number, where there is no room: a new row.
-/
namespace Go.Proofs.Ytmfkmifkkplidaa
open Go.ChangeShapes Go.WideShapes Go.ChangeAt Go.RowKit Go.BigFrame Go.Deep
set_option linter.unusedVariables false

set_option linter.unusedSimpArgs false
section
variable {P : Program} {N : Nat} {w0 : Start} {σ : Sig} {ops : Array Oper} {rest : List Oper} {o : Oper} {Q : Sig → Prop}
theorem ARun.appendZ {t tn : TypeId} {x y : Operand} {d id id0 sz n k by_ : Nat} {z : Value} {kn kq : IntKind} {m : Int} {f : Nat → Nat → AV} {ob : AObj} (ho : o.op = .call { callee := .builtin .append, args := #[x, y], argTypes := #[t, tn] })
    (hz : elemZ P t = some (some z, sz, by_)) (hzc : z.cells.size = sz) (htn : P.underlying tn = some (.int kn)) (hx : Kn σ x (.one (.own id0 sz n))) (hob : σ.heap.lookup id0 = some ob) (hobs : ob.sz = sz) (hobn : n ≤ ob.n) (hobf : ∀ i j, i < n → j < sz → ob.f i j = f i j)
    (hy : Kn σ y (.one (.int kq m))) (hm : m = (k : Int)) (hk0 : 0 < k) (hid : Nat.ble 1000000 id0 = true) (hgrow : (w0.ρ id0).2 < n + k) (hsz : 0 < sz) (hlim : (n + k) * by_ ≤ 140737488355328) (h63 : n + k ≤ 9223372036854775807) (hf : Fr id σ) (hno : ∀ i j, (f i j).no id = true)
    (hg : o.guard = none) (hd : o.dst = some d) (hN : d < N) (hk : ∀ gg : Nat → Nat → Value, ARun P N w0 ops Q rest ⟨(d, .one (.own id sz (n + k))) :: σ.env, (id, .arr sz (n + k) fun i j => if i < n then f i j else .con (gg i j)) :: σ.heap⟩) : ARun P N w0 ops Q (o :: rest) σ := by
  subst hm
  intro ρ S a w Q' hQ hs
  refine wpList_plain hg fun K hK => ?_
  obtain ⟨e, i, hu, hi, hz0, hz1, hz2⟩ := elemZ_spec hz
  subst hz1 hz2
  obtain ⟨A, ev, hnc, hcm, hA⟩ := hx.sound hs
  have ev2 : a.eval y = .int kq (k : Int) := hy.sound hs
  have hρ : (ρ id0).2 = (w0.ρ id0).2 := by rw [(hs.below.ids id0 (Nat.le_of_ble_eq_true hid)).m]
  have hgr : (ρ id0).2 < n + k := by rw [hρ]; exact hgrow
  have hold2 : ∃ olds : List Value, (Builtin.firstCells i.size n (.slice A n (ρ id0).2)).run P w.drew = .ok olds.toArray w.drew ∧ olds.length = n * i.size ∧ ∀ k j, k < n → j < i.size → ∃ u, olds[k * i.size + j]? = some u ∧ R ρ w S (f k j) u := by
    by_cases hn0 : n = 0
    · subst hn0
      refine ⟨[], ?_, by simp, fun k j hk => absurd hk (by omega)⟩
      rcases hA with rfl | ⟨rfl, _⟩
      · exact run_firstCells_some w.drew i.size 0 _ 0 _ [] (by simp) (fun j u hj => by simp at hj)
      · exact run_firstCells_none w.drew i.size 0 0 _
    · have hc0 : (ρ id0).2 ≠ 0 := by omega
      obtain ⟨cs, e', hblk, hcsz, h3, h4, h5, h6, h7⟩ := hs.mem.obj id0 ob hob hc0
      have hA' : A = some ⟨(ρ id0).1, 0, none⟩ := by rcases hA with h | ⟨_, h⟩; (· exact h); (· exact absurd h hc0)
      subst hA'
      rw [hobs] at hcsz
      have hle : n * i.size ≤ cs.size := by rw [hcsz]; exact Nat.mul_le_mul_right _ hnc
      refine ⟨cs.toList.take (n * i.size), run_firstCells_some w.drew i.size n _ n _ _ (by simp; omega) (fun j u hj => ?_), by simp; omega, fun k j hk hj => ?_⟩
      · rw [List.getElem?_take] at hj
        split at hj
        · rw [Addr.add_lit]
          have : cs[j]? = some u := by simpa using hj
          show w.cell? ⟨_, 0 + j, none⟩ = some u
          simp [World.cell?, hblk, this]
        · cases hj
      · obtain ⟨u, hu1, hr1⟩ := h7 k j (by omega) (by rw [hobs]; exact hj)
        rw [hobs] at hu1
        rw [hobf k j hk hj] at hr1
        refine ⟨u, ?_, hr1⟩
        rw [List.getElem?_take, if_pos (cell_lt hk hj)]
        simpa using hu1
  obtain ⟨olds, ho1, ho2, ho3⟩ := hold2
  have hrun := Lib.run_append_grow_zeros (P := P) w t tn o.type e i z kq kn hu htn hi hz0 A n (ρ id0).2 olds ho1 k hk0 hsz hgr (by omega) (by have := Nat.mul_le_mul_right i.bytes (show k ≤ n + k by omega); omega) (growslice_fits hgr hlim)
  have hsw := hs.world (w' := w.drew) ((Below.refl _ _).drew)
  have hcapge := grownCap_ge w (n + k) (ρ id0).2 e
  have hcaple := grownCap_le_maxLen w (n + k) (ρ id0).2 e (by unfold maxLen; omega)
  generalize hcap : grownCap w (n + k) (ρ id0).2 e = cap' at hrun hcapge hcaple
  generalize hcs : olds.toArray ++ Builtin.zeroCells z.cells k ++ Builtin.zeroCells z.cells (cap' - (n + k)) = cs' at hrun
  have hcsz : cs'.size = cap' * i.size := by
    rw [← hcs, Array.size_append, Array.size_append, size_zeroCells, size_zeroCells, hzc]
    simp only [List.size_toArray, ho2]
    rw [← Nat.add_mul, ← Nat.add_mul]
    congr 1; omega
  have hget : ∀ r j, r < n + k → j < i.size → cs'[r * i.size + j]? = some (cs'.getD (r * i.size + j) undef) := fun r j hr hj => by
    have hlt : r * i.size + j < cs'.size := by rw [hcsz]; exact cell_lt (by omega) hj
    simp [hlt]
  obtain ⟨ρ', e1, e2, e3, hs'⟩ := hsw.newA hf (o := .arr i.size (n + k) fun r j => if r < n then f r j else .con (cs'.getD (r * i.size + j) undef)) (cs := cs') (e := e) (cap := cap') rfl hcsz hcapge hcaple (fun r j hr hj => by
    have hr : r < n + k := hr
    have hj : j < i.size := hj
    show ∃ u, cs'[r * i.size + j]? = some u ∧ R ρ w.drew S (if r < n then f r j else .con (cs'.getD (r * i.size + j) undef)) u
    have hkeep : ∀ {x : AV} {u : Value}, R ρ w S x u → R ρ w.drew S x u := fun hr => hr.keep (hs.mem.same ((Below.refl _ _).drew)) (Rn.refl _ _)
    by_cases hrn : r < n
    · rw [if_pos hrn]
      obtain ⟨u, hu1, hr1⟩ := ho3 r j hrn hj
      refine ⟨u, ?_, hkeep hr1⟩
      have hlt : r * i.size + j < olds.length := by rw [ho2]; exact cell_lt hrn hj
      rw [← hcs, Array.append_assoc, Array.getElem?_append_left (by simpa using hlt)]
      simpa using hu1
    · rw [if_neg hrn]
      exact ⟨_, hget r j hr hj, rfl⟩) (fun r j => by
    show (if r < n then f r j else AV.con _).no id = true
    split
    · exact hno r j
    · rfl)
  have hr2 : (execOp a.eval o).run P w = .ok (.value (.slice (some ⟨w.heap.size, 0, none⟩) (n + k) cap')) (w.drew.alloc (.cells cs' e)) := by
    generalize a.eval = ev' at ev ev2
    simp only [execOp, ho, resolve, Sem.run_bind, Sem.run_pure, Result.andThen_ok, invoke, builtin, List.map_toArray, List.map_cons, List.map_nil, Array.empty_append, ev, ev2, hrun]
  unfold Oper.wp
  rw [hr2]
  simp only [Oper.upon, hd]
  refine hK _ _ (hk (fun r j => cs'.getD (r * i.size + j) undef) ρ' S _ _ Q' hQ (St.put (σ := ⟨σ.env, _⟩) (by exact hs') hN (s := .one (.own id i.size (n + k))) ?_))
  show ∃ A, Value.slice _ _ _ = .slice A (n + k) (ρ' id).2 ∧ n + k ≤ (ρ' id).2 ∧ (ρ' id).2 ≤ maxLen ∧ (A = some ⟨(ρ' id).1, 0, none⟩ ∨ (A = none ∧ (ρ' id).2 = 0))
  rw [e1]
  exact ⟨_, rfl, hcapge, hcaple, .inl rfl⟩
end
end Go.Proofs.Ytmfkmifkkplidaa


/-
  A calculus for walks, part 43: a tree that is a row with a column of rows becomes a row of the walk's own.
-/
namespace Go.Proofs.Ytmfkmifkkplidaa
open Go.ChangeShapes Go.WideShapes Go.ChangeAt Go.RowKit Go.BigFrame Go.Deep
set_option linter.unusedVariables false

set_option linter.unusedSimpArgs false
section
variable {P : Program} {N : Nat} {w0 : Start} {σ : Sig} {ops : Array Oper} {rest : List Oper} {o : Oper} {Q : Sig → Prop}
theorem St.openRowC {ρ : Rho} {S : Nat → Prop} {a : Act} {w : World} (hs : St N w0 ρ S σ a w) {K q m sz c n id L : Nat} {X : Nat → AV} {f : Nat → Nat → AV} (hK : σ.heap.lookup K = some (.trees m X)) (hq : q < m) (hX : X q = .lst sz n f) (hcs : c < sz)
    (hlst : ∀ i, i < n → ∃ s k g, f i c = .lst s k g) (hscl : ∀ i j, i < n → j < sz → j ≠ c → (f i j).scl = true) (hf : Fr id σ) (hL : Fr L σ) (hne : id ≠ L) : ∃ ρ', St N w0 ρ' S ⟨σ.env, (id, .arr sz n fun i j => if j = c then .tre L i else f i j) :: (L, .trees n fun i => f i c) :: σ.heap.filter fun p => p.1 != K⟩ a w ∧ ∀ v, R ρ' w S (.tre K q) v → R ρ' w S (.own id sz n) v := by
  obtain ⟨t1, t2⟩ := hs.mem.tree K m X hK q hq
  rw [hX] at t1
  unfold Tr at t1
  obtain ⟨A, cp, e, hnc, hcm, hcase⟩ := t1
  obtain ⟨b, cs, F, hA, hblk, hcell, hFd⟩ : ∃ (b : Nat) (cs : Array Value) (F : Nat → Nat → Nat → Prop), (A = some ⟨b, 0, none⟩ ∨ (A = none ∧ cp = 0)) ∧ (cp ≠ 0 → ρ.tb K q b ∧ (∃ e, w.heap[b]? = some (.cells cs e (0, 0))) ∧ cs.size = cp * sz) ∧
      (∀ i j, i < n → j < sz → (∀ p, F i j p → ρ.tb K q p ∧ p ≠ b) ∧ ∃ u, cs[i * sz + j]? = some u ∧ Tr w (f i j) u (F i j)) ∧ ∀ i i', i < n → i' < n → i ≠ i' → ∀ p, F i c p → ¬ F i' c p := by
    rcases hcase with ⟨rfl, hA⟩ | ⟨b, cs, e', g1, g2, g3, g4, F, g5, g6⟩
    · rcases hA with hA | ⟨b, hA⟩
      · exact ⟨0, #[], fun _ _ _ => False, .inr ⟨hA, rfl⟩, fun h => absurd rfl h, fun i j hi => absurd hi (by omega), fun i i' hi => absurd hi (by omega)⟩
      · exact ⟨b, #[], fun _ _ _ => False, .inl hA, fun h => absurd rfl h, fun i j hi => absurd hi (by omega), fun i i' hi => absurd hi (by omega)⟩
    · exact ⟨b, cs, F, .inl g1, fun _ => ⟨g2, ⟨e', g3⟩, g4⟩, g5, fun i i' hi hi' hne p h1 => g6 i c i' c hi hcs hi' hcs (fun e => hne e.1) p h1⟩
  let ρ' : Rho := ⟨fun k => if k = id then (b, cp) else if k = L then (0, 0) else ρ k, ρ.base, fun k i => if k = L then cs.getD (i * sz + c) undef else ρ.tv k i, fun k i => if k = L then F i c else ρ.tb k i, fun k => if k = L then n else ρ.tn k⟩
  have hρA : ∀ k, k ≠ id → k ≠ L → Rho.At ρ ρ' k := fun k hk hk' => ⟨(if_neg hk).trans (if_neg hk'), by funext i; simp [ρ', hk'], by funext i; simp [ρ', hk'], by simp [ρ', hk']⟩
  have hmL : ρ' L = (0, 0) := (if_neg (Ne.symm hne)).trans (if_pos rfl)
  have hmid : ρ' id = (b, cp) := if_pos rfl
  have hm : ∀ k, k ≠ id → k ≠ L → ρ' k = ρ k := fun k hk hk' => (if_neg hk).trans (if_neg hk')
  have hkeep : ∀ {x : AV} {u : Value}, x.no id = true → x.no L = true → R ρ w S x u → R ρ' w S x u := fun {x u} hx hx' hr => hr.keep (ρ := ρ) (Same.refl _ _) ⟨rfl, fun p => by
    by_cases hp : p = id
    · subst hp; exact .inr hx
    · by_cases hp' : p = L
      · subst hp'; exact .inr hx'
      · exact .inl (hρA p hp hp')⟩
  have hget : ∀ k p, (σ.heap.filter fun p => p.1 != K).lookup k = some p → σ.heap.lookup k = some p ∧ k ≠ K ∧ k ≠ id ∧ k ≠ L ∧ p.No id ∧ p.No L := fun k p hp => by
    obtain ⟨f1, f2⟩ := filter_lookup hp
    exact ⟨f2, f1, (hf.heap.get f2).1, (hL.heap.get f2).1, (hf.heap.get f2).2, (hL.heap.get f2).2⟩
  have cases3 : ∀ {k : Nat} {p : AObj}, ((id, AObj.arr sz n fun i j => if j = c then .tre L i else f i j) :: (L, AObj.trees n fun i => f i c) :: σ.heap.filter fun p => p.1 != K).lookup k = some p → (k = id ∧ p = .arr sz n fun i j => if j = c then .tre L i else f i j) ∨ (k = L ∧ p = .trees n fun i => f i c) ∨ (σ.heap.filter fun p => p.1 != K).lookup k = some p := fun {k p} hp => by
    rcases lookup_put hp with ⟨rfl, rfl⟩ | ⟨_, hp⟩
    · exact .inl ⟨rfl, rfl⟩
    · rcases lookup_put hp with ⟨rfl, rfl⟩ | ⟨_, hp⟩
      · exact .inr (.inl ⟨rfl, rfl⟩)
      · exact .inr (.inr hp)
  have htL : ∀ i, i < n → Tr w (f i c) (ρ'.tv L i) (F i c) := fun i hi => by
    obtain ⟨_, u, hu, hT⟩ := hcell i c hi hcs
    show Tr w (f i c) (if L = L then cs.getD (i * sz + c) undef else _) (F i c)
    rw [if_pos rfl, Array.getD_eq_getD_getElem?, hu]; exact hT
  refine ⟨ρ', ?_, ?_⟩
  · refine ⟨hs.size, hs.defers, ⟨hs.below.old, hs.below.same, fun k hk => (hs.below.ids k hk).trans (hρA k (fun e => by have := hf.small; omega) (fun e => by have := hL.small; omega))⟩, ⟨hs.mem.base, hs.mem.low, hs.mem.lt, ?_, ?_, ?_, ?_⟩, fun t' s ht' => ?_⟩
    · intro k p hp
      rcases cases3 hp with ⟨rfl, rfl⟩ | ⟨rfl, rfl⟩ | hp
      · rw [hmid]; exact hnc
      · exact Nat.zero_le _
      · obtain ⟨h1, _, h3, h4, _⟩ := hget k p hp
        rw [hm k h3 h4]; exact hs.mem.cap k p h1
    · intro k p hp hc
      rcases cases3 hp with ⟨rfl, rfl⟩ | ⟨rfl, rfl⟩ | hp
      · rw [hmid] at hc ⊢
        obtain ⟨g1, ⟨e', g2⟩, g3⟩ := hblk hc
        obtain ⟨q1, q2, q3, _⟩ := t2 b g1
        refine ⟨cs, e', g2, g3, hnc, hcm, q1, q3, fun i j hi hj => ?_⟩
        have hi : i < n := hi
        have hj : j < sz := hj
        obtain ⟨_, u, hu, hT⟩ := hcell i j hi hj
        refine ⟨u, hu, ?_⟩
        show R ρ' w S (if j = c then .tre L i else f i j) u
        by_cases hjc : j ≠ c
        · rw [if_neg hjc]
          have hl := hscl i j hi hj hjc
          refine hkeep (scl_no hl _) (scl_no hl _) ?_
          generalize f i j = y at hT hl
          cases y <;> first | exact hT | cases hl
        obtain rfl : j = c := Decidable.not_not.1 hjc
        rw [if_pos rfl]
        show u = (if L = L then cs.getD (i * sz + j) undef else _) ∧ i < (if L = L then n else _) ∧ _
        rw [if_pos rfl, if_pos rfl]
        refine ⟨by rw [Array.getD_eq_getD_getElem?, hu]; rfl, hi, ?_⟩
        obtain ⟨s, k, g, hg⟩ := hlst i hi
        rw [hg] at hT
        obtain ⟨A', c', e'', _⟩ := hT
        exact ⟨A', k, c', e''⟩
      · exact absurd (by rw [hmL]) hc
      · obtain ⟨h1, _, h3, h4, h5, h6⟩ := hget k p hp
        rw [hm k h3 h4] at hc ⊢
        obtain ⟨cs2, e2, g1, g2, g3, g4, g5, g6, g7⟩ := hs.mem.obj k p h1 hc
        refine ⟨cs2, e2, g1, g2, g3, g4, g5, g6, fun i j hi hj => ?_⟩
        obtain ⟨u, hu, hr⟩ := g7 i j hi hj
        exact ⟨u, hu, hkeep (h5.at_ i j) (h6.at_ i j) hr⟩
    · have key : ∀ k p, (σ.heap.filter fun p => p.1 != K).lookup k = some p → (ρ k).2 ≠ 0 → cp ≠ 0 → (ρ k).1 ≠ b := fun k p hp hk hc => (t2 b (hblk hc).1).2.2.2.1 k p (hget k p hp).1 hk
      intro k k' p p' hp hp' hne' hc hc'
      rcases cases3 hp with ⟨rfl, rfl⟩ | ⟨rfl, rfl⟩ | hpp
      · rcases cases3 hp' with ⟨rfl, rfl⟩ | ⟨rfl, rfl⟩ | hp'
        · exact absurd rfl hne'
        · exact absurd (by rw [hmL]) hc'
        · obtain ⟨h1, _, h3, h4, _⟩ := hget k' p' hp'
          rw [hmid] at hc ⊢
          rw [hm k' h3 h4] at hc' ⊢
          exact fun e => key k' p' hp' hc' hc e.symm
      · exact absurd (by rw [hmL]) hc
      · have hp2 := hpp
        obtain ⟨h1, _, h3, h4, _⟩ := hget k p hp2
        rw [hm k h3 h4] at hc ⊢
        rcases cases3 hp' with ⟨rfl, rfl⟩ | ⟨rfl, rfl⟩ | hp'
        · rw [hmid] at hc' ⊢
          exact key k p hp2 hc hc'
        · exact absurd (by rw [hmL]) hc'
        · obtain ⟨h1', _, h3', h4', _⟩ := hget k' p' hp'
          rw [hm k' h3' h4'] at hc' ⊢
          exact hs.mem.inj k k' p p' h1 h1' hne' hc hc'
    · intro k n' Y hY
      rcases cases3 hY with ⟨_, e⟩ | ⟨rfl, e⟩ | hY
      · cases e
      · cases e
        refine ⟨if_pos rfl, fun i hi => ⟨?_, fun p hp => ?_⟩⟩
        · show Tr w (f i c) _ (if k = k then F i c else _)
          rw [if_pos rfl]; exact htL i hi
        · have hpF : F i c p := by
            have : (if k = k then F i c else ρ.tb k i) p := hp
            rwa [if_pos rfl] at this
          obtain ⟨k1, _⟩ := hcell i c hi hcs
          obtain ⟨g1, g2⟩ := k1 p hpF
          obtain ⟨q1, q2, q3, q4, q5⟩ := t2 p g1
          refine ⟨q1, q2, q3, fun id' o ho hc => ?_, fun id' m' Y' i' hY' hi' hne' => ?_⟩
          · rcases cases3 ho with ⟨rfl, rfl⟩ | ⟨rfl, rfl⟩ | ho
            · rw [hmid]; exact fun e => g2 e.symm
            · exact absurd (by rw [hmL]) hc
            · obtain ⟨h1, _, h3, h4, _⟩ := hget id' o ho
              rw [hm id' h3 h4] at hc ⊢
              exact q4 id' o h1 hc
          · rcases cases3 hY' with ⟨_, e⟩ | ⟨rfl, e⟩ | hY'
            · cases e
            · cases e
              show ¬ (if id' = id' then F i' c else ρ.tb id' i') p
              rw [if_pos rfl]
              exact hFd i i' hi hi' (fun e => hne' ⟨rfl, e.symm⟩) p hpF
            · obtain ⟨h1, h2, h3, h4, _⟩ := hget id' _ hY'
              show ¬ (if id' = k then F i' c else ρ.tb id' i') p
              rw [if_neg h4]
              exact q5 id' m' Y' i' h1 hi' (fun e => h2 e.1)
      · obtain ⟨h1, h2, h3, h4, _⟩ := hget k _ hY
        refine ⟨(if_neg h4).trans (hs.mem.tree0 k n' Y h1).1, fun i hi => ?_⟩
        have a1 := hρA k h3 h4
        obtain ⟨t3, t4⟩ := hs.mem.tree k n' Y h1 i hi
        rw [a1.v, a1.b]
        refine ⟨t3, fun p hp => ?_⟩
        obtain ⟨q1, q2, q3, q4, q5⟩ := t4 p hp
        refine ⟨q1, q2, q3, fun id' o ho hc => ?_, fun id' m' Y' i' hY' hi' hne' => ?_⟩
        · rcases cases3 ho with ⟨rfl, rfl⟩ | ⟨rfl, rfl⟩ | ho
          · rw [hmid] at hc ⊢
            intro e
            have e : b = p := e
            subst e
            exact q5 K m X q hK hq (fun e => h2 e.1.symm) (hblk hc).1
          · exact absurd (by rw [hmL]) hc
          · obtain ⟨g1, _, g3, g4, _⟩ := hget id' o ho
            rw [hm id' g3 g4] at hc ⊢
            exact q4 id' o g1 hc
        · rcases cases3 hY' with ⟨_, e⟩ | ⟨rfl, e⟩ | hY'
          · cases e
          · cases e
            show ¬ (if id' = id' then F i' c else ρ.tb id' i') p
            rw [if_pos rfl]
            intro hp'
            exact q5 K m X q hK hq (fun e => h2 e.1.symm) ((hcell i' c hi' hcs).1 p hp').1
          · obtain ⟨g1, _, g3, g4, _⟩ := hget id' _ hY'
            rw [(hρA id' g3 g4).b]
            exact q5 id' m' Y' i' g1 hi' hne'
    · exact (hs.env t' s ht').keep (ρ := ρ) (Same.refl _ _) ⟨rfl, fun p => by
          by_cases hp : p = id
          · subst hp; exact .inr (List.all_eq_true.1 hf.env _ (lookup_mem ht'))
          · by_cases hp' : p = L
            · subst hp'; exact .inr (List.all_eq_true.1 hL.env _ (lookup_mem ht'))
            · exact .inl (hρA p hp hp')⟩
  · have hKid : K ≠ id := (hf.heap.get hK).1
    have hKL : K ≠ L := (hL.heap.get hK).1
    rintro v ⟨hv, _⟩
    have hv2 : v = ρ'.tv K q := hv
    have e2 : ρ'.tv K q = ρ.tv K q := congrFun (hρA K hKid hKL).v q
    rw [e2, e] at hv2
    show ∃ B, v = Value.slice B n (ρ' id).2 ∧ n ≤ (ρ' id).2 ∧ (ρ' id).2 ≤ maxLen ∧ (B = some ⟨(ρ' id).1, 0, none⟩ ∨ (B = none ∧ (ρ' id).2 = 0))
    rw [hmid]
    exact ⟨A, hv2, hnc, hcm, hA⟩
theorem RL.setAt {ρ : Rho} {w : World} {S : Nat → Prop} {x y : AV} (hv : ∀ v, R ρ w S x v → R ρ w S y v) : ∀ {l : List AV} {us : List Value} {j : Nat}, RL ρ w S l us → l[j]? = some x → RL ρ w S (l.set j y) us
  | [], _, _, h, _ => h
  | z :: l, _, 0, ⟨u, us, e, h1, h2⟩, hj => by
    obtain rfl : z = x := by simpa using hj
    exact ⟨u, us, e, hv u h1, h2⟩
  | z :: l, _, j + 1, ⟨u, us, e, h1, h2⟩, hj => ⟨u, us, e, h1, RL.setAt hv h2 (by simpa using hj)⟩
/-- A struct's slot: its cell j, a tree that is a row with a column of rows, becomes a row of the walk's own and a family. -/
theorem AW.openAgg {c0 : Code} {Q2 : Exit → Sig → Prop} (t j K q m sz c n id L : Nat) (l l' : List AV) (X : Nat → AV) (f f' : Nat → Nat → AV) (ht : σ.env.lookup t = some (.agg l)) (hj : l[j]? = some (.tre K q)) (hl : l.set j (.own id sz n) = l') (hK : σ.heap.lookup K = some (.trees m X)) (hq : q < m) (hX : X q = .lst sz n f) (hcs : c < sz)
    (hlst : ∀ i, i < n → ∃ s k g, f i c = .lst s k g) (hscl : ∀ i j, i < n → j < sz → j ≠ c → (f i j).scl = true) (hf : Fr id σ) (hL : Fr L σ) (hne : id ≠ L) (hff : ∀ i j, i < n → j < sz → (if j = c then .tre L i else f i j) = f' i j)
    (h : AW P N w0 c0 Q2 ⟨(t, .agg l') :: σ.env, (id, .arr sz n f') :: (L, .trees n fun i => f i c) :: σ.heap.filter fun p => p.1 != K⟩) : AW P N w0 c0 Q2 σ := by
  intro ρ S a w Q' hQ hs
  obtain ⟨ρ', hs', hv⟩ := hs.openRowC hK hq hX hcs hlst hscl hf hL hne
  refine h ρ' S a w Q' hQ ⟨hs'.size, hs'.defers, hs'.below, hs'.mem.le' fun k p hp => ?_, fun t' s ht' => ?_⟩
  · rcases lookup_put hp with ⟨rfl, rfl⟩ | ⟨hne, hp⟩
    · exact ⟨AObj.arr sz n fun i j => if j = c then .tre L i else f i j, by rw [List.lookup_cons, beq_self_eq_true], rfl, Nat.le_refl _, fun i j hi hj => (hff i j hi hj)⟩
    · exact HLe.refl (by rw [List.lookup_cons, show (k == id) = false by simpa using hne]; exact hp)
  · rcases lookup_put ht' with ⟨rfl, rfl⟩ | ⟨_, ht2⟩
    · obtain ⟨us, e, hr⟩ := hs'.env _ _ ht
      exact ⟨us, e, by rw [← hl]; exact RL.setAt hv hr hj⟩
    · exact hs'.env t' s ht2
theorem ARun.openAgg (t j K q m sz c n id L : Nat) (l l' : List AV) (X : Nat → AV) (f f' : Nat → Nat → AV) (ht : σ.env.lookup t = some (.agg l)) (hj : l[j]? = some (.tre K q)) (hl : l.set j (.own id sz n) = l') (hK : σ.heap.lookup K = some (.trees m X)) (hq : q < m) (hX : X q = .lst sz n f) (hcs : c < sz)
    (hlst : ∀ i, i < n → ∃ s k g, f i c = .lst s k g) (hscl : ∀ i j, i < n → j < sz → j ≠ c → (f i j).scl = true) (hf : Fr id σ) (hL : Fr L σ) (hne : id ≠ L) (hff : ∀ i j, i < n → j < sz → (if j = c then .tre L i else f i j) = f' i j)
    (h : ARun P N w0 ops Q rest ⟨(t, .agg l') :: σ.env, (id, .arr sz n f') :: (L, .trees n fun i => f i c) :: σ.heap.filter fun p => p.1 != K⟩) : ARun P N w0 ops Q rest σ := by
  intro ρ S a w Q' hQ hs
  obtain ⟨ρ', hs', hv⟩ := hs.openRowC hK hq hX hcs hlst hscl hf hL hne
  refine h ρ' S a w Q' hQ ⟨hs'.size, hs'.defers, hs'.below, hs'.mem.le' fun k p hp => ?_, fun t' s ht' => ?_⟩
  · rcases lookup_put hp with ⟨rfl, rfl⟩ | ⟨hne, hp⟩
    · exact ⟨AObj.arr sz n fun i j => if j = c then .tre L i else f i j, by rw [List.lookup_cons, beq_self_eq_true], rfl, Nat.le_refl _, fun i j hi hj => (hff i j hi hj)⟩
    · exact HLe.refl (by rw [List.lookup_cons, show (k == id) = false by simpa using hne]; exact hp)
  · rcases lookup_put ht' with ⟨rfl, rfl⟩ | ⟨_, ht2⟩
    · obtain ⟨us, e, hr⟩ := hs'.env _ _ ht
      exact ⟨us, e, by rw [← hl]; exact RL.setAt hv hr hj⟩
    · exact hs'.env t' s ht2
theorem R.setAt {ρ : Rho} {w : World} {S : Nat → Prop} {x y : AV} (hv : ∀ v, R ρ w S x v → R ρ w S y v) {l : List AV} {j q : Nat} {u : Value} (hj : l[j]? = some x) (hq : q < l.length) (hr : R ρ w S (l.getD q (.con undef)) u) : R ρ w S ((l.set j y).getD q (.con undef)) u := by
  by_cases hqj : q = j
  · subst hqj
    rw [List.getD_eq_getElem?_getD, hj] at hr
    rw [List.getD_eq_getElem?_getD, List.getElem?_set, if_pos rfl, if_pos hq]
    exact hv u hr
  · rw [List.getD_eq_getElem?_getD, List.getElem?_set, if_neg (fun e => hqj e.symm), ← List.getD_eq_getElem?_getD]; exact hr
/-- A row of the walk's own gets a new name; what named it may be named anew. -/
theorem St.moveRowV {ρ : Rho} {S : Nat → Prop} {a : Act} {w : World} (hs : St N w0 ρ S σ a w) {id id2 : Nat} {ob : AObj} (hob : σ.heap.lookup id = some ob) (hT : ob.isT = false) (hf : Fr id2 σ) :
    ∃ ρ', St N w0 ρ' S ⟨σ.env, (id2, ob) :: σ.heap.filter fun p => p.1 != id⟩ a w ∧ ∀ sz n v, R ρ' w S (.own id sz n) v → R ρ' w S (.own id2 sz n) v := by
  have hne : id ≠ id2 := (hf.heap.get hob).1
  let ρ' : Rho := ⟨fun k => if k = id2 then ρ id else ρ k, ρ.base, ρ.tv, ρ.tb, ρ.tn⟩
  have hm : ∀ k, k ≠ id2 → ρ' k = ρ k := fun k hk => if_neg hk
  have hm2 : ρ' id2 = ρ id := if_pos rfl
  have hkeep : ∀ {x : AV} {u : Value}, x.no id2 = true → R ρ w S x u → R ρ' w S x u := R.noB (ρ := ρ) (ρ' := ρ') (id := id2) rfl hm (fun _ _ => rfl) (fun _ _ => rfl)
  -- every object of the new heap is one of the old
  have conv : ∀ {k p}, ((id2, ob) :: σ.heap.filter fun p => p.1 != id : Heap).lookup k = some p → ∃ k', σ.heap.lookup k' = some p ∧ ρ' k = ρ k' ∧ (k' = if k = id2 then id else k) ∧ p.No id2 := fun {k p} hp => by
    rcases lookup_put hp with ⟨rfl, rfl⟩ | ⟨hk, hp⟩
    · exact ⟨id, hob, hm2, (if_pos rfl).symm, (hf.heap.get hob).2⟩
    · obtain ⟨f1, f2⟩ := filter_lookup hp
      exact ⟨k, f2, hm k hk, (if_neg hk).symm, (hf.heap.get f2).2⟩
  refine ⟨ρ', ⟨hs.size, hs.defers, ⟨hs.below.old, hs.below.same, fun k hk => (hs.below.ids k hk).trans ⟨hm k (fun e => by have := hf.small; omega), rfl, rfl, rfl⟩⟩, ⟨hs.mem.base, hs.mem.low, hs.mem.lt, ?_, ?_, ?_, ?_⟩, fun t' s ht' => ?_⟩, fun sz n v h => ?_⟩
  · intro k p hp
    obtain ⟨k', h1, h2, _⟩ := conv hp
    rw [h2]; exact hs.mem.cap k' p h1
  · intro k p hp hc
    obtain ⟨k', h1, h2, _, h4⟩ := conv hp
    rw [h2] at hc ⊢
    obtain ⟨cs, e, g1, g2, g3, g4, g5, g6, g7⟩ := hs.mem.obj k' p h1 hc
    refine ⟨cs, e, g1, g2, g3, g4, g5, g6, fun i j hi hj => ?_⟩
    obtain ⟨u, hu, hr⟩ := g7 i j hi hj
    exact ⟨u, hu, hkeep (h4.at_ i j) hr⟩
  · intro k k' p p' hp hp' hkk hc hc'
    obtain ⟨q, h1, h2, h3, _⟩ := conv hp
    obtain ⟨q', h1', h2', h3', _⟩ := conv hp'
    rw [h2] at hc ⊢
    rw [h2'] at hc' ⊢
    refine hs.mem.inj q q' p p' h1 h1' (fun e => hkk ?_) hc hc'
    have f1 : k ≠ id := fun e => by
      subst e
      rcases lookup_put hp with ⟨e, _⟩ | ⟨_, hp⟩
      · exact hne e
      · exact (filter_lookup hp).1 rfl
    have f2 : k' ≠ id := fun e => by
      subst e
      rcases lookup_put hp' with ⟨e, _⟩ | ⟨_, hp'⟩
      · exact hne e
      · exact (filter_lookup hp').1 rfl
    rw [h3, h3'] at e
    by_cases a1 : k = id2 <;> by_cases a2 : k' = id2
    · rw [a1, a2]
    · rw [if_pos a1, if_neg a2] at e; exact absurd e.symm f2
    · rw [if_neg a1, if_pos a2] at e; exact absurd e f1
    · rwa [if_neg a1, if_neg a2] at e
  · refine hs.mem.treeOf (Nat.le_refl _) (fun k n' X hX => ?_) (fun k n' X i b hX hi hb => ⟨rfl, (((hs.mem.tree k n' X hX i hi).2) b hb).2.1, (((hs.mem.tree k n' X hX i hi).2) b hb).2.2.1⟩) (fun k p hp hc => ?_)
    · rcases lookup_put hX with ⟨_, rfl⟩ | ⟨_, hX⟩
      · cases hT
      · exact ⟨X, (filter_lookup hX).2, fun _ _ => rfl, rfl, rfl, rfl⟩
    · obtain ⟨k', h1, h2, _⟩ := conv hp
      rw [h2] at hc ⊢
      exact .inr fun k4 n4 X4 i4 hX4 hi4 hb4 => ((hs.mem.tree k4 n4 X4 hX4 i4 hi4).2 _ hb4).2.2.2.1 k' p h1 hc rfl
  · exact RS.noB (ρ := ρ) (ρ' := ρ') (id := id2) rfl hm (fun _ _ => rfl) (fun _ _ => rfl) (List.all_eq_true.1 hf.env _ (lookup_mem ht')) (hs.env t' s ht')
  · have h : ∃ A, v = Value.slice A n (ρ' id).2 ∧ n ≤ (ρ' id).2 ∧ (ρ' id).2 ≤ maxLen ∧ (A = some ⟨(ρ' id).1, 0, none⟩ ∨ (A = none ∧ (ρ' id).2 = 0)) := h
    rw [hm id hne] at h
    show ∃ A, v = Value.slice A n (ρ' id2).2 ∧ n ≤ (ρ' id2).2 ∧ (ρ' id2).2 ≤ maxLen ∧ (A = some ⟨(ρ' id2).1, 0, none⟩ ∨ (A = none ∧ (ρ' id2).2 = 0))
    rw [hm2]; exact h
/-- A cell of a variable: the row that it holds gets a new name. -/
theorem AW.moveCell {c0 : Code} {Q2 : Exit → Sig → Prop} (v j id id2 sz n : Nat) (l l' : List AV) {ob : AObj} (hv : σ.heap.lookup v = some (.cells l)) (hj : l[j]? = some (.own id sz n)) (hl : l.set j (.own id2 sz n) = l') (hob : σ.heap.lookup id = some ob) (hT : ob.isT = false) (hvi : v ≠ id) (hf : Fr id2 σ)
    (h : AW P N w0 c0 Q2 ⟨σ.env, (v, .cells l') :: (id2, ob) :: σ.heap.filter fun p => p.1 != id⟩) : AW P N w0 c0 Q2 σ := by
  intro ρ S a w Q' hQ hs
  obtain ⟨ρ', hs', hV⟩ := hs.moveRowV hob hT hf
  have hv2 : v ≠ id2 := (hf.heap.get hv).1
  have hv' : ((id2, ob) :: σ.heap.filter fun p => p.1 != id : Heap).lookup v = some (.cells l) := by
    rw [List.lookup_cons, show (v == id2) = false by simpa using hv2]
    show (σ.heap.filter fun p => p.1 != id).lookup v = _
    rw [lookup_filter_ne hvi]; exact hv
  refine h ρ' S a w Q' hQ ⟨hs'.size, hs'.defers, hs'.below, hs'.mem.reob hv' rfl (by simp [AObj.sz, ← hl]) rfl (fun i q u _ hq hr => ?_), hs'.env⟩
  rw [← hl]
  exact R.setAt (hV sz n) hj hq hr
/-- The length of a tree's row. -/
theorem PureOp.lenTre {t : TypeId} {x : Operand} {K q m sz n : Nat} {X : Nat → AV} {f : Nat → Nat → AV} (ho : o.op = .call { callee := .builtin .len, args := #[x], argTypes := #[t] }) (hx : Kn σ x (.one (.tre K q))) (hK : σ.heap.lookup K = some (.trees m X)) (hq : q < m) (hX : X q = .lst sz n f) (ht : sliceB P t = true) : PureOp P o σ (.one (.int .i64 n)) := by
  refine PureOp.val fun N w0 ρ S ac w hs => ?_
  obtain ⟨e1, _⟩ := hx.sound hs
  obtain ⟨t1, _⟩ := hs.mem.tree K m X hK q hq
  rw [hX] at t1
  unfold Tr at t1
  obtain ⟨A, c, e, _⟩ := t1
  rw [e] at e1
  obtain ⟨e, he⟩ := sliceB_spec ht
  refine ⟨_, rfl, fun w' _ => ?_⟩
  generalize ac.eval = ev at e1 ⊢
  simp [execOp, ho, e1, resolve, invoke, builtin, Builtin.len_, run_underlying he, goInt, go_sem]
/-- A cell of a tree's row is read: address, field, load. -/
theorem ARun.treeLoad {o1 o2 o3 : Oper} {t t2 t3 : TypeId} {x y : Operand} {K q m sz n i fld off d1 d2 d3 : Nat} {k : IntKind} {mi : Int} {X : Nat → AV} {f : Nat → Nat → AV} {z : AV} (ho1 : o1.op = .indexAddr t x y) (ho2 : o2.op = .fieldAddr t2 (.tmp d1) fld) (ho3 : o3.op = .load t3 (.tmp d2))
    (hx : Kn σ x (.one (.tre K q))) (hK : σ.heap.lookup K = some (.trees m X)) (hq : q < m) (hX : X q = .lst sz n f) (hE : elemB P t sz = true) (hy : Kn σ y (.one (.int k mi))) (hm : mi = (i : Int)) (hi : i < n) (hF : fieldB P t2 fld off = true) (hoff : off < sz) (hT : plainB P t3 = true) (hz : f i off = z) (hsc : z.scl = true)
    (hg1 : o1.guard = none) (hg2 : o2.guard = none) (hg3 : o3.guard = none) (hd1 : o1.dst = some d1) (hd2 : o2.dst = some d2) (hd3 : o3.dst = some d3) (hN1 : d1 < N) (hN2 : d2 < N) (hN3 : d3 < N) (he1 : σ.env.lookup d1 = none) (he2 : σ.env.lookup d2 = none)
    (h : ARun P N w0 ops Q rest ⟨(d3, .one z) :: σ.env, σ.heap⟩) : ARun P N w0 ops Q (o1 :: o2 :: o3 :: rest) σ := by
  subst hm
  intro ρ S a w Q' hQ hs
  obtain ⟨ex, _⟩ := hx.sound hs
  obtain ⟨t1, _⟩ := hs.mem.tree K m X hK q hq
  rw [hX] at t1
  unfold Tr at t1
  obtain ⟨A, c, e, hnc, hcm, hcase⟩ := t1
  rw [e] at ex
  obtain ⟨b, cs, e', hA, hblk, u, hu, hTu⟩ : ∃ (b : Nat) (cs : Array Value) (e' : _), A = some ⟨b, 0, none⟩ ∧ w.heap[b]? = some (.cells cs e' (0, 0)) ∧ ∃ u, cs[i * sz + off]? = some u ∧ R ρ w S z u := by
    rcases hcase with ⟨hc, _⟩ | ⟨b, cs, e', g1, _, g3, _, F, g5, _⟩
    · omega
    · obtain ⟨_, u, hu, hT⟩ := g5 i off hi hoff
      refine ⟨b, cs, e', g1, g3, u, hu, ?_⟩
      rw [hz] at hT
      generalize z = zz at hT hsc
      cases zz <;> first | exact hT | cases hsc
  subst hA
  have ey : a.eval y = .int k (i : Int) := hy.sound hs
  have hcell : w.cell? ⟨b, i * sz + off, none⟩ = some u := by simp [World.cell?, hblk, hu]
  refine wpList_plain hg1 fun K1 hK1 => ?_
  have hrun1 : (execOp a.eval o1).run P w = .ok (.value (.pointer (some ⟨b, i * sz, none⟩))) w := by
    generalize a.eval = ev at ex ey ⊢
    simp only [execOp, ho1, ex, ey, Sem.run_bind, indexAt_run hE _ hi]
    simp [go_sem, Result.andThen, Addr.add]
    try omega
  unfold Oper.wp
  rw [hrun1]
  simp only [Oper.upon, hd1]
  have hs1 : St N w0 ρ S (σ.put d1 (.one (.con (.pointer (some ⟨b, i * sz, none⟩))))) (a.put (some d1) (.pointer (some ⟨b, i * sz, none⟩))) w := hs.put hN1 rfl
  refine hK1 _ _ (wpList_plain hg2 fun K2 hK2 => ?_)
  have ev1 : (a.put (some d1) (.pointer (some ⟨b, i * sz, none⟩))).eval (.tmp d1) = .pointer (some ⟨b, i * sz, none⟩) := by
    have h := hs1.env d1 (.one (.con (.pointer (some ⟨b, i * sz, none⟩)))) (by simp [Sig.put])
    exact h
  have hrun2 : (execOp (a.put (some d1) (.pointer (some ⟨b, i * sz, none⟩))).eval o2).run P w = .ok (.value (.pointer (some ⟨b, i * sz + off, none⟩))) w := by
    generalize (a.put (some d1) (.pointer (some ⟨b, i * sz, none⟩))).eval = ev at ev1 ⊢
    simp only [execOp, ho2, ev1, Sem.run_bind, fieldAt_run hF]
    simp [go_sem, Result.andThen, Addr.add]
  unfold Oper.wp
  rw [hrun2]
  simp only [Oper.upon, hd2]
  have hs2 := hs1.put (d := d2) (s := .one (.con (.pointer (some ⟨b, i * sz + off, none⟩)))) (v := .pointer (some ⟨b, i * sz + off, none⟩)) hN2 rfl
  refine hK2 _ _ (wpList_plain hg3 fun K3 hK3 => ?_)
  have ev2 : ((a.put (some d1) (.pointer (some ⟨b, i * sz, none⟩))).put (some d2) (.pointer (some ⟨b, i * sz + off, none⟩))).eval (.tmp d2) = .pointer (some ⟨b, i * sz + off, none⟩) := by
    have h := hs2.env d2 (.one (.con (.pointer (some ⟨b, i * sz + off, none⟩)))) (by simp [Sig.put])
    exact h
  have hrun3 : (execOp ((a.put (some d1) (.pointer (some ⟨b, i * sz, none⟩))).put (some d2) (.pointer (some ⟨b, i * sz + off, none⟩))).eval o3).run P w = .ok (.value u) w := by
    generalize ((a.put (some d1) (.pointer (some ⟨b, i * sz, none⟩))).put (some d2) (.pointer (some ⟨b, i * sz + off, none⟩))).eval = ev at ev2 ⊢
    simp only [execOp, ho3, ev2, Sem.run_bind, loadAt_one hT hcell]
    simp [go_sem, Result.andThen]
  unfold Oper.wp
  rw [hrun3]
  simp only [Oper.upon, hd3]
  have hs3 := hs2.put (d := d3) (s := .one z) (v := u) hN3 hTu
  refine hK3 _ _ (h ρ S _ w Q' hQ ⟨hs3.size, hs3.defers, hs3.below, hs3.mem, fun t' s ht' => ?_⟩)
  refine hs3.env t' s ?_
  simp only [Sig.put]
  rcases lookup_put ht' with ⟨rfl, rfl⟩ | ⟨hne, ht2⟩
  · simp
  · have n1 : t' ≠ d1 := fun e => by subst e; rw [he1] at ht2; cases ht2
    have n2 : t' ≠ d2 := fun e => by subst e; rw [he2] at ht2; cases ht2
    rw [List.lookup_cons, show (t' == d3) = false by simpa using hne]
    show ((d2, _) :: (d1, _) :: σ.env).lookup t' = _
    rw [List.lookup_cons, show (t' == d2) = false by simpa using n2]
    show ((d1, _) :: σ.env).lookup t' = _
    rw [List.lookup_cons, show (t' == d1) = false by simpa using n1]
    exact ht2
theorem LkAll.app {Pq : Nat → AObj → Prop} : ∀ {l l2 : Heap}, LkAll Pq l → (∀ p ∈ l2, Pq p.1 p.2) → LkAll Pq (l ++ l2)
  | [], [], _, _ => trivial
  | [], (k, o) :: l2, _, h => ⟨h _ (List.mem_cons_self ..), LkAll.app (l := []) trivial fun p hp => h p (List.mem_cons_of_mem _ hp)⟩
  | (k, o) :: l, l2, ⟨h1, h2⟩, h => ⟨h1, LkAll.app h2 h⟩
theorem LkAll.imp {Pq Pr : Nat → AObj → Prop} (hi : ∀ k o, Pq k o → Pr k o) : ∀ {l : Heap}, LkAll Pq l → LkAll Pr l
  | [], _ => trivial
  | (_, _) :: _, ⟨h1, h2⟩ => ⟨hi _ _ h1, LkAll.imp hi h2⟩
theorem lookup_app_l {H X : Heap} {k : Nat} {o : AObj} (h : H.lookup k = some o) : (H ++ X).lookup k = some o := by
  induction H with
  | nil => cases h
  | cons p H ih =>
    obtain ⟨k', o'⟩ := p
    rw [List.lookup_cons] at h
    show ((k', o') :: (H ++ X)).lookup k = _
    rw [List.lookup_cons]
    cases hb : k == k' with
    | true => rw [hb] at h; exact h
    | false => rw [hb] at h; exact ih h
theorem lookup_appN {H X : Heap} {k : Nat} (h : H.lookup k = none) : (H ++ X).lookup k = X.lookup k := by
  induction H with
  | nil => rfl
  | cons p H ih =>
    obtain ⟨k', o'⟩ := p
    rw [List.lookup_cons] at h
    cases hb : k == k' with
    | true => rw [hb] at h; cases h
    | false =>
      rw [hb] at h
      show ((k', o') :: (H ++ X)).lookup k = _
      rw [List.lookup_cons, hb]; exact ih h
theorem lookup_allN {H : Heap} {tk : List Nat} (hH : (H.all fun p => tk.contains p.1) = true) {k : Nat} (hk : tk.contains k = false) : H.lookup k = none := by
  cases hl : H.lookup k with
  | none => rfl
  | some o =>
    have := List.all_eq_true.1 hH _ (lookup_mem hl)
    rw [show (k, o).1 = k from rfl, hk] at this; cases this
/-- A call that is handed objects, in a walk that holds others beside. -/
theorem ARun.mutxX {env : Env} {Hin X : Heap} {tk new : List Nat} (hX : XOk tk new X) {f d : Nat} {xs : List Operand} {ts : Array TypeId} {args : List SV} {H H' Hr Hn : Heap} {r : SV} {g g' : Nat → Nat} {K : List Nat} {T : List (Nat × Nat)} (ho : o.op = .call { callee := .value (.func f), args := xs.toArray, argTypes := ts })
    (hF : FnG P f args H r H') (hB : callB P f = true) (hk : KnG ⟨env, Hin ++ X⟩ (Hr ++ nub X) g xs args)
    (hti : (Hin.all fun p => tk.contains p.1) = true) (htr : (Hr.all fun p => tk.contains p.1) = true) (htg : ((H.map (·.1)).map g).all tk.contains = true)
    (hH : LkAll (fun id p => ∃ p', (Hin ++ X).lookup (g id) = some p' ∧ AObj.Rt g p p') H)
    (hr : LkAll (fun id p => (Hin ++ X).lookup id = some p ∧ ((H.map (·.1)).map g).contains id = false) Hr)
    (hg : distB ((H.map (·.1)).map g) = true) (hT : FrAll ⟨env, Hin ++ X⟩ T)
    (hK : K.all (fun k => (Nat.ble 1000000 k && (g' k == g k) && (T.lookup (g k)).isNone) || (T.lookup (g' k) == some k)) = true) (hgi : distB (K.map g') = true)
    (hx : r.hx K = true)
    (hn : LkAll (fun id p => Hr.lookup id = some p ∨ ∃ k q, K.contains k = true ∧ g' k = id ∧ H'.lookup k = some q ∧ AObj.Rt g' q p ∧ q.Hx K) Hn)
    (hgd : o.guard = none) (hd : o.dst = some d) (hdN : d < N) {r' : SV} (hr' : r.ren g' = r') (h : ARun P N w0 ops Q rest ⟨(d, r') :: env, Hn ++ X⟩) : ARun P N w0 ops Q (o :: rest) ⟨env, Hin ++ X⟩ := by
  have hoff : ∀ p ∈ nub X, tk.contains p.1 = false := fun p hp => hX.off _ (lookup_mem (nub_mem hp))
  refine ARun.mutx (Hr := Hr ++ nub X) (Hn := Hn ++ nub X) ho hF hB hk hH (hr.app fun p hp => ⟨?_, ?_⟩) hg hT hK hgi hx ((hn.imp fun k o ho => ?_).app fun p hp => .inl ?_) hgd hd hdN hr' ?_
  · show (Hin ++ X).lookup p.1 = some p.2
    rw [lookup_appN (lookup_allN hti (hoff p hp))]; exact nub_mem hp
  · cases hc : ((H.map (·.1)).map g).contains p.1 with
    | false => rfl
    | true =>
      have := List.all_eq_true.1 htg _ (List.contains_iff_mem.1 hc)
      rw [hoff p hp] at this; cases this
  · rcases ho with ho | ho
    · exact .inl (lookup_app_l ho)
    · exact .inr ho
  · rw [lookup_appN (lookup_allN htr (hoff p hp)), nub_lookup]; exact nub_mem hp
  · intro ρ S a w Q' hQ hs
    refine h ρ S a w Q' hQ ⟨hs.size, hs.defers, hs.below, hs.mem.le' fun k p hp => ?_, hs.env⟩
    rcases lookup_app hp with h1 | ⟨h0, h1⟩
    · exact HLe.refl (lookup_app_l h1)
    · refine HLe.refl ?_
      show (Hn ++ nub X).lookup k = some p
      rw [lookup_appN h0, nub_lookup]; exact h1
end
theorem Fr.consE {id t : Nat} {s : SV} {env : Env} {H : Heap} (hs : s.no id = true) (h : Fr id ⟨env, H⟩) : Fr id ⟨(t, s) :: env, H⟩ :=
  ⟨by rw [Bool.and_eq_true]; exact ⟨by simpa [Nat.blt_eq] using h.small, by rw [List.all_cons, Bool.and_eq_true]; exact ⟨hs, h.env⟩⟩, h.heap⟩
theorem Fr.consH {id k : Nat} {o : AObj} {env : Env} {H : Heap} (hk : k ≠ id) (ho : o.No id) (h : Fr id ⟨env, H⟩) : Fr id ⟨env, (k, o) :: H⟩ := ⟨h.envB, hk, ho, h.heap⟩
theorem FrH.filt {id : Nat} {p : Nat × AObj → Bool} : ∀ {H : Heap}, FrH id H → FrH id (H.filter p)
  | [], _ => trivial
  | (k, o) :: H, ⟨h1, h2, h3⟩ => by
    cases hp : p (k, o) with
    | true => rw [List.filter_cons_of_pos hp]; exact ⟨h1, h2, FrH.filt h3⟩
    | false => rw [List.filter_cons_of_neg (by rw [hp]; decide)]; exact FrH.filt h3
theorem Fr.filt {id : Nat} {p : Nat × AObj → Bool} {env : Env} {H : Heap} (h : Fr id ⟨env, H⟩) : Fr id ⟨env, H.filter p⟩ := ⟨h.envB, h.heap.filt⟩
theorem KnR.tl {σ : Sig} {y : Operand} {id sz q n m : Nat} {ob : AObj} {g : Nat → Nat → AV} (k1 : Kn σ y (.one (.tl id sz q n))) (k2 : σ.heap.lookup id = some ob) (k3 : ob.sz = sz) (k4 : n ≤ ob.n) (hm : m = n - q) (k5 : ∀ i j, i < m → j < sz → ob.f (q + i) j = g i j) : KnR σ y sz m g :=
  .gen (SrcOk.tl k1 k2 k3 k4 hm k5).src
end Go.Proofs.Ytmfkmifkkplidaa


/-
  A calculus for walks, part 44: rows of four and of six texts; a variable's tree becomes a row of the walk's own; a list is read as another that agrees.
-/
namespace Go.Proofs.Ytmfkmifkkplidaa
open Go.ChangeShapes Go.WideShapes Go.ChangeAt Go.RowKit Go.BigFrame Go.Deep
set_option linter.unusedVariables false

set_option linter.unusedSimpArgs false
section
variable {P : Program} {N : Nat} {w0 : Start} {σ : Sig} {ops : Array Oper} {rest : List Oper} {o : Oper} {Q : Sig → Prop}
theorem FreshOp.strs4 {t e : Nat} {x1 x2 x3 x4 : Operand} {a1 a2 a3 a4 : ByteArray} (ho : o.op = .buildSlice t 4 #[(0, x1), (1, x2), (2, x3), (3, x4)]) (k1 : Kn σ x1 (.one (.str a1))) (k2 : Kn σ x2 (.one (.str a2))) (k3 : Kn σ x3 (.one (.str a3))) (k4 : Kn σ x4 (.one (.str a4)))
    (ht : P.underlying t = some (.slice e)) (hz : (P.info? e).map (fun i => (i.size, i.zero)) = some (1, some (.string ByteArray.empty))) : FreshOp P o σ (.one (.frs (.lst 1 4 fun i _ => .str (([a1, a2, a3, a4] : List ByteArray).getD i ByteArray.empty)))) := by
  constructor
  intro N w0 ρ S a w K Q' hs hK
  have e1 : a.eval x1 = .string a1 := (k1.sound hs).1
  have be1 := (k1.sound hs).2
  have e2 : a.eval x2 = .string a2 := (k2.sound hs).1
  have be2 := (k2.sound hs).2
  have e3 : a.eval x3 = .string a3 := (k3.sound hs).1
  have be3 := (k3.sound hs).2
  have e4 : a.eval x4 = .string a4 := (k4.sound hs).1
  have be4 := (k4.sound hs).2
  obtain ⟨i, hi, hi2⟩ := Option.map_eq_some_iff.1 hz
  simp only [Prod.mk.injEq] at hi2
  obtain ⟨z1, z2⟩ := hi2
  have er : (execOp a.eval o).run P w = .ok (.value (.slice (some ⟨w.heap.size, 0, none⟩) 4 4)) (w.alloc (.cells #[.string a1, .string a2, .string a3, .string a4] e)) := by
    generalize a.eval = ev at e1 e2 e3 e4 ⊢
    simp [execOp, ho, Instr.buildSlice, run_underlying ht, sizeOf, typeInfo, hi, z1, z2, zeroValue, e1, e2, e3, e4, go_sem]
  unfold Oper.wp
  rw [er]
  have hb : Below w.heap.size w (w.alloc (.cells #[.string a1, .string a2, .string a3, .string a4] e)) := (Below.refl _ _).alloc (Nat.le_refl _) _
  obtain ⟨g1, g2⟩ := hs.grow hb
  have hlt : ρ.base ≤ w.heap.size := by rw [hs.mem.base]; exact hs.mem.low
  refine hK _ _ _ g1 hb (fun b h => h.imp (fun h => h) (fun h => h.1)) g2 ⟨_, _, rfl, Nat.le_refl _, by decide, (fun h => by cases h), fun j hj => ⟨w.heap.size, 0, rfl, ⟨.inr ⟨Nat.le_refl _, by rw [World.heap_alloc, Array.size_push]; omega⟩, hlt⟩, fun q hq => ?_⟩⟩
  obtain rfl : q = 0 := by omega
  have hcell : ∀ p, (w.alloc (.cells #[.string a1, .string a2, .string a3, .string a4] e)).cell? ⟨w.heap.size, p, none⟩ = (#[Value.string a1, .string a2, .string a3, .string a4])[p]? := fun p => by simp [World.cell?, World.heap_alloc]
  match j, hj with
  | 0, _ => exact ⟨.string a1, by rw [hcell]; rfl, rfl, be1⟩
  | 1, _ => exact ⟨.string a2, by rw [hcell]; rfl, rfl, be2⟩
  | 2, _ => exact ⟨.string a3, by rw [hcell]; rfl, rfl, be3⟩
  | 3, _ => exact ⟨.string a4, by rw [hcell]; rfl, rfl, be4⟩
theorem FreshOp.strs6 {t e : Nat} {x1 x2 x3 x4 x5 x6 : Operand} {a1 a2 a3 a4 a5 a6 : ByteArray} (ho : o.op = .buildSlice t 6 #[(0, x1), (1, x2), (2, x3), (3, x4), (4, x5), (5, x6)]) (k1 : Kn σ x1 (.one (.str a1))) (k2 : Kn σ x2 (.one (.str a2))) (k3 : Kn σ x3 (.one (.str a3))) (k4 : Kn σ x4 (.one (.str a4))) (k5 : Kn σ x5 (.one (.str a5))) (k6 : Kn σ x6 (.one (.str a6)))
    (ht : P.underlying t = some (.slice e)) (hz : (P.info? e).map (fun i => (i.size, i.zero)) = some (1, some (.string ByteArray.empty))) : FreshOp P o σ (.one (.frs (.lst 1 6 fun i _ => .str (([a1, a2, a3, a4, a5, a6] : List ByteArray).getD i ByteArray.empty)))) := by
  constructor
  intro N w0 ρ S a w K Q' hs hK
  have e1 : a.eval x1 = .string a1 := (k1.sound hs).1
  have be1 := (k1.sound hs).2
  have e2 : a.eval x2 = .string a2 := (k2.sound hs).1
  have be2 := (k2.sound hs).2
  have e3 : a.eval x3 = .string a3 := (k3.sound hs).1
  have be3 := (k3.sound hs).2
  have e4 : a.eval x4 = .string a4 := (k4.sound hs).1
  have be4 := (k4.sound hs).2
  have e5 : a.eval x5 = .string a5 := (k5.sound hs).1
  have be5 := (k5.sound hs).2
  have e6 : a.eval x6 = .string a6 := (k6.sound hs).1
  have be6 := (k6.sound hs).2
  obtain ⟨i, hi, hi2⟩ := Option.map_eq_some_iff.1 hz
  simp only [Prod.mk.injEq] at hi2
  obtain ⟨z1, z2⟩ := hi2
  have er : (execOp a.eval o).run P w = .ok (.value (.slice (some ⟨w.heap.size, 0, none⟩) 6 6)) (w.alloc (.cells #[.string a1, .string a2, .string a3, .string a4, .string a5, .string a6] e)) := by
    generalize a.eval = ev at e1 e2 e3 e4 e5 e6 ⊢
    simp [execOp, ho, Instr.buildSlice, run_underlying ht, sizeOf, typeInfo, hi, z1, z2, zeroValue, e1, e2, e3, e4, e5, e6, go_sem]
  unfold Oper.wp
  rw [er]
  have hb : Below w.heap.size w (w.alloc (.cells #[.string a1, .string a2, .string a3, .string a4, .string a5, .string a6] e)) := (Below.refl _ _).alloc (Nat.le_refl _) _
  obtain ⟨g1, g2⟩ := hs.grow hb
  have hlt : ρ.base ≤ w.heap.size := by rw [hs.mem.base]; exact hs.mem.low
  refine hK _ _ _ g1 hb (fun b h => h.imp (fun h => h) (fun h => h.1)) g2 ⟨_, _, rfl, Nat.le_refl _, by decide, (fun h => by cases h), fun j hj => ⟨w.heap.size, 0, rfl, ⟨.inr ⟨Nat.le_refl _, by rw [World.heap_alloc, Array.size_push]; omega⟩, hlt⟩, fun q hq => ?_⟩⟩
  obtain rfl : q = 0 := by omega
  have hcell : ∀ p, (w.alloc (.cells #[.string a1, .string a2, .string a3, .string a4, .string a5, .string a6] e)).cell? ⟨w.heap.size, p, none⟩ = (#[Value.string a1, .string a2, .string a3, .string a4, .string a5, .string a6])[p]? := fun p => by simp [World.cell?, World.heap_alloc]
  match j, hj with
  | 0, _ => exact ⟨.string a1, by rw [hcell]; rfl, rfl, be1⟩
  | 1, _ => exact ⟨.string a2, by rw [hcell]; rfl, rfl, be2⟩
  | 2, _ => exact ⟨.string a3, by rw [hcell]; rfl, rfl, be3⟩
  | 3, _ => exact ⟨.string a4, by rw [hcell]; rfl, rfl, be4⟩
  | 4, _ => exact ⟨.string a5, by rw [hcell]; rfl, rfl, be5⟩
  | 5, _ => exact ⟨.string a6, by rw [hcell]; rfl, rfl, be6⟩
theorem FreshOp.pairL {t e : Nat} {x y : Operand} {a1 a2 : Int} (ho : o.op = .buildSlice t 2 #[(0, x), (1, y)]) (hx : Kn σ x (.one (.int .i64 a1))) (hy : Kn σ y (.one (.int .i64 a2)))
    (ht : P.underlying t = some (.slice e)) (hz : (P.info? e).map (fun i => (i.size, i.zero)) = some (1, some (.int .i64 0))) : FreshOp P o σ (.one (.frs (.lst 1 2 fun i _ => .int .i64 (([a1, a2] : List Int).getD i 0)))) := by
  constructor
  intro N w0 ρ S a w K Q' hs hK
  have e1 : a.eval x = .int .i64 a1 := hx.sound hs
  have e2 : a.eval y = .int .i64 a2 := hy.sound hs
  obtain ⟨i, hi, hi2⟩ := Option.map_eq_some_iff.1 hz
  simp only [Prod.mk.injEq] at hi2
  obtain ⟨z1, z2⟩ := hi2
  have er : (execOp a.eval o).run P w = .ok (.value (.slice (some ⟨w.heap.size, 0, none⟩) 2 2)) (w.alloc (.cells #[.int .i64 a1, .int .i64 a2] e)) := by
    generalize a.eval = ev at e1 e2 ⊢
    simp [execOp, ho, Instr.buildSlice, run_underlying ht, sizeOf, typeInfo, hi, z1, z2, zeroValue, e1, e2, go_sem]
  unfold Oper.wp
  rw [er]
  have hb : Below w.heap.size w (w.alloc (.cells #[.int .i64 a1, .int .i64 a2] e)) := (Below.refl _ _).alloc (Nat.le_refl _) _
  obtain ⟨g1, g2⟩ := hs.grow hb
  have hlt : ρ.base ≤ w.heap.size := by rw [hs.mem.base]; exact hs.mem.low
  refine hK _ _ _ g1 hb (fun b h => h.imp (fun h => h) (fun h => h.1)) g2 ⟨_, _, rfl, Nat.le_refl _, by decide, (fun h => by cases h), fun j hj => ⟨w.heap.size, 0, rfl, ⟨.inr ⟨Nat.le_refl _, by rw [World.heap_alloc, Array.size_push]; omega⟩, hlt⟩, fun q hq => ?_⟩⟩
  obtain rfl : q = 0 := by omega
  have hcell : ∀ p, (w.alloc (.cells #[.int .i64 a1, .int .i64 a2] e)).cell? ⟨w.heap.size, p, none⟩ = (#[Value.int .i64 a1, .int .i64 a2])[p]? := fun p => by simp [World.cell?, World.heap_alloc]
  match j, hj with
  | 0, _ => exact ⟨.int .i64 a1, by rw [hcell]; rfl, rfl⟩
  | 1, _ => exact ⟨.int .i64 a2, by rw [hcell]; rfl, rfl⟩
/-- A variable's cell, a tree that is a row with a column of rows, becomes a row of the walk's own and a family. -/
theorem AW.openCell {c0 : Code} {Q2 : Exit → Sig → Prop} (v j K q m sz c n id L : Nat) (l l' : List AV) (X : Nat → AV) (f f' : Nat → Nat → AV) (hv : σ.heap.lookup v = some (.cells l)) (hj : l[j]? = some (.tre K q)) (hl : l.set j (.own id sz n) = l') (hK : σ.heap.lookup K = some (.trees m X)) (hvK : v ≠ K) (hq : q < m) (hX : X q = .lst sz n f) (hcs : c < sz)
    (hlst : ∀ i, i < n → ∃ s k g, f i c = .lst s k g) (hscl : ∀ i j, i < n → j < sz → j ≠ c → (f i j).scl = true) (hf : Fr id σ) (hL : Fr L σ) (hne : id ≠ L) (hff : ∀ i j, i < n → j < sz → (if j = c then .tre L i else f i j) = f' i j)
    (h : AW P N w0 c0 Q2 ⟨σ.env, (v, .cells l') :: (id, .arr sz n f') :: (L, .trees n fun i => f i c) :: σ.heap.filter fun p => p.1 != K⟩) : AW P N w0 c0 Q2 σ := by
  intro ρ S a w Q' hQ hs
  obtain ⟨ρ', hs', hV⟩ := hs.openRowC hK hq hX hcs hlst hscl hf hL hne
  have hv1 : v ≠ id := (hf.heap.get hv).1
  have hv2 : v ≠ L := (hL.heap.get hv).1
  have hm : MemOk w0.base ρ' S ((id, .arr sz n f') :: (L, .trees n fun i => f i c) :: σ.heap.filter fun p => p.1 != K) w := hs'.mem.le' fun k p hp => by
    rcases lookup_put hp with ⟨rfl, rfl⟩ | ⟨hne, hp⟩
    · exact ⟨AObj.arr sz n fun i j => if j = c then .tre L i else f i j, by rw [List.lookup_cons, beq_self_eq_true], rfl, Nat.le_refl _, fun i j hi hj => (hff i j hi hj)⟩
    · exact HLe.refl (by rw [List.lookup_cons, show (k == id) = false by simpa using hne]; exact hp)
  have hv' : ((id, AObj.arr sz n f') :: (L, .trees n fun i => f i c) :: σ.heap.filter fun p => p.1 != K : Heap).lookup v = some (.cells l) := by
    rw [List.lookup_cons, show (v == id) = false by simpa using hv1]
    show ((L, _) :: σ.heap.filter fun p => p.1 != K : Heap).lookup v = _
    rw [List.lookup_cons, show (v == L) = false by simpa using hv2]
    show (σ.heap.filter fun p => p.1 != K).lookup v = _
    rw [lookup_filter_ne hvK]; exact hv
  refine h ρ' S a w Q' hQ ⟨hs'.size, hs'.defers, hs'.below, hm.reob hv' rfl (by simp [AObj.sz, ← hl]) rfl (fun i q u _ hq hr => ?_), hs'.env⟩
  rw [← hl]
  exact R.setAt hV hj hq hr
theorem D.lstEq {w : World} {S : Nat → Prop} {sz n n' : Nat} {f f' : Nat → Nat → AV} (hn : n = n') (hf : ∀ i j, i < n → j < sz → f i j = f' i j) {v : Value} (h : D w S (.lst sz n f) v) : D w S (.lst sz n' f') v := by
  subst hn
  unfold D at h ⊢
  obtain ⟨A, c, e, h1, h2, h3, h4⟩ := h
  refine ⟨A, c, e, h1, h2, h3, fun i hi => ?_⟩
  obtain ⟨b, off, hA, hS, hc⟩ := h4 i hi
  refine ⟨b, off, hA, hS, fun j hj => ?_⟩
  obtain ⟨u, hu, hr⟩ := hc j hj
  exact ⟨u, hu, hf i j hi hj ▸ hr⟩
/-- A guarded operation whose guard stands. -/
theorem ARun.sure {g t : Nat} {want c : Bool} (hgate : Gate σ t want c) (hc : c = true) (hg : o.guard = some (g, want)) (hgd : (ops[g]?).bind (·.dst) = some t) (ht : t < N) (h : ARun P N w0 ops Q ({ o with guard := none } :: rest) σ) : ARun P N w0 ops Q (o :: rest) σ := by
  intro ρ S a w Q' hQ hs
  have hw := hgate.sound (ops := ops) hs ht hg hgd
  have h1 := h ρ S a w Q' hQ hs
  have e : Region.wanted { o with guard := none } (yielded ops a.tmps) = true := rfl
  unfold wpList at h1 ⊢
  rw [if_pos e] at h1
  rw [if_pos (hw.trans hc)]
  exact h1
theorem PureOp.lstEq {sz n n' : Nat} {f f' : Nat → Nat → AV} (h : PureOp P o σ (.one (.lst sz n f))) (hn : n = n') (hf : ∀ i j, i < n → j < sz → f i j = f' i j) : PureOp P o σ (.one (.lst sz n' f')) := fun N w0 ρ S a w hs => by
  obtain ⟨v, h1, h2⟩ := h N w0 ρ S a w hs
  have h1 : D w S (.lst sz n f) v := h1
  exact ⟨v, show D w S (.lst sz n' f') v from h1.lstEq hn hf, h2⟩
end
end Go.Proofs.Ytmfkmifkkplidaa


/-
  What the reference's cursor draws: numbers, one of some texts, one of some numbers.
-/
namespace Go.Proofs.Ytmfkmifkkplidaa
open Go.ChangeShapes Go.WideShapes Go.ChangeAt Go.RowKit Go.BigFrame Go.Deep
set_option linter.unusedVariables false
set_option linter.unusedSimpArgs false
theorem vd1_ca_80 : callB Try.prog 80 = true := by kernel_rfl
theorem vd1_ca_89 : callB Try.prog 89 = true := by kernel_rfl
theorem vd1_cv_3_94_.u64 : convB Try.prog 3 94 .u64 = true := by kernel_rfl
theorem vd1_cv_5_3_.i64 : convB Try.prog 5 3 .i64 = true := by kernel_rfl
theorem vd1_cv_94_3_.i64 : convB Try.prog 94 3 .i64 = true := by kernel_rfl
theorem vd1_el_117_1 : elemB Try.prog 117 1 = true := by kernel_rfl
theorem vd1_el_52_1 : elemB Try.prog 52 1 = true := by kernel_rfl
theorem vd1_el_62_1 : elemB Try.prog 62 1 = true := by kernel_rfl
theorem vd1_fi_96_0_0 : fieldB Try.prog 96 0 0 = true := by kernel_rfl
theorem vd1_fi_96_1_1 : fieldB Try.prog 96 1 1 = true := by kernel_rfl
theorem vd1_fi_96_2_2 : fieldB Try.prog 96 2 2 = true := by kernel_rfl
theorem vd1_pl_3 : plainB Try.prog 3 = true := by kernel_rfl
theorem vd1_pl_5 : plainB Try.prog 5 = true := by kernel_rfl
theorem vd1_pl_62 : plainB Try.prog 62 = true := by kernel_rfl
theorem vd1_pl_9 : plainB Try.prog 9 = true := by kernel_rfl
theorem vd1_pl_94 : plainB Try.prog 94 = true := by kernel_rfl
theorem vd1_sl_117 : sliceB Try.prog 117 = true := by kernel_rfl
theorem vd1_sl_52 : sliceB Try.prog 52 = true := by kernel_rfl
theorem vd1_sl_62 : sliceB Try.prog 62 = true := by kernel_rfl
theorem vd1_sz_3_1 : sizeB Try.prog 3 1 = true := by kernel_rfl
theorem vd1_sz_94_1 : sizeB Try.prog 94 1 = true := by kernel_rfl
theorem v_Next (n : Nat) (F : Nat → Nat) (hF : ∀ i, F i < 256) (p s : Nat) (hp : p ≤ 2000000000) (hs : s < 18446744073709551616) : FnC Try.prog 89 n F [] p s (fun (x : Nat) p' s' => x < 256 ∧ CurOk p 1 p' s') (fun (x : Nat) => .one (.int .i64 (x : Int))) := by
  have hF' := hF p
  refine FnC.of_body (fn := Try.f89) Try.func89 rfl (Nat.le_of_ble_eq_true rfl) ?_
  intro w0 c
  show AW _ 62 _ _ _ _
  refine AW.seq ?_
  refine AW.region ?_
  refine ARun.pure (PureOp.assign rfl .int) rfl rfl (Nat.le_of_ble_eq_true rfl) ?_
  refine ARun.nil ?_
  refine AW.seq ?_
  refine AW.region ?_
  refine ARun.pure (PureOp.assign rfl .int) rfl rfl (Nat.le_of_ble_eq_true rfl) ?_
  refine ARun.nil ?_
  refine AW.seq ?_
  refine AW.seq ?_
  refine AW.any (by kernel_rfl) (by kernel_rfl) ?_
  refine AD.pure (PureOp.move rfl (.tmp rfl)) rfl rfl (Nat.le_of_ble_eq_true rfl) ?_
  refine AD.pure (PureOp.nilPtr rfl (.tmp rfl)) rfl rfl (Nat.le_of_ble_eq_true rfl) ?_
  refine AD.pure (PureOp.fieldPtr rfl (.tmp rfl) vd1_fi_96_1_1) rfl rfl (Nat.le_of_ble_eq_true rfl) ?_
  refine AD.pure (PureOp.loadPtr rfl (.tmp rfl) vd1_pl_3 rfl rfl (Nat.le_of_ble_eq_true rfl) (Nat.le_of_ble_eq_true rfl)) rfl rfl (Nat.le_of_ble_eq_true rfl) ?_
  refine AD.pure (PureOp.move rfl (.tmp rfl)) rfl rfl (Nat.le_of_ble_eq_true rfl) ?_
  refine AD.pure (PureOp.nilPtr rfl (.tmp rfl)) rfl rfl (Nat.le_of_ble_eq_true rfl) ?_
  refine AD.pure (PureOp.fieldPtr rfl (.tmp rfl) vd1_fi_96_0_0) rfl rfl (Nat.le_of_ble_eq_true rfl) ?_
  refine AD.pure (PureOp.loadPtr rfl (.tmp rfl) vd1_pl_62 rfl rfl (Nat.le_of_ble_eq_true rfl) (Nat.le_of_ble_eq_true rfl)) rfl rfl (Nat.le_of_ble_eq_true rfl) ?_
  refine AD.pure (PureOp.lenLst rfl (.cv (.tmp rfl)) vd1_sl_62) rfl rfl (Nat.le_of_ble_eq_true rfl) ?_
  refine AD.pure (PureOp.intOp rfl (.tmp rfl) (.tmp rfl) rfl) rfl rfl (Nat.le_of_ble_eq_true rfl) ?_
  refine AD.nil ?_
  refine AW.cond (.tmp rfl) (fun hb1 => ?_) (fun hb1 => ?_)
  · have _u := True.intro
    replace hb1 := of_decide_eq_true hb1
    refine AW.any (by kernel_rfl) (by kernel_rfl) ?_
    refine AD.pure (PureOp.move rfl (.tmp rfl)) rfl rfl (Nat.le_of_ble_eq_true rfl) ?_
    refine AD.pure (PureOp.nilPtr rfl (.tmp rfl)) rfl rfl (Nat.le_of_ble_eq_true rfl) ?_
    refine AD.pure (PureOp.fieldPtr rfl (.tmp rfl) vd1_fi_96_0_0) rfl rfl (Nat.le_of_ble_eq_true rfl) ?_
    refine AD.pure (PureOp.loadPtr rfl (.tmp rfl) vd1_pl_62 rfl rfl (Nat.le_of_ble_eq_true rfl) (Nat.le_of_ble_eq_true rfl)) rfl rfl (Nat.le_of_ble_eq_true rfl) ?_
    refine AD.pure (PureOp.move rfl (.tmp rfl)) rfl rfl (Nat.le_of_ble_eq_true rfl) ?_
    refine AD.pure (PureOp.nilPtr rfl (.tmp rfl)) rfl rfl (Nat.le_of_ble_eq_true rfl) ?_
    refine AD.pure (PureOp.fieldPtr rfl (.tmp rfl) vd1_fi_96_1_1) rfl rfl (Nat.le_of_ble_eq_true rfl) ?_
    refine AD.pure (PureOp.loadPtr rfl (.tmp rfl) vd1_pl_3 rfl rfl (Nat.le_of_ble_eq_true rfl) (Nat.le_of_ble_eq_true rfl)) rfl rfl (Nat.le_of_ble_eq_true rfl) ?_
    refine AD.pure (PureOp.indexLst (i := p) rfl (.cv (.tmp rfl)) vd1_el_62_1 (.tmp rfl) rfl (by omega)) rfl rfl (Nat.le_of_ble_eq_true rfl) ?_
    refine AD.pure (PureOp.loadRef rfl (.tmp rfl) vd1_pl_5 (Nat.le_of_ble_eq_true rfl)) rfl rfl (Nat.le_of_ble_eq_true rfl) ?_
    refine AD.pure (PureOp.conv (b := ((F p : Nat) : Int)) rfl (.tmp rfl) vd1_cv_5_3_.i64 (wrap_id (by omega) (by omega))) rfl rfl (Nat.le_of_ble_eq_true rfl) ?_
    refine AD.pure (PureOp.assign rfl (.tmp rfl)) rfl rfl (Nat.le_of_ble_eq_true rfl) ?_
    refine AD.nil ?_
    refine AW.seq ?_
    refine AW.region ?_
    refine ARun.pure (PureOp.move rfl (.tmp rfl)) rfl rfl (Nat.le_of_ble_eq_true rfl) ?_
    refine ARun.pure (PureOp.nilPtr rfl (.tmp rfl)) rfl rfl (Nat.le_of_ble_eq_true rfl) ?_
    refine ARun.pure (PureOp.fieldPtr rfl (.tmp rfl) vd1_fi_96_1_1) rfl rfl (Nat.le_of_ble_eq_true rfl) ?_
    refine ARun.pure (PureOp.loadPtr rfl (.tmp rfl) vd1_pl_3 rfl rfl (Nat.le_of_ble_eq_true rfl) (Nat.le_of_ble_eq_true rfl)) rfl rfl (Nat.le_of_ble_eq_true rfl) ?_
    refine ARun.pure (PureOp.add (c := ((p + 1 : Nat) : Int)) rfl (.tmp rfl) .int (by rw [wrap_id (by omega) (by omega)]; omega)) rfl rfl (Nat.le_of_ble_eq_true rfl) ?_
    refine ARun.pure (PureOp.nilPtr rfl (.tmp rfl)) rfl rfl (Nat.le_of_ble_eq_true rfl) ?_
    refine ARun.pure (PureOp.fieldPtr rfl (.tmp rfl) vd1_fi_96_1_1) rfl rfl (Nat.le_of_ble_eq_true rfl) ?_
    refine ARun.store rfl (.tmp rfl) (.tmp rfl) trivial rfl (Nat.le_of_ble_eq_true rfl) vd1_sz_3_1 rfl rfl ?_
    refine ARun.nil ?_
    refine AW.seq ?_
    refine AW.region ?_
    refine ARun.pure (PureOp.move rfl (.tmp rfl)) rfl rfl (Nat.le_of_ble_eq_true rfl) ?_
    refine ARun.pure (PureOp.move rfl (.tmp rfl)) rfl rfl (Nat.le_of_ble_eq_true rfl) ?_
    refine ARun.pure (PureOp.nilPtr rfl (.tmp rfl)) rfl rfl (Nat.le_of_ble_eq_true rfl) ?_
    refine ARun.pure (PureOp.fieldPtr rfl (.tmp rfl) vd1_fi_96_2_2) rfl rfl (Nat.le_of_ble_eq_true rfl) ?_
    refine ARun.pure (PureOp.loadPtr rfl (.tmp rfl) vd1_pl_94 rfl rfl (Nat.le_of_ble_eq_true rfl) (Nat.le_of_ble_eq_true rfl)) rfl rfl (Nat.le_of_ble_eq_true rfl) ?_
    refine ARun.pure (PureOp.mulU (c := (((s * 6364136223846793005) % 18446744073709551616 : Nat) : Int)) rfl (.tmp rfl) .int (by rw [IntKind.wrap_u64]; omega)) rfl rfl (Nat.le_of_ble_eq_true rfl) ?_
    refine ARun.pure (PureOp.move rfl (.tmp rfl)) rfl rfl (Nat.le_of_ble_eq_true rfl) ?_
    refine ARun.pure (PureOp.conv (b := ((F p : Nat) : Int)) rfl (.tmp rfl) vd1_cv_3_94_.u64 (by rw [IntKind.wrap_u64]; omega)) rfl rfl (Nat.le_of_ble_eq_true rfl) ?_
    refine ARun.pure (PureOp.addU (c := (((((s * 6364136223846793005) % 18446744073709551616) + (F p)) % 18446744073709551616 : Nat) : Int)) rfl (.tmp rfl) (.tmp rfl) (by rw [IntKind.wrap_u64]; omega)) rfl rfl (Nat.le_of_ble_eq_true rfl) ?_
    refine ARun.pure (PureOp.addU (c := (((((((s * 6364136223846793005) % 18446744073709551616) + (F p)) % 18446744073709551616) + 1442695040888963407) % 18446744073709551616 : Nat) : Int)) rfl (.tmp rfl) .int (by rw [IntKind.wrap_u64]; omega)) rfl rfl (Nat.le_of_ble_eq_true rfl) ?_
    refine ARun.pure (PureOp.nilPtr rfl (.tmp rfl)) rfl rfl (Nat.le_of_ble_eq_true rfl) ?_
    refine ARun.pure (PureOp.fieldPtr rfl (.tmp rfl) vd1_fi_96_2_2) rfl rfl (Nat.le_of_ble_eq_true rfl) ?_
    refine ARun.store rfl (.tmp rfl) (.tmp rfl) trivial rfl (Nat.le_of_ble_eq_true rfl) vd1_sz_94_1 rfl rfl ?_
    refine ARun.nil ?_
    refine AW.seq ?_
    refine AW.seq ?_
    refine AW.any (by kernel_rfl) (by kernel_rfl) ?_
    refine AD.pure (PureOp.move rfl (.tmp rfl)) rfl rfl (Nat.le_of_ble_eq_true rfl) ?_
    refine AD.pure (PureOp.nilPtr rfl (.tmp rfl)) rfl rfl (Nat.le_of_ble_eq_true rfl) ?_
    refine AD.pure (PureOp.fieldPtr rfl (.tmp rfl) vd1_fi_96_1_1) rfl rfl (Nat.le_of_ble_eq_true rfl) ?_
    refine AD.pure (PureOp.loadPtr rfl (.tmp rfl) vd1_pl_3 rfl rfl (Nat.le_of_ble_eq_true rfl) (Nat.le_of_ble_eq_true rfl)) rfl rfl (Nat.le_of_ble_eq_true rfl) ?_
    refine AD.pure (PureOp.move rfl (.tmp rfl)) rfl rfl (Nat.le_of_ble_eq_true rfl) ?_
    refine AD.pure (PureOp.nilPtr rfl (.tmp rfl)) rfl rfl (Nat.le_of_ble_eq_true rfl) ?_
    refine AD.pure (PureOp.fieldPtr rfl (.tmp rfl) vd1_fi_96_0_0) rfl rfl (Nat.le_of_ble_eq_true rfl) ?_
    refine AD.pure (PureOp.loadPtr rfl (.tmp rfl) vd1_pl_62 rfl rfl (Nat.le_of_ble_eq_true rfl) (Nat.le_of_ble_eq_true rfl)) rfl rfl (Nat.le_of_ble_eq_true rfl) ?_
    refine AD.pure (PureOp.lenLst rfl (.cv (.tmp rfl)) vd1_sl_62) rfl rfl (Nat.le_of_ble_eq_true rfl) ?_
    refine AD.pure (PureOp.intOp rfl (.tmp rfl) (.tmp rfl) rfl) rfl rfl (Nat.le_of_ble_eq_true rfl) ?_
    refine AD.nil ?_
    refine AW.cond (.tmp rfl) (fun hb2 => ?_) (fun hb2 => ?_)
    · have _u := True.intro
      replace hb2 := of_decide_eq_true hb2
      refine AW.seq ?_
      refine AW.region ?_
      refine ARun.pure (PureOp.move rfl (.tmp rfl)) rfl rfl (Nat.le_of_ble_eq_true rfl) ?_
      refine ARun.pure (PureOp.assign rfl (.tmp rfl)) rfl rfl (Nat.le_of_ble_eq_true rfl) ?_
      refine ARun.nil ?_
      exact AW.ret (show ∃ x p' s' t, _ ∧ ResL _ _ [.tmp 2] t ∧ _ ∧ _ from ⟨(F p), (p + 1), ((((((s * 6364136223846793005) % 18446744073709551616) + (F p)) % 18446744073709551616) + 1442695040888963407) % 18446744073709551616), _, ⟨by first | omega | exact Nat.mod_lt _ (by decide), ⟨by omega, by omega, Nat.mod_lt _ (by decide)⟩⟩, .inl ⟨_, rfl, .tmp rfl⟩, .int, rfl⟩)
    · have _u := True.intro
      replace hb2 := of_decide_eq_false hb2
      refine AW.skip ?_
      refine AW.seq ?_
      refine AW.region ?_
      refine ARun.pure (PureOp.move rfl (.tmp rfl)) rfl rfl (Nat.le_of_ble_eq_true rfl) ?_
      refine ARun.pure (PureOp.nilPtr rfl (.tmp rfl)) rfl rfl (Nat.le_of_ble_eq_true rfl) ?_
      refine ARun.pure (PureOp.fieldPtr rfl (.tmp rfl) vd1_fi_96_2_2) rfl rfl (Nat.le_of_ble_eq_true rfl) ?_
      refine ARun.pure (PureOp.loadPtr rfl (.tmp rfl) vd1_pl_94 rfl rfl (Nat.le_of_ble_eq_true rfl) (Nat.le_of_ble_eq_true rfl)) rfl rfl (Nat.le_of_ble_eq_true rfl) ?_
      refine ARun.pure (PureOp.shr40 (a := (((((s * 6364136223846793005) % 18446744073709551616) + (F p)) % 18446744073709551616) + 1442695040888963407) % 18446744073709551616) rfl (.tmp rfl) .int) rfl rfl (Nat.le_of_ble_eq_true rfl) ?_
      refine ARun.pure (PureOp.and255 (a := ((((((s * 6364136223846793005) % 18446744073709551616) + (F p)) % 18446744073709551616) + 1442695040888963407) % 18446744073709551616) / 1099511627776) rfl (.tmp rfl) .int (by omega)) rfl rfl (Nat.le_of_ble_eq_true rfl) ?_
      refine ARun.pure (PureOp.conv (b := (((((((((s * 6364136223846793005) % 18446744073709551616) + (F p)) % 18446744073709551616) + 1442695040888963407) % 18446744073709551616) / 1099511627776) % 256 : Nat) : Int)) rfl (.tmp rfl) vd1_cv_94_3_.i64 (wrap_id (by omega) (by omega))) rfl rfl (Nat.le_of_ble_eq_true rfl) ?_
      refine ARun.pure (PureOp.assign rfl (.tmp rfl)) rfl rfl (Nat.le_of_ble_eq_true rfl) ?_
      refine ARun.nil ?_
      exact AW.ret (show ∃ x p' s' t, _ ∧ ResL _ _ [.tmp 2] t ∧ _ ∧ _ from ⟨((((((((s * 6364136223846793005) % 18446744073709551616) + (F p)) % 18446744073709551616) + 1442695040888963407) % 18446744073709551616) / 1099511627776) % 256), (p + 1), ((((((s * 6364136223846793005) % 18446744073709551616) + (F p)) % 18446744073709551616) + 1442695040888963407) % 18446744073709551616), _, ⟨by first | omega | exact Nat.mod_lt _ (by decide), ⟨by omega, by omega, Nat.mod_lt _ (by decide)⟩⟩, .inl ⟨_, rfl, .tmp rfl⟩, .int, rfl⟩)
  · have _u := True.intro
    replace hb1 := of_decide_eq_false hb1
    refine AW.skip ?_
    refine AW.seq ?_
    refine AW.region ?_
    refine ARun.pure (PureOp.move rfl (.tmp rfl)) rfl rfl (Nat.le_of_ble_eq_true rfl) ?_
    refine ARun.pure (PureOp.nilPtr rfl (.tmp rfl)) rfl rfl (Nat.le_of_ble_eq_true rfl) ?_
    refine ARun.pure (PureOp.fieldPtr rfl (.tmp rfl) vd1_fi_96_1_1) rfl rfl (Nat.le_of_ble_eq_true rfl) ?_
    refine ARun.pure (PureOp.loadPtr rfl (.tmp rfl) vd1_pl_3 rfl rfl (Nat.le_of_ble_eq_true rfl) (Nat.le_of_ble_eq_true rfl)) rfl rfl (Nat.le_of_ble_eq_true rfl) ?_
    refine ARun.pure (PureOp.add (c := ((p + 1 : Nat) : Int)) rfl (.tmp rfl) .int (by rw [wrap_id (by omega) (by omega)]; omega)) rfl rfl (Nat.le_of_ble_eq_true rfl) ?_
    refine ARun.pure (PureOp.nilPtr rfl (.tmp rfl)) rfl rfl (Nat.le_of_ble_eq_true rfl) ?_
    refine ARun.pure (PureOp.fieldPtr rfl (.tmp rfl) vd1_fi_96_1_1) rfl rfl (Nat.le_of_ble_eq_true rfl) ?_
    refine ARun.store rfl (.tmp rfl) (.tmp rfl) trivial rfl (Nat.le_of_ble_eq_true rfl) vd1_sz_3_1 rfl rfl ?_
    refine ARun.nil ?_
    refine AW.seq ?_
    refine AW.region ?_
    refine ARun.pure (PureOp.move rfl (.tmp rfl)) rfl rfl (Nat.le_of_ble_eq_true rfl) ?_
    refine ARun.pure (PureOp.move rfl (.tmp rfl)) rfl rfl (Nat.le_of_ble_eq_true rfl) ?_
    refine ARun.pure (PureOp.nilPtr rfl (.tmp rfl)) rfl rfl (Nat.le_of_ble_eq_true rfl) ?_
    refine ARun.pure (PureOp.fieldPtr rfl (.tmp rfl) vd1_fi_96_2_2) rfl rfl (Nat.le_of_ble_eq_true rfl) ?_
    refine ARun.pure (PureOp.loadPtr rfl (.tmp rfl) vd1_pl_94 rfl rfl (Nat.le_of_ble_eq_true rfl) (Nat.le_of_ble_eq_true rfl)) rfl rfl (Nat.le_of_ble_eq_true rfl) ?_
    refine ARun.pure (PureOp.mulU (c := (((s * 6364136223846793005) % 18446744073709551616 : Nat) : Int)) rfl (.tmp rfl) .int (by rw [IntKind.wrap_u64]; omega)) rfl rfl (Nat.le_of_ble_eq_true rfl) ?_
    refine ARun.pure (PureOp.move rfl (.tmp rfl)) rfl rfl (Nat.le_of_ble_eq_true rfl) ?_
    refine ARun.pure (PureOp.conv (b := 0) rfl (.tmp rfl) vd1_cv_3_94_.u64 (by rw [IntKind.wrap_u64]; omega)) rfl rfl (Nat.le_of_ble_eq_true rfl) ?_
    refine ARun.pure (PureOp.addU (c := (((((s * 6364136223846793005) % 18446744073709551616) + 0) % 18446744073709551616 : Nat) : Int)) rfl (.tmp rfl) (.tmp rfl) (by rw [IntKind.wrap_u64]; omega)) rfl rfl (Nat.le_of_ble_eq_true rfl) ?_
    refine ARun.pure (PureOp.addU (c := (((((((s * 6364136223846793005) % 18446744073709551616) + 0) % 18446744073709551616) + 1442695040888963407) % 18446744073709551616 : Nat) : Int)) rfl (.tmp rfl) .int (by rw [IntKind.wrap_u64]; omega)) rfl rfl (Nat.le_of_ble_eq_true rfl) ?_
    refine ARun.pure (PureOp.nilPtr rfl (.tmp rfl)) rfl rfl (Nat.le_of_ble_eq_true rfl) ?_
    refine ARun.pure (PureOp.fieldPtr rfl (.tmp rfl) vd1_fi_96_2_2) rfl rfl (Nat.le_of_ble_eq_true rfl) ?_
    refine ARun.store rfl (.tmp rfl) (.tmp rfl) trivial rfl (Nat.le_of_ble_eq_true rfl) vd1_sz_94_1 rfl rfl ?_
    refine ARun.nil ?_
    refine AW.seq ?_
    refine AW.seq ?_
    refine AW.any (by kernel_rfl) (by kernel_rfl) ?_
    refine AD.pure (PureOp.move rfl (.tmp rfl)) rfl rfl (Nat.le_of_ble_eq_true rfl) ?_
    refine AD.pure (PureOp.nilPtr rfl (.tmp rfl)) rfl rfl (Nat.le_of_ble_eq_true rfl) ?_
    refine AD.pure (PureOp.fieldPtr rfl (.tmp rfl) vd1_fi_96_1_1) rfl rfl (Nat.le_of_ble_eq_true rfl) ?_
    refine AD.pure (PureOp.loadPtr rfl (.tmp rfl) vd1_pl_3 rfl rfl (Nat.le_of_ble_eq_true rfl) (Nat.le_of_ble_eq_true rfl)) rfl rfl (Nat.le_of_ble_eq_true rfl) ?_
    refine AD.pure (PureOp.move rfl (.tmp rfl)) rfl rfl (Nat.le_of_ble_eq_true rfl) ?_
    refine AD.pure (PureOp.nilPtr rfl (.tmp rfl)) rfl rfl (Nat.le_of_ble_eq_true rfl) ?_
    refine AD.pure (PureOp.fieldPtr rfl (.tmp rfl) vd1_fi_96_0_0) rfl rfl (Nat.le_of_ble_eq_true rfl) ?_
    refine AD.pure (PureOp.loadPtr rfl (.tmp rfl) vd1_pl_62 rfl rfl (Nat.le_of_ble_eq_true rfl) (Nat.le_of_ble_eq_true rfl)) rfl rfl (Nat.le_of_ble_eq_true rfl) ?_
    refine AD.pure (PureOp.lenLst rfl (.cv (.tmp rfl)) vd1_sl_62) rfl rfl (Nat.le_of_ble_eq_true rfl) ?_
    refine AD.pure (PureOp.intOp rfl (.tmp rfl) (.tmp rfl) rfl) rfl rfl (Nat.le_of_ble_eq_true rfl) ?_
    refine AD.nil ?_
    refine AW.cond (.tmp rfl) (fun hb3 => ?_) (fun hb3 => ?_)
    · have _u := True.intro
      replace hb3 := of_decide_eq_true hb3
      refine AW.seq ?_
      refine AW.region ?_
      refine ARun.pure (PureOp.move rfl (.tmp rfl)) rfl rfl (Nat.le_of_ble_eq_true rfl) ?_
      refine ARun.pure (PureOp.assign rfl (.tmp rfl)) rfl rfl (Nat.le_of_ble_eq_true rfl) ?_
      refine ARun.nil ?_
      exact AW.ret (show ∃ x p' s' t, _ ∧ ResL _ _ [.tmp 2] t ∧ _ ∧ _ from ⟨0, (p + 1), ((((((s * 6364136223846793005) % 18446744073709551616) + 0) % 18446744073709551616) + 1442695040888963407) % 18446744073709551616), _, ⟨by first | omega | exact Nat.mod_lt _ (by decide), ⟨by omega, by omega, Nat.mod_lt _ (by decide)⟩⟩, .inl ⟨_, rfl, .tmp rfl⟩, .int, rfl⟩)
    · have _u := True.intro
      replace hb3 := of_decide_eq_false hb3
      refine AW.skip ?_
      refine AW.seq ?_
      refine AW.region ?_
      refine ARun.pure (PureOp.move rfl (.tmp rfl)) rfl rfl (Nat.le_of_ble_eq_true rfl) ?_
      refine ARun.pure (PureOp.nilPtr rfl (.tmp rfl)) rfl rfl (Nat.le_of_ble_eq_true rfl) ?_
      refine ARun.pure (PureOp.fieldPtr rfl (.tmp rfl) vd1_fi_96_2_2) rfl rfl (Nat.le_of_ble_eq_true rfl) ?_
      refine ARun.pure (PureOp.loadPtr rfl (.tmp rfl) vd1_pl_94 rfl rfl (Nat.le_of_ble_eq_true rfl) (Nat.le_of_ble_eq_true rfl)) rfl rfl (Nat.le_of_ble_eq_true rfl) ?_
      refine ARun.pure (PureOp.shr40 (a := (((((s * 6364136223846793005) % 18446744073709551616) + 0) % 18446744073709551616) + 1442695040888963407) % 18446744073709551616) rfl (.tmp rfl) .int) rfl rfl (Nat.le_of_ble_eq_true rfl) ?_
      refine ARun.pure (PureOp.and255 (a := ((((((s * 6364136223846793005) % 18446744073709551616) + 0) % 18446744073709551616) + 1442695040888963407) % 18446744073709551616) / 1099511627776) rfl (.tmp rfl) .int (by omega)) rfl rfl (Nat.le_of_ble_eq_true rfl) ?_
      refine ARun.pure (PureOp.conv (b := (((((((((s * 6364136223846793005) % 18446744073709551616) + 0) % 18446744073709551616) + 1442695040888963407) % 18446744073709551616) / 1099511627776) % 256 : Nat) : Int)) rfl (.tmp rfl) vd1_cv_94_3_.i64 (wrap_id (by omega) (by omega))) rfl rfl (Nat.le_of_ble_eq_true rfl) ?_
      refine ARun.pure (PureOp.assign rfl (.tmp rfl)) rfl rfl (Nat.le_of_ble_eq_true rfl) ?_
      refine ARun.nil ?_
      exact AW.ret (show ∃ x p' s' t, _ ∧ ResL _ _ [.tmp 2] t ∧ _ ∧ _ from ⟨((((((((s * 6364136223846793005) % 18446744073709551616) + 0) % 18446744073709551616) + 1442695040888963407) % 18446744073709551616) / 1099511627776) % 256), (p + 1), ((((((s * 6364136223846793005) % 18446744073709551616) + 0) % 18446744073709551616) + 1442695040888963407) % 18446744073709551616), _, ⟨by first | omega | exact Nat.mod_lt _ (by decide), ⟨by omega, by omega, Nat.mod_lt _ (by decide)⟩⟩, .inl ⟨_, rfl, .tmp rfl⟩, .int, rfl⟩)

theorem v_Pick (n : Nat) (F : Nat → Nat) (hF : ∀ i, F i < 256) (p s : Nat) (hp : p ≤ 1900000000) (hs : s < 18446744073709551616) (m : Nat) (hm : m ≤ 1000000) : FnC Try.prog 80 n F [.one (.int .i64 (m : Int))] p s (fun (x : Nat) p' s' => (x < m ∨ x = 0) ∧ CurOk p 2 p' s') (fun (x : Nat) => .one (.int .i64 (x : Int))) := by
  refine FnC.of_body (fn := Try.f80) Try.func80 rfl (Nat.le_of_ble_eq_true rfl) ?_
  intro w0 c
  show AW _ 20 _ _ _ _
  refine AW.seq ?_
  refine AW.region ?_
  refine ARun.pure (PureOp.assign rfl .int) rfl rfl (Nat.le_of_ble_eq_true rfl) ?_
  refine ARun.nil ?_
  refine AW.seq ?_
  refine AW.seq ?_
  refine AW.region ?_
  refine ARun.pure (PureOp.move rfl (.tmp rfl)) rfl rfl (Nat.le_of_ble_eq_true rfl) ?_
  refine ARun.pure (PureOp.intOp rfl (.tmp rfl) .int rfl) rfl rfl (Nat.le_of_ble_eq_true rfl) ?_
  refine ARun.nil ?_
  refine AW.cond (.tmp rfl) (fun hb1 => ?_) (fun hb1 => ?_)
  · have _u := True.intro
    replace hb1 := of_decide_eq_true hb1
    refine AW.seq ?_
    refine AW.region ?_
    refine ARun.pure (PureOp.assign rfl .int) rfl rfl (Nat.le_of_ble_eq_true rfl) ?_
    refine ARun.nil ?_
    have _hm : 0 < m → ∀ y : Nat, y % m < m := fun h y => Nat.mod_lt _ h
    exact AW.ret (show ∃ x p' s' t, _ ∧ ResL _ _ [.tmp 4] t ∧ _ ∧ _ from ⟨0, p, s, _, ⟨by first | exact .inr rfl | exact .inl (Nat.mod_lt _ (by omega)), ⟨by omega, by omega, by omega⟩⟩, .inl ⟨_, rfl, .tmp rfl⟩, .int, rfl⟩)
  · have _u := True.intro
    replace hb1 := of_decide_eq_false hb1
    refine AW.skip ?_
    refine AW.seq ?_
    refine AW.region ?_
    refine ARun.pure (PureOp.move rfl (.tmp rfl)) rfl rfl (Nat.le_of_ble_eq_true rfl) ?_
    refine ARun.cur (id := 1000000) rfl (v_Next n F hF p s (by omega) (by omega)) vd1_ca_89 ⟨.inr (.tmp rfl), trivial⟩ rfl rfl rfl (Nat.le_of_ble_eq_true rfl) (fun x2 p3 sd4 hc5 => ?_)
    obtain ⟨hc5x, hc5c⟩ := hc5
    obtain ⟨hc51, hc52, hc53⟩ := hc5c
    refine ARun.pure (PureOp.assign rfl (.tmp rfl)) rfl rfl (Nat.le_of_ble_eq_true rfl) ?_
    refine ARun.nil ?_
    refine AW.seq ?_
    refine AW.seq ?_
    refine AW.region ?_
    refine ARun.pure (PureOp.move rfl (.tmp rfl)) rfl rfl (Nat.le_of_ble_eq_true rfl) ?_
    refine ARun.pure (PureOp.intOp rfl (.tmp rfl) .int rfl) rfl rfl (Nat.le_of_ble_eq_true rfl) ?_
    refine ARun.nil ?_
    refine AW.cond (.tmp rfl) (fun hb6 => ?_) (fun hb6 => ?_)
    · have _u := True.intro
      replace hb6 := of_decide_eq_true hb6
      refine AW.region ?_
      refine ARun.pure (PureOp.move rfl (.tmp rfl)) rfl rfl (Nat.le_of_ble_eq_true rfl) ?_
      refine ARun.pure (PureOp.mul (c := ((x2 * 256 : Nat) : Int)) rfl (.tmp rfl) .int (by rw [wrap_id (by omega) (by omega)]; omega)) rfl rfl (Nat.le_of_ble_eq_true rfl) ?_
      refine ARun.pure (PureOp.move rfl (.tmp rfl)) rfl rfl (Nat.le_of_ble_eq_true rfl) ?_
      refine ARun.cur (id := 1000000) rfl (v_Next n F hF p3 sd4 (by omega) (by omega)) vd1_ca_89 ⟨.inr (.tmp rfl), trivial⟩ rfl rfl rfl (Nat.le_of_ble_eq_true rfl) (fun x7 p8 sd9 hc10 => ?_)
      obtain ⟨hc10x, hc10c⟩ := hc10
      obtain ⟨hc101, hc102, hc103⟩ := hc10c
      refine ARun.pure (PureOp.add (c := ((x2 * 256 + x7 : Nat) : Int)) rfl (.tmp rfl) (.tmp rfl) (by rw [wrap_id (by omega) (by omega)]; omega)) rfl rfl (Nat.le_of_ble_eq_true rfl) ?_
      refine ARun.pure (PureOp.assign rfl (.tmp rfl)) rfl rfl (Nat.le_of_ble_eq_true rfl) ?_
      refine ARun.nil ?_
      refine AW.seq ?_
      refine AW.region ?_
      refine ARun.pure (PureOp.move rfl (.tmp rfl)) rfl rfl (Nat.le_of_ble_eq_true rfl) ?_
      refine ARun.pure (PureOp.move rfl (.tmp rfl)) rfl rfl (Nat.le_of_ble_eq_true rfl) ?_
      refine ARun.pure (PureOp.rem (a := x2 * 256 + x7) (b := m) rfl (.tmp rfl) (.tmp rfl) rfl (by omega) (by omega)) rfl rfl (Nat.le_of_ble_eq_true rfl) ?_
      refine ARun.pure (PureOp.assign rfl (.tmp rfl)) rfl rfl (Nat.le_of_ble_eq_true rfl) ?_
      refine ARun.nil ?_
      have _hm : 0 < m → ∀ y : Nat, y % m < m := fun h y => Nat.mod_lt _ h
      exact AW.ret (show ∃ x p' s' t, _ ∧ ResL _ _ [.tmp 4] t ∧ _ ∧ _ from ⟨((x2 * 256 + x7) % m), p8, sd9, _, ⟨by first | exact .inr rfl | exact .inl (Nat.mod_lt _ (by omega)), ⟨by omega, by omega, by omega⟩⟩, .inl ⟨_, rfl, .tmp rfl⟩, .int, rfl⟩)
    · have _u := True.intro
      replace hb6 := of_decide_eq_false hb6
      refine AW.skip ?_
      refine AW.seq ?_
      refine AW.region ?_
      refine ARun.pure (PureOp.move rfl (.tmp rfl)) rfl rfl (Nat.le_of_ble_eq_true rfl) ?_
      refine ARun.pure (PureOp.move rfl (.tmp rfl)) rfl rfl (Nat.le_of_ble_eq_true rfl) ?_
      refine ARun.pure (PureOp.rem (a := x2) (b := m) rfl (.tmp rfl) (.tmp rfl) rfl (by omega) (by omega)) rfl rfl (Nat.le_of_ble_eq_true rfl) ?_
      refine ARun.pure (PureOp.assign rfl (.tmp rfl)) rfl rfl (Nat.le_of_ble_eq_true rfl) ?_
      refine ARun.nil ?_
      have _hm : 0 < m → ∀ y : Nat, y % m < m := fun h y => Nat.mod_lt _ h
      exact AW.ret (show ∃ x p' s' t, _ ∧ ResL _ _ [.tmp 4] t ∧ _ ∧ _ from ⟨(x2 % m), p3, sd4, _, ⟨by first | exact .inr rfl | exact .inl (Nat.mod_lt _ (by omega)), ⟨by omega, by omega, by omega⟩⟩, .inl ⟨_, rfl, .tmp rfl⟩, .int, rfl⟩)

theorem v_One (n : Nat) (F : Nat → Nat) (hF : ∀ i, F i < 256) (p s : Nat) (hp : p ≤ 1800000000) (hs : s < 18446744073709551616) (m : Nat) (hm : m ≤ 1000000) : FnC Try.prog 82 n F [.one (.int .i64 (m : Int))] p s (fun (x : Bool) p' s' => CurOk p 2 p' s') (fun (x : Bool) => .one (.bool x)) := by
  refine FnC.of_body (fn := Try.f82) Try.func82 rfl (Nat.le_of_ble_eq_true rfl) ?_
  intro w0 c
  show AW _ 9 _ _ _ _
  refine AW.seq ?_
  refine AW.region ?_
  refine ARun.pure (PureOp.assign rfl .bool) rfl rfl (Nat.le_of_ble_eq_true rfl) ?_
  refine ARun.nil ?_
  refine AW.seq ?_
  refine AW.region ?_
  refine ARun.pure (PureOp.move rfl (.tmp rfl)) rfl rfl (Nat.le_of_ble_eq_true rfl) ?_
  refine ARun.pure (PureOp.move rfl (.tmp rfl)) rfl rfl (Nat.le_of_ble_eq_true rfl) ?_
  refine ARun.cur (id := 1000000) rfl (v_Pick n F hF p s (by omega) (by omega) m (by omega)) vd1_ca_80 ⟨.inr (.tmp rfl), .inl ⟨_, (.tmp rfl), .int⟩, trivial⟩ rfl rfl rfl (Nat.le_of_ble_eq_true rfl) (fun x1 p2 sd3 hc4 => ?_)
  obtain ⟨hc4x, hc4c⟩ := hc4
  obtain ⟨hc41, hc42, hc43⟩ := hc4c
  refine ARun.pure (PureOp.intOp rfl (.tmp rfl) .int rfl) rfl rfl (Nat.le_of_ble_eq_true rfl) ?_
  refine ARun.pure (PureOp.assign rfl (.tmp rfl)) rfl rfl (Nat.le_of_ble_eq_true rfl) ?_
  refine ARun.nil ?_
  exact AW.ret (show ∃ x p' s' t, _ ∧ ResL _ _ [.tmp 4] t ∧ _ ∧ _ from ⟨(decide ((x1 : Int) = 0)), p2, sd3, _, ⟨by omega, by omega, by omega⟩, .inl ⟨_, rfl, .tmp rfl⟩, .bool, rfl⟩)

theorem v_Of (n : Nat) (F : Nat → Nat) (hF : ∀ i, F i < 256) (p s : Nat) (hp : p ≤ 1800000000) (hs : s < 18446744073709551616) (l : List ByteArray) (hl : 1 ≤ l.length ∧ l.length ≤ 1000) : FnC Try.prog 83 n F [.one (.lst 1 l.length (fun i0 _ => .str (l.getD i0 ByteArray.empty)))] p s (fun (x : ByteArray) p' s' => x ∈ l ∧ CurOk p 2 p' s') (fun (x : ByteArray) => .one (.str x)) := by
  refine FnC.of_body (fn := Try.f83) Try.func83 rfl (Nat.le_of_ble_eq_true rfl) ?_
  intro w0 c
  show AW _ 12 _ _ _ _
  refine AW.seq ?_
  refine AW.region ?_
  refine ARun.pure (PureOp.assign rfl (.str (by decide))) rfl rfl (Nat.le_of_ble_eq_true rfl) ?_
  refine ARun.nil ?_
  refine AW.seq ?_
  refine AW.region ?_
  refine ARun.pure (PureOp.move rfl (.tmp rfl)) rfl rfl (Nat.le_of_ble_eq_true rfl) ?_
  refine ARun.pure (PureOp.move rfl (.tmp rfl)) rfl rfl (Nat.le_of_ble_eq_true rfl) ?_
  refine ARun.pure (PureOp.move rfl (.tmp rfl)) rfl rfl (Nat.le_of_ble_eq_true rfl) ?_
  refine ARun.pure (PureOp.lenLst rfl (.tmp rfl) vd1_sl_117) rfl rfl (Nat.le_of_ble_eq_true rfl) ?_
  refine ARun.cur (id := 1000000) rfl (v_Pick n F hF p s (by omega) (by omega) l.length (by omega)) vd1_ca_80 ⟨.inr (.tmp rfl), .inl ⟨_, (.tmp rfl), .int⟩, trivial⟩ rfl rfl rfl (Nat.le_of_ble_eq_true rfl) (fun x1 p2 sd3 hc4 => ?_)
  obtain ⟨hc4x, hc4c⟩ := hc4
  obtain ⟨hc41, hc42, hc43⟩ := hc4c
  refine ARun.pure (PureOp.indexLst (i := x1) rfl (.tmp rfl) vd1_el_117_1 (.tmp rfl) rfl (by rcases hc4x with hx | hx <;> omega)) rfl rfl (Nat.le_of_ble_eq_true rfl) ?_
  refine ARun.pure (PureOp.loadRef rfl (.tmp rfl) vd1_pl_9 (Nat.le_of_ble_eq_true rfl)) rfl rfl (Nat.le_of_ble_eq_true rfl) ?_
  refine ARun.pure (PureOp.assign rfl (.tmp rfl)) rfl rfl (Nat.le_of_ble_eq_true rfl) ?_
  refine ARun.nil ?_
  have hlt : x1 < l.length := by rcases hc4x with hx | hx <;> omega
  exact AW.ret (show ∃ x p' s' t, _ ∧ ResL _ _ [.tmp 4] t ∧ _ ∧ _ from ⟨(l.getD x1 ByteArray.empty), p2, sd3, _, ⟨by rw [List.getD_eq_getElem?_getD, List.getElem?_eq_getElem hlt]; exact List.getElem_mem _, ⟨by omega, by omega, by omega⟩⟩, .inl ⟨_, rfl, .tmp rfl⟩, .str, rfl⟩)

theorem v_Among (n : Nat) (F : Nat → Nat) (hF : ∀ i, F i < 256) (p s : Nat) (hp : p ≤ 1800000000) (hs : s < 18446744073709551616) (l : List Int) (hl : 1 ≤ l.length ∧ l.length ≤ 1000) : FnC Try.prog 81 n F [.one (.lst 1 l.length (fun i0 _ => .int .i64 (l.getD i0 0)))] p s (fun (x : Int) p' s' => x ∈ l ∧ CurOk p 2 p' s') (fun (x : Int) => .one (.int .i64 x)) := by
  refine FnC.of_body (fn := Try.f81) Try.func81 rfl (Nat.le_of_ble_eq_true rfl) ?_
  intro w0 c
  show AW _ 12 _ _ _ _
  refine AW.seq ?_
  refine AW.region ?_
  refine ARun.pure (PureOp.assign rfl .int) rfl rfl (Nat.le_of_ble_eq_true rfl) ?_
  refine ARun.nil ?_
  refine AW.seq ?_
  refine AW.region ?_
  refine ARun.pure (PureOp.move rfl (.tmp rfl)) rfl rfl (Nat.le_of_ble_eq_true rfl) ?_
  refine ARun.pure (PureOp.move rfl (.tmp rfl)) rfl rfl (Nat.le_of_ble_eq_true rfl) ?_
  refine ARun.pure (PureOp.move rfl (.tmp rfl)) rfl rfl (Nat.le_of_ble_eq_true rfl) ?_
  refine ARun.pure (PureOp.lenLst rfl (.tmp rfl) vd1_sl_52) rfl rfl (Nat.le_of_ble_eq_true rfl) ?_
  refine ARun.cur (id := 1000000) rfl (v_Pick n F hF p s (by omega) (by omega) l.length (by omega)) vd1_ca_80 ⟨.inr (.tmp rfl), .inl ⟨_, (.tmp rfl), .int⟩, trivial⟩ rfl rfl rfl (Nat.le_of_ble_eq_true rfl) (fun x1 p2 sd3 hc4 => ?_)
  obtain ⟨hc4x, hc4c⟩ := hc4
  obtain ⟨hc41, hc42, hc43⟩ := hc4c
  refine ARun.pure (PureOp.indexLst (i := x1) rfl (.tmp rfl) vd1_el_52_1 (.tmp rfl) rfl (by rcases hc4x with hx | hx <;> omega)) rfl rfl (Nat.le_of_ble_eq_true rfl) ?_
  refine ARun.pure (PureOp.loadRef rfl (.tmp rfl) vd1_pl_3 (Nat.le_of_ble_eq_true rfl)) rfl rfl (Nat.le_of_ble_eq_true rfl) ?_
  refine ARun.pure (PureOp.assign rfl (.tmp rfl)) rfl rfl (Nat.le_of_ble_eq_true rfl) ?_
  refine ARun.nil ?_
  have hlt : x1 < l.length := by rcases hc4x with hx | hx <;> omega
  exact AW.ret (show ∃ x p' s' t, _ ∧ ResL _ _ [.tmp 4] t ∧ _ ∧ _ from ⟨(l.getD x1 0), p2, sd3, _, ⟨by rw [List.getD_eq_getElem?_getD, List.getElem?_eq_getElem hlt]; exact List.getElem_mem _, ⟨by omega, by omega, by omega⟩⟩, .inl ⟨_, rfl, .tmp rfl⟩, .int, rfl⟩)
end Go.Proofs.Ytmfkmifkkplidaa


/-
  Small functions: ranges and words.
-/
namespace Go.Proofs.Ytmfkmifkkplidaa
open Go.ChangeShapes Go.WideShapes Go.ChangeAt Go.RowKit Go.BigFrame Go.Deep
set_option linter.unusedVariables false
set_option linter.unusedSimpArgs false
theorem vb_ca_44 : callB Try.prog 44 = true := by kernel_rfl
theorem vb_ca_72 : callB Try.prog 72 = true := by kernel_rfl
theorem vb_st_9 : stringB Try.prog 9 = true := by kernel_rfl
theorem v_l1In (n lo hi : Int) : Fn Try.prog 44 [.one (.int .i64 n), .one (.int .i64 lo), .one (.int .i64 hi)] (.one (.bool (inB lo hi n))) := by
  refine Fn.of_body (fn := Try.f44) Try.func44 rfl (Nat.le_of_ble_eq_true rfl) trivial ?_
  intro w0
  show AW _ 15 _ _ _ _
  refine AW.seq ?_
  refine AW.region ?_
  refine ARun.pure (PureOp.assign rfl .bool) rfl rfl (Nat.le_of_ble_eq_true rfl) ?_
  refine ARun.nil ?_
  refine AW.seq ?_
  refine AW.region ?_
  refine ARun.pure (PureOp.move rfl (.tmp rfl)) rfl rfl (Nat.le_of_ble_eq_true rfl) ?_
  refine ARun.pure (PureOp.move rfl (.tmp rfl)) rfl rfl (Nat.le_of_ble_eq_true rfl) ?_
  refine ARun.pure (PureOp.intOp rfl (.tmp rfl) (.tmp rfl) rfl) rfl rfl (Nat.le_of_ble_eq_true rfl) ?_
  refine ARun.pure (PureOp.move rfl (.tmp rfl)) rfl rfl (Nat.le_of_ble_eq_true rfl) ?_
  refine ARun.gpure (want := true) (.tt rfl) (fun hg1 => PureOp.move rfl (.tmp rfl)) rfl rfl (Nat.le_of_ble_eq_true rfl) rfl (Nat.le_of_ble_eq_true rfl) ?_
  refine ARun.gpure (want := true) (.tt rfl) (fun hg2 => PureOp.move rfl (.tmp rfl)) rfl rfl (Nat.le_of_ble_eq_true rfl) rfl (Nat.le_of_ble_eq_true rfl) ?_
  refine ARun.gpure (want := true) (.tt rfl) (fun hg3 => PureOp.intOp rfl (.gtmp rfl hg3) (.gtmp rfl hg3) rfl) rfl rfl (Nat.le_of_ble_eq_true rfl) rfl (Nat.le_of_ble_eq_true rfl) ?_
  refine ARun.pure (PureOp.pick rfl (.tmp rfl) (fun hp4 => .gtmp rfl hp4) (fun _ => .bool)) rfl rfl (Nat.le_of_ble_eq_true rfl) ?_
  refine ARun.pure (PureOp.assign rfl (.tmp rfl)) rfl rfl (Nat.le_of_ble_eq_true rfl) ?_
  refine ARun.nil ?_
  refine AW.ret (show ResL _ _ [.tmp 6] _ from resB rfl ?_)
  exact inB_cond _ _ _

theorem v_within (n lo hi : Int) : Fn Try.prog 72 [.one (.int .i64 n), .one (.int .i64 lo), .one (.int .i64 hi)] (.one (.bool (inB lo hi n))) := by
  refine Fn.of_body (fn := Try.f72) Try.func72 rfl (Nat.le_of_ble_eq_true rfl) trivial ?_
  intro w0
  show AW _ 15 _ _ _ _
  refine AW.seq ?_
  refine AW.region ?_
  refine ARun.pure (PureOp.assign rfl .bool) rfl rfl (Nat.le_of_ble_eq_true rfl) ?_
  refine ARun.nil ?_
  refine AW.seq ?_
  refine AW.region ?_
  refine ARun.pure (PureOp.move rfl (.tmp rfl)) rfl rfl (Nat.le_of_ble_eq_true rfl) ?_
  refine ARun.pure (PureOp.move rfl (.tmp rfl)) rfl rfl (Nat.le_of_ble_eq_true rfl) ?_
  refine ARun.pure (PureOp.intOp rfl (.tmp rfl) (.tmp rfl) rfl) rfl rfl (Nat.le_of_ble_eq_true rfl) ?_
  refine ARun.pure (PureOp.move rfl (.tmp rfl)) rfl rfl (Nat.le_of_ble_eq_true rfl) ?_
  refine ARun.gpure (want := true) (.tt rfl) (fun hg1 => PureOp.move rfl (.tmp rfl)) rfl rfl (Nat.le_of_ble_eq_true rfl) rfl (Nat.le_of_ble_eq_true rfl) ?_
  refine ARun.gpure (want := true) (.tt rfl) (fun hg2 => PureOp.move rfl (.tmp rfl)) rfl rfl (Nat.le_of_ble_eq_true rfl) rfl (Nat.le_of_ble_eq_true rfl) ?_
  refine ARun.gpure (want := true) (.tt rfl) (fun hg3 => PureOp.intOp rfl (.gtmp rfl hg3) (.gtmp rfl hg3) rfl) rfl rfl (Nat.le_of_ble_eq_true rfl) rfl (Nat.le_of_ble_eq_true rfl) ?_
  refine ARun.pure (PureOp.pick rfl (.tmp rfl) (fun hp4 => .gtmp rfl hp4) (fun _ => .bool)) rfl rfl (Nat.le_of_ble_eq_true rfl) ?_
  refine ARun.pure (PureOp.assign rfl (.tmp rfl)) rfl rfl (Nat.le_of_ble_eq_true rfl) ?_
  refine ARun.nil ?_
  refine AW.ret (show ResL _ _ [.tmp 6] _ from resB rfl ?_)
  exact inB_cond _ _ _

def chBad (s : ByteArray) (d : Bool) (k : Nat) : Bool :=
  !(cond (cond (decide (97 ≤ byteAt s k)) (decide (byteAt s k ≤ 122)) false) true (cond (cond d (decide (48 ≤ byteAt s k)) false) (decide (byteAt s k ≤ 57)) false))
def nameB (s : ByteArray) (d : Bool) : Bool := (List.range s.size).all (fun j => !chBad s d j) && inB 1 8 (s.size : Int)
theorem v_l3Name (s : ByteArray) (d : Bool) : Fn Try.prog 42 [.one (.str s), .one (.bool d)] (.one (.bool (nameB s d))) := by
  refine Fn.of_body (fn := Try.f42) Try.func42 rfl (Nat.le_of_ble_eq_true rfl) trivial ?_
  intro w0
  show AW _ 41 _ _ _ _
  refine AW.boundS (t := 0) rfl fun hx => ?_
  refine AW.seq ?_
  refine AW.region ?_
  refine ARun.pure (PureOp.assign rfl .bool) rfl rfl (Nat.le_of_ble_eq_true rfl) ?_
  refine ARun.nil ?_
  refine AW.seq ?_
  refine AW.seq ?_
  refine AW.region ?_
  refine ARun.pure (PureOp.assign rfl .int) rfl rfl (Nat.le_of_ble_eq_true rfl) ?_
  refine ARun.nil ?_
  refine AW.block ?_
  refine AW.loop (ι := Nat) (fun k => ⟨[(0, .one (.str s)), (1, .one (.bool d)), (5, .one (.int .i64 (k : Int)))], []⟩) (fun k => k ≤ s.size ∧ ∀ j, j < k → chBad s d j = false) (fun k => s.size - k) 0 ⟨Nat.zero_le _, fun j hj => absurd hj (by omega)⟩ ⟨⟨⟨_, rfl, rfl⟩, ⟨_, rfl, rfl⟩, ⟨_, rfl, rfl⟩, trivial⟩, trivial⟩ ?_
  intro k hI
  obtain ⟨hk, hks⟩ := hI
  refine AW.seq ?_
  refine AW.seq ?_
  refine AW.region ?_
  refine ARun.pure (PureOp.move rfl (.tmp rfl)) rfl rfl (Nat.le_of_ble_eq_true rfl) ?_
  refine ARun.pure (PureOp.move rfl (.tmp rfl)) rfl rfl (Nat.le_of_ble_eq_true rfl) ?_
  refine ARun.pure (PureOp.lenStr rfl (.tmp rfl) vb_st_9) rfl rfl (Nat.le_of_ble_eq_true rfl) ?_
  refine ARun.pure (PureOp.intOp rfl (.tmp rfl) (.tmp rfl) rfl) rfl rfl (Nat.le_of_ble_eq_true rfl) ?_
  refine ARun.nil ?_
  refine AW.cond (.tmp rfl) (fun hb1 => ?_) (fun hb1 => ?_)
  · have _u := True.intro
    replace hb1 := of_decide_eq_true hb1
    have hkl : k < s.size := by omega
    refine AW.skip ?_
    refine AW.seq ?_
    refine AW.block ?_
    refine AW.seq ?_
    refine AW.region ?_
    refine ARun.pure (PureOp.move rfl (.tmp rfl)) rfl rfl (Nat.le_of_ble_eq_true rfl) ?_
    refine ARun.pure (PureOp.move rfl (.tmp rfl)) rfl rfl (Nat.le_of_ble_eq_true rfl) ?_
    refine ARun.pure (PureOp.indexStrAt (i := k) rfl (.tmp rfl) vb_st_9 (.tmp rfl) rfl (by omega)) rfl rfl (Nat.le_of_ble_eq_true rfl) ?_
    refine ARun.pure (PureOp.intOp rfl (.tmp rfl) .int rfl) rfl rfl (Nat.le_of_ble_eq_true rfl) ?_
    refine ARun.pure (PureOp.move rfl (.tmp rfl)) rfl rfl (Nat.le_of_ble_eq_true rfl) ?_
    refine ARun.gpure (want := true) (.tt rfl) (fun hg2 => PureOp.move rfl (.tmp rfl)) rfl rfl (Nat.le_of_ble_eq_true rfl) rfl (Nat.le_of_ble_eq_true rfl) ?_
    refine ARun.gpure (want := true) (.tt rfl) (fun hg3 => PureOp.move rfl (.tmp rfl)) rfl rfl (Nat.le_of_ble_eq_true rfl) rfl (Nat.le_of_ble_eq_true rfl) ?_
    refine ARun.gpure (want := true) (.tt rfl) (fun hg4 => PureOp.indexStrAt (i := k) rfl (.gtmp rfl hg4) vb_st_9 (.gtmp rfl hg4) rfl (by have q := hg4; simp only [Bool.cond_true_left, Bool.cond_false_right, Bool.not_eq_true', Bool.or_eq_false_iff, Bool.not_eq_false', Bool.and_eq_true, Bool.not_not, decide_eq_true_eq, decide_eq_false_iff_not, inB] at q; omega)) rfl rfl (Nat.le_of_ble_eq_true rfl) rfl (Nat.le_of_ble_eq_true rfl) ?_
    refine ARun.gpure (want := true) (.tt rfl) (fun hg5 => PureOp.intOp rfl (.gtmp rfl hg5) .int rfl) rfl rfl (Nat.le_of_ble_eq_true rfl) rfl (Nat.le_of_ble_eq_true rfl) ?_
    refine ARun.pure (PureOp.pick rfl (.tmp rfl) (fun hp6 => .gtmp rfl hp6) (fun _ => .bool)) rfl rfl (Nat.le_of_ble_eq_true rfl) ?_
    refine ARun.pure (PureOp.move rfl (.tmp rfl)) rfl rfl (Nat.le_of_ble_eq_true rfl) ?_
    refine ARun.gpure (want := false) (.tf rfl) (fun hg8 => PureOp.move rfl (.tmp rfl)) rfl rfl (Nat.le_of_ble_eq_true rfl) rfl (Nat.le_of_ble_eq_true rfl) ?_
    refine ARun.gpure (want := false) (.tf rfl) (fun hg9 => PureOp.move rfl (.gtmp rfl hg9)) rfl rfl (Nat.le_of_ble_eq_true rfl) rfl (Nat.le_of_ble_eq_true rfl) ?_
    refine ARun.gpure (want := true) (.gt rfl) (fun hg10 => PureOp.move rfl (.tmp rfl)) rfl rfl (Nat.le_of_ble_eq_true rfl) rfl (Nat.le_of_ble_eq_true rfl) ?_
    refine ARun.gpure (want := true) (.gt rfl) (fun hg11 => PureOp.move rfl (.tmp rfl)) rfl rfl (Nat.le_of_ble_eq_true rfl) rfl (Nat.le_of_ble_eq_true rfl) ?_
    refine ARun.gpure (want := true) (.gt rfl) (fun hg12 => PureOp.indexStrAt (i := k) rfl (.gtmp rfl hg12) vb_st_9 (.gtmp rfl hg12) rfl (by have q := hg12; simp only [Bool.cond_true_left, Bool.cond_false_right, Bool.not_eq_true', Bool.or_eq_false_iff, Bool.not_eq_false', Bool.and_eq_true, Bool.not_not, decide_eq_true_eq, decide_eq_false_iff_not, inB] at q; omega)) rfl rfl (Nat.le_of_ble_eq_true rfl) rfl (Nat.le_of_ble_eq_true rfl) ?_
    refine ARun.gpure (want := true) (.gt rfl) (fun hg13 => PureOp.intOp rfl (.gtmp rfl hg13) .int rfl) rfl rfl (Nat.le_of_ble_eq_true rfl) rfl (Nat.le_of_ble_eq_true rfl) ?_
    refine ARun.gpure (want := false) (.tf rfl) (fun hg14 => PureOp.pick rfl (.gtmp rfl hg14) (fun hp15 => .gtmp rfl (and_mk hg14 hp15)) (fun _ => .bool)) rfl rfl (Nat.le_of_ble_eq_true rfl) rfl (Nat.le_of_ble_eq_true rfl) ?_
    refine ARun.gpure (want := false) (.tf rfl) (fun hg17 => PureOp.move rfl (.gtmp rfl hg17)) rfl rfl (Nat.le_of_ble_eq_true rfl) rfl (Nat.le_of_ble_eq_true rfl) ?_
    refine ARun.gpure (want := true) (.gt rfl) (fun hg18 => PureOp.move rfl (.tmp rfl)) rfl rfl (Nat.le_of_ble_eq_true rfl) rfl (Nat.le_of_ble_eq_true rfl) ?_
    refine ARun.gpure (want := true) (.gt rfl) (fun hg19 => PureOp.move rfl (.tmp rfl)) rfl rfl (Nat.le_of_ble_eq_true rfl) rfl (Nat.le_of_ble_eq_true rfl) ?_
    refine ARun.gpure (want := true) (.gt rfl) (fun hg20 => PureOp.indexStrAt (i := k) rfl (.gtmp rfl hg20) vb_st_9 (.gtmp rfl hg20) rfl (by have q := hg20; simp only [Bool.cond_true_left, Bool.cond_false_right, Bool.not_eq_true', Bool.or_eq_false_iff, Bool.not_eq_false', Bool.and_eq_true, Bool.not_not, decide_eq_true_eq, decide_eq_false_iff_not, inB] at q; omega)) rfl rfl (Nat.le_of_ble_eq_true rfl) rfl (Nat.le_of_ble_eq_true rfl) ?_
    refine ARun.gpure (want := true) (.gt rfl) (fun hg21 => PureOp.intOp rfl (.gtmp rfl hg21) .int rfl) rfl rfl (Nat.le_of_ble_eq_true rfl) rfl (Nat.le_of_ble_eq_true rfl) ?_
    refine ARun.gpure (want := false) (.tf rfl) (fun hg22 => PureOp.pick rfl (.gtmp rfl hg22) (fun hp23 => .gtmp rfl (and_mk hg22 hp23)) (fun _ => .bool)) rfl rfl (Nat.le_of_ble_eq_true rfl) rfl (Nat.le_of_ble_eq_true rfl) ?_
    refine ARun.pure (PureOp.pick rfl (.tmp rfl) (fun _ => .bool) (fun hp26 => .gtmp rfl (not_of hp26))) rfl rfl (Nat.le_of_ble_eq_true rfl) ?_
    refine ARun.pure (PureOp.not rfl (.tmp rfl)) rfl rfl (Nat.le_of_ble_eq_true rfl) ?_
    refine ARun.nil ?_
    refine AW.cond (.tmp rfl) (fun hb27 => ?_) (fun hb27 => ?_)
    · have _u := True.intro
      have hbd : chBad s d k = true := hb27
      refine AW.seq ?_
      refine AW.region ?_
      refine ARun.pure (PureOp.assign rfl .bool) rfl rfl (Nat.le_of_ble_eq_true rfl) ?_
      refine ARun.nil ?_
      refine AW.ret (show ResL _ _ [.tmp 4] _ from resB rfl ?_)
      have hno : (List.range s.size).all (fun j => !chBad s d j) = false := rng_no hkl (by rw [hbd]; rfl)
      unfold nameB; rw [hno]; rfl
    · have _u := True.intro
      have hbd : chBad s d k = false := hb27
      refine AW.skip ?_
      refine AW.region ?_
      refine ARun.pure (PureOp.move rfl (.tmp rfl)) rfl rfl (Nat.le_of_ble_eq_true rfl) ?_
      refine ARun.pure (PureOp.add (c := ((k + 1 : Nat) : Int)) rfl (.tmp rfl) .int (by rw [wrap_id (by omega) (by omega)]; omega)) rfl rfl (Nat.le_of_ble_eq_true rfl) ?_
      refine ARun.pure (PureOp.assign rfl (.tmp rfl)) rfl rfl (Nat.le_of_ble_eq_true rfl) ?_
      refine ARun.nil ?_
      exact ⟨k + 1, ⟨by omega, rng_succ (p := fun j => chBad s d j = false) hks hbd⟩, by dsimp only; omega, ⟨⟨⟨_, rfl, rfl⟩, ⟨_, rfl, rfl⟩, ⟨_, rfl, rfl⟩, trivial⟩, trivial⟩⟩
  · have _u := True.intro
    replace hb1 := of_decide_eq_false hb1
    have hkl : ¬ k < s.size := by omega
    have hall : (List.range s.size).all (fun j => !chBad s d j) = true := rng_yes (fun j hj => by rw [hks j (by omega)]; rfl)
    refine AW.exit ?_
    refine AW.seq ?_
    refine AW.region ?_
    refine ARun.pure (PureOp.move rfl (.tmp rfl)) rfl rfl (Nat.le_of_ble_eq_true rfl) ?_
    refine ARun.pure (PureOp.lenStr rfl (.tmp rfl) vb_st_9) rfl rfl (Nat.le_of_ble_eq_true rfl) ?_
    refine ARun.pure (PureOp.call rfl (v_l1In (s.size : Int) 1 8) ⟨⟨_, (.tmp rfl), .int⟩, ⟨_, .int, .int⟩, ⟨_, .int, .int⟩, trivial⟩ vb_ca_44 trivial) rfl rfl (Nat.le_of_ble_eq_true rfl) ?_
    refine ARun.pure (PureOp.assign rfl (.tmp rfl)) rfl rfl (Nat.le_of_ble_eq_true rfl) ?_
    refine ARun.nil ?_
    refine AW.ret (show ResL _ _ [.tmp 4] _ from resB rfl ?_)
    unfold nameB; rw [hall]; rfl

def chBadI (s : ByteArray) (d : Bool) (k : Nat) : Bool :=
  cond (cond (decide (byteAt s k < 97)) true (decide (122 < byteAt s k))) (cond (cond (!d) true (decide (byteAt s k < 48))) true (decide (57 < byteAt s k))) false
theorem chBad_eq (s : ByteArray) (d : Bool) (k : Nat) : chBad s d k = chBadI s d k := by
      unfold chBad chBadI
      have u (a b : Int) : decide (a < b) = !decide (b ≤ a) := by rw [← decide_not]; exact decide_eq_decide.2 (by omega)
      simp only [u]
      generalize decide ((97 : Int) ≤ _) = a1
      generalize decide (_ ≤ (122 : Int)) = a2
      generalize decide ((48 : Int) ≤ _) = a3
      generalize decide (_ ≤ (57 : Int)) = a4
      revert a1 a2 a3 a4 d; decide
theorem v_isWord (s : ByteArray) (d : Bool) : Fn Try.prog 70 [.one (.str s), .one (.bool d)] (.one (.bool (nameB s d))) := by
  refine Fn.of_body (fn := Try.f70) Try.func70 rfl (Nat.le_of_ble_eq_true rfl) trivial ?_
  intro w0
  show AW _ 41 _ _ _ _
  refine AW.boundS (t := 0) rfl fun hx => ?_
  refine AW.seq ?_
  refine AW.region ?_
  refine ARun.pure (PureOp.assign rfl .bool) rfl rfl (Nat.le_of_ble_eq_true rfl) ?_
  refine ARun.nil ?_
  refine AW.seq ?_
  refine AW.seq ?_
  refine AW.region ?_
  refine ARun.pure (PureOp.move rfl (.tmp rfl)) rfl rfl (Nat.le_of_ble_eq_true rfl) ?_
  refine ARun.pure (PureOp.lenStr rfl (.tmp rfl) vb_st_9) rfl rfl (Nat.le_of_ble_eq_true rfl) ?_
  refine ARun.pure (PureOp.move rfl .int) rfl rfl (Nat.le_of_ble_eq_true rfl) ?_
  refine ARun.nil ?_
  refine AW.block ?_
  refine AW.loop (ι := Nat) (fun k => ⟨[(0, .one (.str s)), (1, .one (.bool d)), (7, .one (.int .i64 (s.size : Int))), (8, .one (.int .i64 (k : Int)))], []⟩) (fun k => k ≤ s.size ∧ ∀ j, j < k → chBad s d j = false) (fun k => s.size - k) 0 ⟨Nat.zero_le _, fun j hj => absurd hj (by omega)⟩ ⟨⟨⟨_, rfl, rfl⟩, ⟨_, rfl, rfl⟩, ⟨_, rfl, rfl⟩, ⟨_, rfl, rfl⟩, trivial⟩, trivial⟩ ?_
  intro k hI
  obtain ⟨hk, hks⟩ := hI
  refine AW.seq ?_
  refine AW.region ?_
  refine ARun.pure (PureOp.intOp rfl (.tmp rfl) (.tmp rfl) rfl) rfl rfl (Nat.le_of_ble_eq_true rfl) ?_
  refine ARun.nil ?_
  refine AW.seq ?_
  refine AW.cond (.tmp rfl) (fun hb1 => ?_) (fun hb1 => ?_)
  · have _u := True.intro
    replace hb1 := of_decide_eq_true hb1
    have hkl : k < s.size := by omega
    refine AW.skip ?_
    refine AW.seq ?_
    refine AW.block ?_
    refine AW.seq ?_
    refine AW.region ?_
    refine ARun.pure (PureOp.move rfl (.tmp rfl)) rfl rfl (Nat.le_of_ble_eq_true rfl) ?_
    refine ARun.pure (PureOp.assign rfl (.tmp rfl)) rfl rfl (Nat.le_of_ble_eq_true rfl) ?_
    refine ARun.nil ?_
    refine AW.seq ?_
    refine AW.region ?_
    refine ARun.pure (PureOp.move rfl (.tmp rfl)) rfl rfl (Nat.le_of_ble_eq_true rfl) ?_
    refine ARun.pure (PureOp.move rfl (.tmp rfl)) rfl rfl (Nat.le_of_ble_eq_true rfl) ?_
    refine ARun.pure (PureOp.indexStrAt (i := k) rfl (.tmp rfl) vb_st_9 (.tmp rfl) rfl (by omega)) rfl rfl (Nat.le_of_ble_eq_true rfl) ?_
    refine ARun.pure (PureOp.intOp rfl (.tmp rfl) .int rfl) rfl rfl (Nat.le_of_ble_eq_true rfl) ?_
    refine ARun.pure (PureOp.move rfl (.tmp rfl)) rfl rfl (Nat.le_of_ble_eq_true rfl) ?_
    refine ARun.gpure (want := false) (.tf rfl) (fun hg2 => PureOp.move rfl (.tmp rfl)) rfl rfl (Nat.le_of_ble_eq_true rfl) rfl (Nat.le_of_ble_eq_true rfl) ?_
    refine ARun.gpure (want := false) (.tf rfl) (fun hg3 => PureOp.move rfl (.tmp rfl)) rfl rfl (Nat.le_of_ble_eq_true rfl) rfl (Nat.le_of_ble_eq_true rfl) ?_
    refine ARun.gpure (want := false) (.tf rfl) (fun hg4 => PureOp.indexStrAt (i := k) rfl (.gtmp rfl hg4) vb_st_9 (.gtmp rfl hg4) rfl (by have q := hg4; simp only [Bool.cond_true_left, Bool.cond_false_right, Bool.not_eq_true', Bool.or_eq_false_iff, Bool.not_eq_false', Bool.and_eq_true, Bool.not_not, decide_eq_true_eq, decide_eq_false_iff_not, inB] at q; omega)) rfl rfl (Nat.le_of_ble_eq_true rfl) rfl (Nat.le_of_ble_eq_true rfl) ?_
    refine ARun.gpure (want := false) (.tf rfl) (fun hg5 => PureOp.intOp rfl (.gtmp rfl hg5) .int rfl) rfl rfl (Nat.le_of_ble_eq_true rfl) rfl (Nat.le_of_ble_eq_true rfl) ?_
    refine ARun.pure (PureOp.pick rfl (.tmp rfl) (fun _ => .bool) (fun hp7 => .gtmp rfl (not_of hp7))) rfl rfl (Nat.le_of_ble_eq_true rfl) ?_
    refine ARun.pure (PureOp.move rfl (.tmp rfl)) rfl rfl (Nat.le_of_ble_eq_true rfl) ?_
    refine ARun.gpure (want := true) (.tt rfl) (fun hg8 => PureOp.move rfl (.tmp rfl)) rfl rfl (Nat.le_of_ble_eq_true rfl) rfl (Nat.le_of_ble_eq_true rfl) ?_
    refine ARun.gpure (want := true) (.tt rfl) (fun hg9 => PureOp.not rfl (.gtmp rfl hg9)) rfl rfl (Nat.le_of_ble_eq_true rfl) rfl (Nat.le_of_ble_eq_true rfl) ?_
    refine ARun.gpure (want := true) (.tt rfl) (fun hg10 => PureOp.move rfl (.gtmp rfl hg10)) rfl rfl (Nat.le_of_ble_eq_true rfl) rfl (Nat.le_of_ble_eq_true rfl) ?_
    refine ARun.gpure (want := false) (.gf rfl) (fun hg11 => PureOp.move rfl (.tmp rfl)) rfl rfl (Nat.le_of_ble_eq_true rfl) rfl (Nat.le_of_ble_eq_true rfl) ?_
    refine ARun.gpure (want := false) (.gf rfl) (fun hg12 => PureOp.move rfl (.tmp rfl)) rfl rfl (Nat.le_of_ble_eq_true rfl) rfl (Nat.le_of_ble_eq_true rfl) ?_
    refine ARun.gpure (want := false) (.gf rfl) (fun hg13 => PureOp.indexStrAt (i := k) rfl (.gtmp rfl hg13) vb_st_9 (.gtmp rfl hg13) rfl (by have q := hg13; simp only [Bool.cond_true_left, Bool.cond_false_right, Bool.not_eq_true', Bool.or_eq_false_iff, Bool.not_eq_false', Bool.and_eq_true, Bool.not_not, decide_eq_true_eq, decide_eq_false_iff_not, inB] at q; omega)) rfl rfl (Nat.le_of_ble_eq_true rfl) rfl (Nat.le_of_ble_eq_true rfl) ?_
    refine ARun.gpure (want := false) (.gf rfl) (fun hg14 => PureOp.intOp rfl (.gtmp rfl hg14) .int rfl) rfl rfl (Nat.le_of_ble_eq_true rfl) rfl (Nat.le_of_ble_eq_true rfl) ?_
    refine ARun.gpure (want := true) (.tt rfl) (fun hg15 => PureOp.pick rfl (.gtmp rfl hg15) (fun _ => .bool) (fun hp17 => .gtmp rfl (and_mk hg15 (not_of hp17)))) rfl rfl (Nat.le_of_ble_eq_true rfl) rfl (Nat.le_of_ble_eq_true rfl) ?_
    refine ARun.gpure (want := true) (.tt rfl) (fun hg18 => PureOp.move rfl (.gtmp rfl hg18)) rfl rfl (Nat.le_of_ble_eq_true rfl) rfl (Nat.le_of_ble_eq_true rfl) ?_
    refine ARun.gpure (want := false) (.gf rfl) (fun hg19 => PureOp.move rfl (.tmp rfl)) rfl rfl (Nat.le_of_ble_eq_true rfl) rfl (Nat.le_of_ble_eq_true rfl) ?_
    refine ARun.gpure (want := false) (.gf rfl) (fun hg20 => PureOp.move rfl (.tmp rfl)) rfl rfl (Nat.le_of_ble_eq_true rfl) rfl (Nat.le_of_ble_eq_true rfl) ?_
    refine ARun.gpure (want := false) (.gf rfl) (fun hg21 => PureOp.indexStrAt (i := k) rfl (.gtmp rfl hg21) vb_st_9 (.gtmp rfl hg21) rfl (by have q := hg21; simp only [Bool.cond_true_left, Bool.cond_false_right, Bool.not_eq_true', Bool.or_eq_false_iff, Bool.not_eq_false', Bool.and_eq_true, Bool.not_not, decide_eq_true_eq, decide_eq_false_iff_not, inB] at q; omega)) rfl rfl (Nat.le_of_ble_eq_true rfl) rfl (Nat.le_of_ble_eq_true rfl) ?_
    refine ARun.gpure (want := false) (.gf rfl) (fun hg22 => PureOp.intOp rfl (.gtmp rfl hg22) .int rfl) rfl rfl (Nat.le_of_ble_eq_true rfl) rfl (Nat.le_of_ble_eq_true rfl) ?_
    refine ARun.gpure (want := true) (.tt rfl) (fun hg23 => PureOp.pick rfl (.gtmp rfl hg23) (fun _ => .bool) (fun hp25 => .gtmp rfl (and_mk hg23 (not_of hp25)))) rfl rfl (Nat.le_of_ble_eq_true rfl) rfl (Nat.le_of_ble_eq_true rfl) ?_
    refine ARun.pure (PureOp.pick rfl (.tmp rfl) (fun hp26 => .gtmp rfl hp26) (fun _ => .bool)) rfl rfl (Nat.le_of_ble_eq_true rfl) ?_
    refine ARun.nil ?_
    refine AW.cond (.tmp rfl) (fun hb28 => ?_) (fun hb28 => ?_)
    · have _u := True.intro
      have hbd : chBad s d k = true := (chBad_eq s d k).trans hb28
      refine AW.seq ?_
      refine AW.region ?_
      refine ARun.pure (PureOp.assign rfl .bool) rfl rfl (Nat.le_of_ble_eq_true rfl) ?_
      refine ARun.nil ?_
      refine AW.ret (show ResL _ _ [.tmp 4] _ from resB rfl ?_)
      have hno : (List.range s.size).all (fun j => !chBad s d j) = false := rng_no hkl (by rw [hbd]; rfl)
      unfold nameB; rw [hno]; rfl
    · have _u := True.intro
      have hbd : chBad s d k = false := (chBad_eq s d k).trans hb28
      refine AW.skip ?_
      refine AW.region ?_
      refine ARun.pure (PureOp.add (c := ((k + 1 : Nat) : Int)) rfl (.tmp rfl) .int (by rw [wrap_id (by omega) (by omega)]; omega)) rfl rfl (Nat.le_of_ble_eq_true rfl) ?_
      refine ARun.pure (PureOp.move rfl (.tmp rfl)) rfl rfl (Nat.le_of_ble_eq_true rfl) ?_
      refine ARun.nil ?_
      exact ⟨k + 1, ⟨by omega, rng_succ (p := fun j => chBad s d j = false) hks hbd⟩, by dsimp only; omega, ⟨⟨⟨_, rfl, rfl⟩, ⟨_, rfl, rfl⟩, ⟨_, rfl, rfl⟩, ⟨_, rfl, rfl⟩, trivial⟩, trivial⟩⟩
  · have _u := True.intro
    replace hb1 := of_decide_eq_false hb1
    have hkl : ¬ k < s.size := by omega
    have hall : (List.range s.size).all (fun j => !chBad s d j) = true := rng_yes (fun j hj => by rw [hks j (by omega)]; rfl)
    refine AW.exit ?_
    refine AW.seq ?_
    refine AW.region ?_
    refine ARun.pure (PureOp.move rfl (.tmp rfl)) rfl rfl (Nat.le_of_ble_eq_true rfl) ?_
    refine ARun.pure (PureOp.lenStr rfl (.tmp rfl) vb_st_9) rfl rfl (Nat.le_of_ble_eq_true rfl) ?_
    refine ARun.pure (PureOp.call rfl (v_within (s.size : Int) 1 8) ⟨⟨_, (.tmp rfl), .int⟩, ⟨_, .int, .int⟩, ⟨_, .int, .int⟩, trivial⟩ vb_ca_72 trivial) rfl rfl (Nat.le_of_ble_eq_true rfl) ?_
    refine ARun.pure (PureOp.assign rfl (.tmp rfl)) rfl rfl (Nat.le_of_ble_eq_true rfl) ?_
    refine ARun.nil ?_
    refine AW.ret (show ResL _ _ [.tmp 4] _ from resB rfl ?_)
    unfold nameB; rw [hall]; rfl
end Go.Proofs.Ytmfkmifkkplidaa


/-
  Contract: markText of the laws.
-/
namespace Go.Proofs.Ytmfkmifkkplidaa
open Go.ChangeShapes Go.WideShapes Go.ChangeAt Go.RowKit Go.BigFrame
set_option linter.unusedVariables false

set_option maxRecDepth 20000
/-- The decimal digits of a number ahead of a text. -/
def digTo : Nat → Nat → ByteArray → ByteArray
  | 0, _, s => s
  | f + 1, q, s => if q = 0 then s else digTo f (q / 10) ((⟨#[UInt8.ofNat (48 + q % 10)]⟩ : ByteArray) ++ s)
/-- What markText answers. -/
def mkText (k : Nat) : ByteArray := (⟨#[109]⟩ : ByteArray) ++ digTo k k ⟨#[]⟩
end Go.Proofs.Ytmfkmifkkplidaa


/-
  What marks write, over the data of this seat.
-/
namespace Go.Proofs.Ytmfkmifkkplidaa
set_option linter.unusedVariables false
def mkI (_ : Int) (k : Nat) : Int := mI k
def mkB (_ : Bool) (k : Nat) : Bool := mB k
def mkS (_ : ByteArray) (k : Nat) : ByteArray := mkText k
abbrev c1 {α : Type} (_ : α) : Nat := 1
def ceRow (e : GRow) (j : Nat) : AV := ([.str e.name, .lst 2 e.samples.length (fun i0 j0 => ([.int .i64 ((e.samples.getD i0 (default : GSample)).at_), .int .i64 ((e.samples.getD i0 (default : GSample)).value)] : List AV).getD j0 (.con undef))] : List AV).getD j (.con undef)
def ceSample (e : GSample) (j : Nat) : AV := ([.int .i64 e.at_, .int .i64 e.value] : List AV).getD j (.con undef)
def mrSample (x : GSample) (k : Nat) : GSample := ⟨mkI x.at_ (k), mkI x.value (k + 1)⟩
def crSample (x : GSample) : Nat := 0 + 1 + 1
def mrRow (x : GRow) (k : Nat) : GRow := ⟨mkS x.name (k), (mkL crSample mrSample) x.samples (k + 1)⟩
def crRow (x : GRow) : Nat := 0 + 1 + ctL crSample (x.samples)
def mvHead (x : GHead) (k : Nat) : GHead := ⟨(mkL crRow mrRow) x.rows (k), x.offset⟩
def cvHead (x : GHead) : Nat := 0 + ctL crRow (x.rows)
def ceInt (e : Int) (j : Nat) : AV := .int .i64 e
def ceSay (e : GSay) (j : Nat) : AV := ([.str e.name, .int .i64 e.at_, .int .i64 e.value] : List AV).getD j (.con undef)
def mrSay (x : GSay) (k : Nat) : GSay := ⟨mkS x.name (k), mkI x.at_ (k + 1), mkI x.value (k + 1 + 1)⟩
def crSay (x : GSay) : Nat := 0 + 1 + 1 + 1
end Go.Proofs.Ytmfkmifkkplidaa


/-
  slices.Clone and slices.DeleteFunc over samples.
-/
namespace Go.Proofs.Ytmfkmifkkplidaa
open Go.ChangeShapes Go.WideShapes Go.ChangeAt Go.RowKit Go.BigFrame Go.Deep
set_option linter.unusedVariables false
set_option linter.unusedSimpArgs false
theorem vk_sl_33 : sliceB Try.prog 33 = true := by kernel_rfl
theorem v_Clone_Sample (l : List GSample) (hl : l.length ≤ 1048576) : FnT Try.prog 49 [.one (.lst 2 l.length (fun i0 j0 => ([.int .i64 ((l.getD i0 (default : GSample)).at_), .int .i64 ((l.getD i0 (default : GSample)).value)] : List AV).getD j0 (.con undef)))] (.one (.lst 2 l.length (fun i0 j0 => ([.int .i64 ((l.getD i0 (default : GSample)).at_), .int .i64 ((l.getD i0 (default : GSample)).value)] : List AV).getD j0 (.con undef)))) := by
  refine FnT.of_body (fn := Try.f49) Try.func49 rfl (Nat.le_of_ble_eq_true rfl)  ?_
  intro w0
  show AW _ 8 _ _ _ _
  refine AW.bound (t := 0) rfl fun hx => ?_
  refine AW.seq ?_
  refine AW.region ?_
  refine ARun.pure (PureOp.assign rfl .con) rfl rfl (Nat.le_of_ble_eq_true rfl) ?_
  refine ARun.nil ?_
  refine AW.seq ?_
  refine AW.seq ?_
  refine AW.region ?_
  refine ARun.pure (PureOp.move rfl (.tmp rfl)) rfl rfl (Nat.le_of_ble_eq_true rfl) ?_
  refine ARun.nilEq rfl (.tmp rfl) vk_sl_33 rfl rfl (Nat.le_of_ble_eq_true rfl) (fun bn1 hbn1 => ?_)
  refine ARun.nil ?_
  refine AW.cond (.tmp rfl) (fun hb2 => ?_) (fun hb2 => ?_)
  · have _u := True.intro
    obtain rfl : l = [] := List.eq_nil_of_length_eq_zero (hbn1 hb2)
    refine AW.seq ?_
    refine AW.region ?_
    refine ARun.pure (PureOp.assign rfl .con) rfl rfl (Nat.le_of_ble_eq_true rfl) ?_
    refine ARun.nil ?_
    exact AW.ret (show ∃ s t, ResL _ _ [.tmp 2] s ∧ TvS _ (ofLeaf t) 0 s _ from ⟨_, fun a b => 1000, .inl ⟨_, rfl, .tmp rfl⟩, .nil⟩)
  · have _u := True.intro
    refine AW.skip ?_
    refine AW.seq ?_
    refine AW.region ?_
    refine ARun.slice0 (id := 0) (z := (.agg #[.int .i64 0, .int .i64 0])) (sz := 2) (by_ := 16) rfl (by kernel_rfl) (fun _ _ => .con undef) (fun _ _ => rfl) ⟨rfl, (by repeat first | exact trivial | refine ⟨by decide, by first | rfl | exact trivial | (intro i j; first | rfl | exact getD_no rfl | (dsimp only; split <;> first | rfl | exact getD_no rfl) | exact scl_no (by apply_assumption) _), ?_⟩)⟩ rfl rfl (Nat.le_of_ble_eq_true rfl) ?_
    refine ARun.pure (PureOp.move rfl (.tmp rfl)) rfl rfl (Nat.le_of_ble_eq_true rfl) ?_
    refine ARun.append (id := 1) (sz := 2) (n := 0) (m := l.length) (by_ := 16) (z := (.agg #[.int .i64 0, .int .i64 0])) (f := fun _ _ => .con undef) (g := fun i0 j0 => ([.int .i64 ((l.getD i0 (default : GSample)).at_), .int .i64 ((l.getD i0 (default : GSample)).value)] : List AV).getD j0 (.con undef)) (h := fun ia ja => if ia < 0 then (fun _ _ => .con undef : Nat → Nat → AV) ia ja else (fun i0 j0 => ([.int .i64 ((l.getD i0 (default : GSample)).at_), .int .i64 ((l.getD i0 (default : GSample)).value)] : List AV).getD j0 (.con undef) : Nat → Nat → AV) (ia - 0) ja) rfl (by kernel_rfl) rfl vk_sl_33 (.own (.tmp rfl) rfl rfl rfl (Nat.le_refl _) (fun _ _ _ _ => rfl)) (.lst (.tmp rfl)) (by decide) (fun i j hi hj => match j, hj with | 0, _ => rfl | 1, _ => rfl | _ + 2, h => absurd h (by omega)) (fun _ _ _ _ => rfl) (by omega) (by omega) ⟨rfl, (by repeat first | exact trivial | refine ⟨by decide, by first | rfl | exact trivial | (intro i j; first | rfl | exact getD_no rfl | (dsimp only; split <;> first | rfl | exact getD_no rfl) | exact scl_no (by apply_assumption) _), ?_⟩)⟩ (fun i j => by dsimp only; (repeat' split) <;> first | rfl | exact getD_no rfl) rfl rfl (Nat.le_of_ble_eq_true rfl) ?_
    refine ARun.pure (PureOp.assign rfl (.tmp rfl)) rfl rfl (Nat.le_of_ble_eq_true rfl) ?_
    refine ARun.nil ?_
    exact AW.ret (show ∃ s t, ResL _ _ [.tmp 2] s ∧ TvS _ (ofLeaf t) 0 s _ from ⟨_, fun a b => if a = 1 then 0 else 1000, .inl ⟨_, rfl, .tmp rfl⟩, (Tv.flatN (Nat.zero_add _).symm rfl rfl rfl (Nat.le_refl _) (by rfl) (fun i j hi hj => by show (if i < 0 then AV.con undef else (fun i0 j0 => ([.int .i64 ((l.getD i0 (default : GSample)).at_), .int .i64 ((l.getD i0 (default : GSample)).value)] : List AV).getD j0 (.con undef)) i j) = _; exact app0) (fun i j hi hj => match j, hj with | 0, _ => rfl | 1, _ => rfl | _ + 2, h => absurd h (by omega)))⟩)

end Go.Proofs.Ytmfkmifkkplidaa


/-
  Heads copied.
-/
namespace Go.Proofs.Ytmfkmifkkplidaa
open Go.ChangeShapes Go.WideShapes Go.ChangeAt Go.RowKit Go.BigFrame Go.Deep
set_option linter.unusedVariables false
set_option linter.unusedSimpArgs false
theorem vcl_ag_29_2 : aggB Try.prog 29 2 = true := by kernel_rfl
theorem vcl_ag_67_2 : aggB Try.prog 67 2 = true := by kernel_rfl
theorem vcl_ca_49 : callB Try.prog 49 = true := by kernel_rfl
theorem vcl_el_27_2 : elemB Try.prog 27 2 = true := by kernel_rfl
theorem vcl_fi_29_0_0 : fieldB Try.prog 29 0 0 = true := by kernel_rfl
theorem vcl_fi_29_1_1 : fieldB Try.prog 29 1 1 = true := by kernel_rfl
theorem vcl_fi_67_0_0 : fieldB Try.prog 67 0 0 = true := by kernel_rfl
theorem vcl_fi_67_1_1 : fieldB Try.prog 67 1 1 = true := by kernel_rfl
theorem vcl_pl_27 : plainB Try.prog 27 = true := by kernel_rfl
theorem vcl_pl_3 : plainB Try.prog 3 = true := by kernel_rfl
theorem vcl_pl_33 : plainB Try.prog 33 = true := by kernel_rfl
theorem vcl_pl_9 : plainB Try.prog 9 = true := by kernel_rfl
theorem vcl_sl_27 : sliceB Try.prog 27 = true := by kernel_rfl
theorem vcl_sl_33 : sliceB Try.prog 33 = true := by kernel_rfl
theorem vcl_sz_27_1 : sizeB Try.prog 27 1 = true := by kernel_rfl
theorem vcl_sz_29_2 : sizeB Try.prog 29 2 = true := by kernel_rfl
theorem vcl_sz_67_2 : sizeB Try.prog 67 2 = true := by kernel_rfl
def rowC0 (h : GHead) (K i j : Nat) : AV := ([.str (h.rows.getD i (default : GRow)).name, .tre K i] : List AV).getD j (.con undef)
def rowX0 (h : GHead) (i : Nat) : AV := .lst 2 (h.rows.getD i (default : GRow)).samples.length (fun a b => ceSample ((h.rows.getD i (default : GRow)).samples.getD a (default : GSample)) b)
/-- A head small enough to be copied. -/
structure HdOk (h : GHead) : Prop where
  rows : h.rows.length ≤ 1048576
  smps : ∀ k, k < h.rows.length → (h.rows.getD k (default : GRow)).samples.length ≤ 1048576
theorem v_cloneHead (h : GHead) (hw : HdOk h) : FnT Try.prog 59 [.agg [.lst 2 h.rows.length (fun i0 j0 => ([.str ((h.rows.getD i0 (default : GRow)).name), .lst 2 (((h.rows.getD i0 (default : GRow)).samples).length) (fun i1 j1 => ([.int .i64 ((((h.rows.getD i0 (default : GRow)).samples).getD i1 (default : GSample)).at_), .int .i64 ((((h.rows.getD i0 (default : GRow)).samples).getD i1 (default : GSample)).value)] : List AV).getD j1 (.con undef))] : List AV).getD j0 (.con undef)), .int .i64 h.offset]] (.agg [.lst 2 h.rows.length (fun i0 j0 => ([.str ((h.rows.getD i0 (default : GRow)).name), .lst 2 (((h.rows.getD i0 (default : GRow)).samples).length) (fun i1 j1 => ([.int .i64 ((((h.rows.getD i0 (default : GRow)).samples).getD i1 (default : GSample)).at_), .int .i64 ((((h.rows.getD i0 (default : GRow)).samples).getD i1 (default : GSample)).value)] : List AV).getD j1 (.con undef))] : List AV).getD j0 (.con undef)), .int .i64 h.offset]) := by
  obtain ⟨hr0, hs0⟩ := hw
  refine FnT.of_body (fn := Try.f59) Try.func59 rfl (Nat.le_of_ble_eq_true rfl)  ?_
  intro w0
  show AW _ 29 _ _ _ _
  refine AW.seq ?_
  refine AW.region ?_
  refine ARun.box (id := 0) rfl (.tmp rfl) (SV.cells_of (by exact ⟨trivial, trivial, trivial⟩)) ⟨rfl, (by repeat first | exact trivial | refine ⟨by decide, by first | rfl | exact trivial | (intro i j; first | rfl | exact getD_no rfl | (dsimp only; split <;> first | rfl | exact getD_no rfl) | exact scl_no (by apply_assumption) _), ?_⟩)⟩ rfl rfl rfl (Nat.le_of_ble_eq_true rfl) ?_
  refine ARun.alloc (id := 1) (l := [.con (.slice none 0 0), .int .i64 0]) (z := (.agg #[.slice none 0 0, .int .i64 0])) rfl (by kernel_rfl) (fun _ _ _ => ⟨_, _, rfl, rfl, ⟨_, _, rfl, rfl, rfl⟩⟩) ⟨rfl, (by repeat first | exact trivial | refine ⟨by decide, by first | rfl | exact trivial | (intro i j; first | rfl | exact getD_no rfl | (dsimp only; split <;> first | rfl | exact getD_no rfl) | exact scl_no (by apply_assumption) _), ?_⟩)⟩ rfl rfl rfl (Nat.le_of_ble_eq_true rfl) ?_
  refine ARun.nil ?_
  refine AW.seq ?_
  refine AW.region ?_
  refine ARun.pure (PureOp.fieldPtr rfl (.tmp rfl) vcl_fi_29_1_1) rfl rfl (Nat.le_of_ble_eq_true rfl) ?_
  refine ARun.pure (PureOp.loadPtr rfl (.tmp rfl) vcl_pl_3 rfl rfl (Nat.le_of_ble_eq_true rfl) (Nat.le_of_ble_eq_true rfl)) rfl rfl (Nat.le_of_ble_eq_true rfl) ?_
  refine ARun.pure (PureOp.build (ys := [.int .i64 h.offset]) (l := [.con (.slice none 0 0), .int .i64 0]) (pl := [(0, 1), (1, 1)]) (z := (.agg #[.slice none 0 0, .int .i64 0])) rfl (by kernel_rfl) (by kernel_rfl) (fun _ _ _ => ⟨_, _, rfl, rfl, ⟨_, _, rfl, rfl, rfl⟩⟩) ⟨(.tmp rfl), trivial, rfl, trivial⟩ rfl) rfl rfl (Nat.le_of_ble_eq_true rfl) ?_
  refine ARun.alloc (id := 2) (l := [.con (.slice none 0 0), .int .i64 0]) (z := (.agg #[.slice none 0 0, .int .i64 0])) rfl (by kernel_rfl) (fun _ _ _ => ⟨_, _, rfl, rfl, ⟨_, _, rfl, rfl, rfl⟩⟩) ⟨rfl, (by repeat first | exact trivial | refine ⟨by decide, by first | rfl | exact trivial | (intro i j; first | rfl | exact getD_no rfl | (dsimp only; split <;> first | rfl | exact getD_no rfl) | exact scl_no (by apply_assumption) _), ?_⟩)⟩ rfl rfl rfl (Nat.le_of_ble_eq_true rfl) ?_
  refine ARun.store rfl (.tmp rfl) (.tmp rfl) (SV.cells_of (by exact ⟨⟨rfl, (fun _ e => by cases e), (fun _ e => by cases e)⟩, trivial, trivial⟩)) rfl (Nat.le_of_ble_eq_true rfl) vcl_sz_29_2 rfl rfl ?_
  refine ARun.nil ?_
  refine AW.seq ?_
  refine AW.seq ?_
  refine AW.region ?_
  refine ARun.pure (PureOp.fieldPtr rfl (.tmp rfl) vcl_fi_29_0_0) rfl rfl (Nat.le_of_ble_eq_true rfl) ?_
  refine ARun.pure (PureOp.loadPtr rfl (.tmp rfl) vcl_pl_27 rfl rfl (Nat.le_of_ble_eq_true rfl) (Nat.le_of_ble_eq_true rfl)) rfl rfl (Nat.le_of_ble_eq_true rfl) ?_
  refine ARun.pure (PureOp.lenLst rfl (.tmp rfl) vcl_sl_27) rfl rfl (Nat.le_of_ble_eq_true rfl) ?_
  refine ARun.pure (PureOp.move rfl .int) rfl rfl (Nat.le_of_ble_eq_true rfl) ?_
  refine ARun.nil ?_
  refine AW.block ?_
  refine AW.fam (id := 4) (rowX0 h) ⟨rfl, (by repeat first | exact trivial | refine ⟨by decide, by first | rfl | exact trivial | (intro i j; first | rfl | exact getD_no rfl | (dsimp only; split <;> first | rfl | exact getD_no rfl) | exact scl_no (by apply_assumption) _), ?_⟩)⟩ ?_
  refine AW.nilCell 2 0 3 2 _ (rowC0 h 4) rfl rfl ⟨rfl, (by repeat first | exact trivial | refine ⟨by decide, by first | rfl | exact trivial | (intro i j; first | rfl | exact getD_no rfl | (dsimp only; split <;> first | rfl | exact getD_no rfl) | exact scl_no (by apply_assumption) _), ?_⟩)⟩ ?_
  -- objects are renamed
  refine AW.loopR (ι := Nat) (fun k => ⟨[(2, .one (.ptr 1 2 0 0)), (3, .one (.ptr 2 2 0 0)), (10, .one (.lst 2 h.rows.length (fun i0 j0 => ([.str ((h.rows.getD i0 (default : GRow)).name), .lst 2 (((h.rows.getD i0 (default : GRow)).samples).length) (fun i1 j1 => ([.int .i64 ((((h.rows.getD i0 (default : GRow)).samples).getD i1 (default : GSample)).at_), .int .i64 ((((h.rows.getD i0 (default : GRow)).samples).getD i1 (default : GSample)).value)] : List AV).getD j1 (.con undef))] : List AV).getD j0 (.con undef)))), (11, .one (.int .i64 (h.rows.length : Int))), (12, .one (.int .i64 (k : Int)))], [(1, .cells [.con (.slice none 0 0), .int .i64 0]), (2, .cells [.own 3 2 k, .int .i64 h.offset]), (3, .arr 2 k (rowC0 h 4)), (4, .trees k (rowX0 h))]⟩) (fun k => k ≤ h.rows.length) (fun k => h.rows.length - k) 0 (Nat.zero_le _) ⟨⟨⟨_, rfl, rfl⟩, ⟨_, rfl, rfl⟩, ⟨_, rfl, rfl⟩, ⟨_, rfl, rfl⟩, ⟨_, rfl, rfl⟩, trivial⟩, ⟨⟨_, rfl, rfl, Nat.le_refl _, fun _ _ _ _ => rfl⟩, ⟨_, rfl, rfl, Nat.le_refl _, fun _ _ _ _ => rfl⟩, ⟨_, rfl, rfl, Nat.le_refl _, fun _ _ _ _ => rfl⟩, ⟨_, rfl, fun _ _ => rfl⟩, trivial⟩⟩ ?_
  intro k hk
  refine AW.seq ?_
  refine AW.region ?_
  refine ARun.pure (PureOp.intOp rfl (.tmp rfl) (.tmp rfl) rfl) rfl rfl (Nat.le_of_ble_eq_true rfl) ?_
  refine ARun.nil ?_
  refine AW.seq ?_
  refine AW.cond (.tmp rfl) (fun hb1 => ?_) (fun hb1 => ?_)
  · have _u := True.intro
    replace hb1 := of_decide_eq_true hb1
    have hkl : k < h.rows.length := by omega
    have hsk := hs0 k hkl
    refine AW.skip ?_
    refine AW.seq ?_
    refine AW.block ?_
    refine AW.seq ?_
    refine AW.region ?_
    refine ARun.pure (PureOp.indexLst (i := k) rfl (.tmp rfl) vcl_el_27_2 (.tmp rfl) rfl (by omega)) rfl rfl (Nat.le_of_ble_eq_true rfl) ?_
    refine ARun.pure (PureOp.loadRefAgg rfl (.tmp rfl) vcl_ag_67_2 (Nat.le_of_ble_eq_true rfl)) rfl rfl (Nat.le_of_ble_eq_true rfl) ?_
    refine ARun.alloc (id := 5) (l := [.str ByteArray.empty, .con (.slice none 0 0)]) (z := (.agg #[.string ByteArray.empty, .slice none 0 0])) rfl (by kernel_rfl) (fun _ _ _ => ⟨_, _, rfl, ⟨rfl, by decide⟩, ⟨_, _, rfl, rfl, rfl⟩⟩) ⟨rfl, (by repeat first | exact trivial | refine ⟨by decide, by first | rfl | exact trivial | (intro i j; first | rfl | exact getD_no rfl | (dsimp only; split <;> first | rfl | exact getD_no rfl) | exact scl_no (by apply_assumption) _), ?_⟩)⟩ rfl rfl rfl (Nat.le_of_ble_eq_true rfl) ?_
    refine ARun.store rfl (.tmp rfl) (.tmp rfl) (SV.cells_of (by exact ⟨trivial, trivial, trivial⟩)) rfl (Nat.le_of_ble_eq_true rfl) vcl_sz_67_2 rfl rfl ?_
    refine ARun.nil ?_
    refine AW.anyE [6, 8, 9, 11] [11, 9, 8, 7, 6] [(1, .cells [.con (.slice none 0 0), .int .i64 0]), (5, .cells [.str ((h.rows.getD k (default : GRow)).name), .lst 2 (((h.rows.getD k (default : GRow)).samples).length) (fun i0 j0 => ([.int .i64 ((((h.rows.getD k (default : GRow)).samples).getD i0 (default : GSample)).at_), .int .i64 ((((h.rows.getD k (default : GRow)).samples).getD i0 (default : GSample)).value)] : List AV).getD j0 (.con undef))])] [(1, .cells [.con (.slice none 0 0), .int .i64 0]), (2, .cells [.own 3 2 k, .int .i64 h.offset]), (5, .cells [.str ((h.rows.getD k (default : GRow)).name), .lst 2 (((h.rows.getD k (default : GRow)).samples).length) (fun i0 j0 => ([.int .i64 ((((h.rows.getD k (default : GRow)).samples).getD i0 (default : GSample)).at_), .int .i64 ((((h.rows.getD k (default : GRow)).samples).getD i0 (default : GSample)).value)] : List AV).getD j0 (.con undef))])] 11 (by kernel_rfl) (by kernel_rfl) (by kernel_rfl) rfl rfl ⟨rfl, rfl, trivial⟩ ⟨rfl, rfl, rfl, trivial⟩ ?_
    refine ADE.early (PureOp.fieldPtr rfl (.tmp rfl) vcl_fi_29_0_0) rfl rfl (Nat.le_of_ble_eq_true rfl) (by kernel_rfl) rfl rfl ?_
    refine ADE.early (PureOp.loadPtr rfl (.tmp rfl) vcl_pl_27 rfl rfl (Nat.le_of_ble_eq_true rfl) (Nat.le_of_ble_eq_true rfl)) rfl rfl (Nat.le_of_ble_eq_true rfl) (by kernel_rfl) rfl rfl ?_
    refine ADE.early (PureOp.fieldPtr rfl (.tmp rfl) vcl_fi_67_0_0) rfl rfl (Nat.le_of_ble_eq_true rfl) (by kernel_rfl) rfl rfl ?_
    refine ADE.early (PureOp.loadPtr rfl (.tmp rfl) vcl_pl_9 rfl rfl (Nat.le_of_ble_eq_true rfl) (Nat.le_of_ble_eq_true rfl)) rfl rfl (Nat.le_of_ble_eq_true rfl) (by kernel_rfl) rfl rfl ?_
    refine ADE.early (PureOp.fieldPtr rfl (.tmp rfl) vcl_fi_67_1_1) rfl rfl (Nat.le_of_ble_eq_true rfl) (by kernel_rfl) rfl rfl ?_
    refine ADE.early (PureOp.loadPtr rfl (.tmp rfl) vcl_pl_33 rfl rfl (Nat.le_of_ble_eq_true rfl) (Nat.le_of_ble_eq_true rfl)) rfl rfl (Nat.le_of_ble_eq_true rfl) (by kernel_rfl) rfl rfl ?_
    refine ADE.eff (new := []) (s := .one (.tre 4 k)) (F := [(22, .one (.tre 4 k))]) (H' := [(1, .cells [.con (.slice none 0 0), .int .i64 0]), (2, .cells [.own 3 2 k, .int .i64 h.offset]), (3, .arr 2 k (rowC0 h 4)), (4, .trees (k + 1) (rowX0 h)), (5, .cells [.str ((h.rows.getD k (default : GRow)).name), .lst 2 (((h.rows.getD k (default : GRow)).samples).length) (fun i0 j0 => ([.int .i64 ((((h.rows.getD k (default : GRow)).samples).getD i0 (default : GSample)).at_), .int .i64 ((((h.rows.getD k (default : GRow)).samples).getD i0 (default : GSample)).value)] : List AV).getD j0 (.con undef))])]) (fun E hE Q rest hk => ?_) ⟨rfl, rfl⟩ rfl (fun _ e => by cases e; exact Nat.le_of_ble_eq_true rfl) rfl rfl ⟨rfl, rfl, trivial⟩ (fun _ => ⟨rfl, rfl, rfl, trivial⟩) ?_
    · refine ARun.prodTo (K := 4) (n := k) (X := rowX0 h) (X' := rowX0 h) (m := (k + 1)) rfl (v_Clone_Sample ((h.rows.getD k (default : GRow)).samples) (by omega)) ⟨⟨_, (.tmp rfl), .lst⟩, trivial⟩ vcl_ca_49 rfl rfl (fun _ _ => rfl) (fun p hp => match p, hp with | 0, _ => rfl | _ + 1, h => absurd h (by simp [SV.leaves])) rfl rfl rfl rfl (Nat.le_of_ble_eq_true rfl) ?_
      refine ARun.hle ?_ hk
      exact HeapLe.one rfl (HeapLe.one rfl (HeapLe.one rfl (HeapLe.one rfl (HeapLe.one rfl trivial))))
    refine ADE.early (PureOp.build (ys := [.str ((h.rows.getD k (default : GRow)).name), .tre 4 k]) (l := [.str ByteArray.empty, .con (.slice none 0 0)]) (pl := [(0, 1), (1, 1)]) (z := (.agg #[.string ByteArray.empty, .slice none 0 0])) rfl (by kernel_rfl) (by kernel_rfl) (fun _ _ _ => ⟨_, _, rfl, ⟨rfl, by decide⟩, ⟨_, _, rfl, rfl, rfl⟩⟩) ⟨(.tmp rfl), trivial, rfl, ⟨(.tmp rfl), trivial, rfl, trivial⟩⟩ rfl) rfl rfl (Nat.le_of_ble_eq_true rfl) (by kernel_rfl) rfl rfl ?_
    refine ADE.eff (new := [6]) (s := .one (.own 6 2 1)) (F := [(24, .one (.own 6 2 1))]) (H' := [(1, .cells [.con (.slice none 0 0), .int .i64 0]), (2, .cells [.own 3 2 k, .int .i64 h.offset]), (3, .arr 2 k (rowC0 h 4)), (4, .trees (k + 1) (rowX0 h)), (5, .cells [.str ((h.rows.getD k (default : GRow)).name), .lst 2 (((h.rows.getD k (default : GRow)).samples).length) (fun i0 j0 => ([.int .i64 ((((h.rows.getD k (default : GRow)).samples).getD i0 (default : GSample)).at_), .int .i64 ((((h.rows.getD k (default : GRow)).samples).getD i0 (default : GSample)).value)] : List AV).getD j0 (.con undef))]), (6, .arr 2 1 (fun _ jc => ([.str ((h.rows.getD k (default : GRow)).name), .tre 4 k] : List AV).getD jc (.con undef)))]) (fun E hE Q rest hk => ?_) ⟨rfl, rfl⟩ rfl (fun _ e => by cases e; exact Nat.le_of_ble_eq_true rfl) rfl rfl ⟨rfl, rfl, trivial⟩ (fun _ => ⟨rfl, rfl, rfl, trivial⟩) ?_
    · refine ARun.slice1 (id := 6) (z := (.agg #[.string ByteArray.empty, .slice none 0 0])) (by_ := 40) rfl (.tmp rfl) (SV.cells_of (by exact ⟨trivial, trivial, trivial⟩)) (by kernel_rfl) rfl rfl (by decide) (by decide) (Fr.ext ⟨rfl, (by repeat first | exact trivial | refine ⟨by decide, by first | rfl | exact trivial | (intro i j; first | rfl | exact getD_no rfl | (dsimp only; split <;> first | rfl | exact getD_no rfl) | exact scl_no (by apply_assumption) _), ?_⟩)⟩ (List.all_eq_true.1 hE _ (by decide))) rfl rfl rfl (Nat.le_of_ble_eq_true rfl) ?_
      refine ARun.hle ?_ hk
      exact HeapLe.one rfl (HeapLe.one rfl (HeapLe.one rfl (HeapLe.one rfl (HeapLe.one rfl (HeapLe.one rfl trivial)))))
    refine ADE.eff (new := [7]) (s := .one (.own 7 2 (k + 1))) (F := [(25, .one (.own 7 2 (k + 1)))]) (H' := [(1, .cells [.con (.slice none 0 0), .int .i64 0]), (2, .cells [.own 3 2 k, .int .i64 h.offset]), (4, .trees (k + 1) (rowX0 h)), (5, .cells [.str ((h.rows.getD k (default : GRow)).name), .lst 2 (((h.rows.getD k (default : GRow)).samples).length) (fun i0 j0 => ([.int .i64 ((((h.rows.getD k (default : GRow)).samples).getD i0 (default : GSample)).at_), .int .i64 ((((h.rows.getD k (default : GRow)).samples).getD i0 (default : GSample)).value)] : List AV).getD j0 (.con undef))]), (6, .arr 2 1 (fun _ jc => ([.str ((h.rows.getD k (default : GRow)).name), .tre 4 k] : List AV).getD jc (.con undef))), (7, .arr 2 (k + 1) (fun ia ja => if ia < k then (rowC0 h 4 : Nat → Nat → AV) ia ja else (fun _ jc => ([.str ((h.rows.getD k (default : GRow)).name), .tre 4 k] : List AV).getD jc (.con undef) : Nat → Nat → AV) (ia - k) ja))]) (fun E hE Q rest hk => ?_) ⟨rfl, rfl⟩ rfl (fun _ e => by cases e; exact Nat.le_of_ble_eq_true rfl) rfl rfl ⟨rfl, rfl, trivial⟩ (fun _ => ⟨rfl, rfl, rfl, trivial⟩) ?_
    · refine ARun.append (id := 7) (sz := 2) (n := k) (m := 1) (by_ := 40) (z := (.agg #[.string ByteArray.empty, .slice none 0 0])) (f := rowC0 h 4) (g := fun _ jc => ([.str ((h.rows.getD k (default : GRow)).name), .tre 4 k] : List AV).getD jc (.con undef)) (h := fun ia ja => if ia < k then (rowC0 h 4 : Nat → Nat → AV) ia ja else (fun _ jc => ([.str ((h.rows.getD k (default : GRow)).name), .tre 4 k] : List AV).getD jc (.con undef) : Nat → Nat → AV) (ia - k) ja) rfl (by kernel_rfl) rfl vcl_sl_27 (.own (.tmp rfl) rfl rfl rfl (Nat.le_refl _) (fun _ _ _ _ => rfl)) (.own (.tmp rfl) rfl rfl (Nat.le_refl _) (fun _ _ _ _ => rfl)) (by decide) (fun i j hi hj => match j, hj with | 0, _ => rfl | 1, _ => rfl | _ + 2, h => absurd h (by omega)) (fun _ _ _ _ => rfl) (by omega) (by omega) (Fr.ext ⟨rfl, (by repeat first | exact trivial | refine ⟨by decide, by first | rfl | exact trivial | (intro i j; first | rfl | exact getD_no rfl | (dsimp only; split <;> first | rfl | exact getD_no rfl) | exact scl_no (by apply_assumption) _), ?_⟩)⟩ (List.all_eq_true.1 hE _ (by decide))) (fun i j => by dsimp only; (repeat' split) <;> first | rfl | exact getD_no rfl) rfl rfl (Nat.le_of_ble_eq_true rfl) ?_
      refine ARun.hle ?_ hk
      exact HeapLe.one rfl (HeapLe.one rfl (HeapLe.one rfl (HeapLe.one rfl (HeapLe.one rfl (HeapLe.one rfl trivial)))))
    refine ADE.early (PureOp.fieldPtr rfl (.tmp rfl) vcl_fi_29_0_0) rfl rfl (Nat.le_of_ble_eq_true rfl) (by kernel_rfl) rfl rfl ?_
    refine ADE.eff (new := []) (s := .one (.con undef)) (F := []) (H' := [(1, .cells [.con (.slice none 0 0), .int .i64 0]), (2, .cells [.own 7 2 (k + 1), .int .i64 h.offset]), (4, .trees (k + 1) (rowX0 h)), (5, .cells [.str ((h.rows.getD k (default : GRow)).name), .lst 2 (((h.rows.getD k (default : GRow)).samples).length) (fun i0 j0 => ([.int .i64 ((((h.rows.getD k (default : GRow)).samples).getD i0 (default : GSample)).at_), .int .i64 ((((h.rows.getD k (default : GRow)).samples).getD i0 (default : GSample)).value)] : List AV).getD j0 (.con undef))]), (6, .arr 2 1 (fun _ jc => ([.str ((h.rows.getD k (default : GRow)).name), .tre 4 k] : List AV).getD jc (.con undef))), (7, .arr 2 (k + 1) (fun ia ja => if ia < k then (rowC0 h 4 : Nat → Nat → AV) ia ja else (fun _ jc => ([.str ((h.rows.getD k (default : GRow)).name), .tre 4 k] : List AV).getD jc (.con undef) : Nat → Nat → AV) (ia - k) ja))]) (fun E hE Q rest hk => ?_) ⟨rfl, rfl⟩ rfl (fun _ e => by cases e) rfl rfl ⟨rfl, rfl, trivial⟩ (fun h => absurd h (by decide)) ?_
    · refine ARun.store rfl (.tmp rfl) (.tmp rfl) trivial rfl (Nat.le_of_ble_eq_true rfl) vcl_sz_27_1 rfl rfl ?_
      refine ARun.hle ?_ hk
      exact HeapLe.one rfl (HeapLe.one rfl (HeapLe.one rfl (HeapLe.one rfl (HeapLe.one rfl (HeapLe.one rfl trivial)))))
    refine ADE.nil ?_
    refine AW.region ?_
    refine ARun.pure (PureOp.add (c := ((k + 1 : Nat) : Int)) rfl (.tmp rfl) .int (by rw [wrap_id (by omega) (by omega)]; omega)) rfl rfl (Nat.le_of_ble_eq_true rfl) ?_
    refine ARun.pure (PureOp.move rfl (.tmp rfl)) rfl rfl (Nat.le_of_ble_eq_true rfl) ?_
    refine ARun.nil ?_
    exact ⟨k + 1, (swp 3 7), (show k + 1 ≤ h.rows.length from by omega), by dsimp only; omega, swp_inj, (swp_fix rfl rfl), ⟨⟨⟨_, rfl, rfl⟩, ⟨_, rfl, rfl⟩, ⟨_, rfl, rfl⟩, ⟨_, rfl, rfl⟩, ⟨_, rfl, rfl⟩, trivial⟩, ⟨⟨_, rfl, rfl, Nat.le_refl _, fun _ _ _ _ => rfl⟩, ⟨_, rfl, rfl, Nat.le_refl _, fun _ _ _ _ => rfl⟩, ⟨_, rfl, rfl, Nat.le_refl _, fun i j hi (hj : j < 2) => match j, hj with | 0, _ => app_at (show i < k + 1 from hi) (fun _ => rfl) (fun hik => by subst hik; rfl) | 1, _ => app_at (show i < k + 1 from hi) (fun _ => rfl) (fun h => by subst h; rfl) | _ + 2, h => absurd h (by omega)⟩, ⟨rowX0 h, rfl, fun _ _ => rfl⟩, trivial⟩⟩⟩
  · have _u := True.intro
    replace hb1 := of_decide_eq_false hb1
    have hkl : ¬ k < h.rows.length := by omega
    have hke : k = h.rows.length := by omega
    refine AW.exit ?_
    refine AW.seq ?_
    refine AW.region ?_
    refine ARun.pure (PureOp.loadPtrAgg rfl (.tmp rfl) vcl_ag_29_2 rfl rfl (Nat.le_of_ble_eq_true rfl) (Nat.le_of_ble_eq_true rfl)) rfl rfl (Nat.le_of_ble_eq_true rfl) ?_
    refine ARun.store rfl (.tmp rfl) (.tmp rfl) (SV.cells_of (by exact ⟨trivial, trivial, trivial⟩)) rfl (Nat.le_of_ble_eq_true rfl) vcl_sz_29_2 rfl rfl ?_
    refine ARun.nil ?_
    exact AW.ret (show ∃ s t, ResL _ _ [.cell 2 29] s ∧ TvS _ (ofLeaf t) 0 s _ from ⟨_, fun a b => if a = 3 then 0 else if a = 4 then 0 else 1000, .inl ⟨_, rfl, .cells rfl vcl_ag_29_2 rfl rfl (Nat.le_of_ble_eq_true rfl) (Nat.le_of_ble_eq_true rfl)⟩, ⟨(Tv.colK (K := 4) (c := 1) (X := rowX0 h) hke.symm rfl rfl rfl (Nat.le_refl _) (by rfl) (fun i j hi hj hne => match j, hj, hne with | 0, _, _ => ⟨rfl, rfl⟩ | 1, _, h => absurd rfl h | _ + 2, h, _ => absurd h (by omega)) (fun i hi => ⟨rfl, rfl⟩) rfl (by decide) (fun _ => by rfl)), .int, trivial⟩⟩)

theorem v_l13Own (h : GHead) (hw : HdOk h) : FnT Try.prog 57 [.agg [.lst 2 h.rows.length (fun i0 j0 => ([.str ((h.rows.getD i0 (default : GRow)).name), .lst 2 (((h.rows.getD i0 (default : GRow)).samples).length) (fun i1 j1 => ([.int .i64 ((((h.rows.getD i0 (default : GRow)).samples).getD i1 (default : GSample)).at_), .int .i64 ((((h.rows.getD i0 (default : GRow)).samples).getD i1 (default : GSample)).value)] : List AV).getD j1 (.con undef))] : List AV).getD j0 (.con undef)), .int .i64 h.offset]] (.agg [.lst 2 h.rows.length (fun i0 j0 => ([.str ((h.rows.getD i0 (default : GRow)).name), .lst 2 (((h.rows.getD i0 (default : GRow)).samples).length) (fun i1 j1 => ([.int .i64 ((((h.rows.getD i0 (default : GRow)).samples).getD i1 (default : GSample)).at_), .int .i64 ((((h.rows.getD i0 (default : GRow)).samples).getD i1 (default : GSample)).value)] : List AV).getD j1 (.con undef))] : List AV).getD j0 (.con undef)), .int .i64 h.offset]) := by
  obtain ⟨hr0, hs0⟩ := hw
  refine FnT.of_body (fn := Try.f57) Try.func57 rfl (Nat.le_of_ble_eq_true rfl)  ?_
  intro w0
  show AW _ 30 _ _ _ _
  refine AW.seq ?_
  refine AW.region ?_
  refine ARun.box (id := 0) rfl (.tmp rfl) (SV.cells_of (by exact ⟨trivial, trivial, trivial⟩)) ⟨rfl, (by repeat first | exact trivial | refine ⟨by decide, by first | rfl | exact trivial | (intro i j; first | rfl | exact getD_no rfl | (dsimp only; split <;> first | rfl | exact getD_no rfl) | exact scl_no (by apply_assumption) _), ?_⟩)⟩ rfl rfl rfl (Nat.le_of_ble_eq_true rfl) ?_
  refine ARun.alloc (id := 1) (l := [.con (.slice none 0 0), .int .i64 0]) (z := (.agg #[.slice none 0 0, .int .i64 0])) rfl (by kernel_rfl) (fun _ _ _ => ⟨_, _, rfl, rfl, ⟨_, _, rfl, rfl, rfl⟩⟩) ⟨rfl, (by repeat first | exact trivial | refine ⟨by decide, by first | rfl | exact trivial | (intro i j; first | rfl | exact getD_no rfl | (dsimp only; split <;> first | rfl | exact getD_no rfl) | exact scl_no (by apply_assumption) _), ?_⟩)⟩ rfl rfl rfl (Nat.le_of_ble_eq_true rfl) ?_
  refine ARun.nil ?_
  refine AW.seq ?_
  refine AW.region ?_
  refine ARun.pure (PureOp.fieldPtr rfl (.tmp rfl) vcl_fi_29_1_1) rfl rfl (Nat.le_of_ble_eq_true rfl) ?_
  refine ARun.pure (PureOp.loadPtr rfl (.tmp rfl) vcl_pl_3 rfl rfl (Nat.le_of_ble_eq_true rfl) (Nat.le_of_ble_eq_true rfl)) rfl rfl (Nat.le_of_ble_eq_true rfl) ?_
  refine ARun.pure (PureOp.build (ys := [.int .i64 h.offset]) (l := [.con (.slice none 0 0), .int .i64 0]) (pl := [(0, 1), (1, 1)]) (z := (.agg #[.slice none 0 0, .int .i64 0])) rfl (by kernel_rfl) (by kernel_rfl) (fun _ _ _ => ⟨_, _, rfl, rfl, ⟨_, _, rfl, rfl, rfl⟩⟩) ⟨(.tmp rfl), trivial, rfl, trivial⟩ rfl) rfl rfl (Nat.le_of_ble_eq_true rfl) ?_
  refine ARun.alloc (id := 2) (l := [.con (.slice none 0 0), .int .i64 0]) (z := (.agg #[.slice none 0 0, .int .i64 0])) rfl (by kernel_rfl) (fun _ _ _ => ⟨_, _, rfl, rfl, ⟨_, _, rfl, rfl, rfl⟩⟩) ⟨rfl, (by repeat first | exact trivial | refine ⟨by decide, by first | rfl | exact trivial | (intro i j; first | rfl | exact getD_no rfl | (dsimp only; split <;> first | rfl | exact getD_no rfl) | exact scl_no (by apply_assumption) _), ?_⟩)⟩ rfl rfl rfl (Nat.le_of_ble_eq_true rfl) ?_
  refine ARun.store rfl (.tmp rfl) (.tmp rfl) (SV.cells_of (by exact ⟨⟨rfl, (fun _ e => by cases e), (fun _ e => by cases e)⟩, trivial, trivial⟩)) rfl (Nat.le_of_ble_eq_true rfl) vcl_sz_29_2 rfl rfl ?_
  refine ARun.nil ?_
  refine AW.seq ?_
  refine AW.seq ?_
  refine AW.region ?_
  refine ARun.pure (PureOp.fieldPtr rfl (.tmp rfl) vcl_fi_29_0_0) rfl rfl (Nat.le_of_ble_eq_true rfl) ?_
  refine ARun.pure (PureOp.loadPtr rfl (.tmp rfl) vcl_pl_27 rfl rfl (Nat.le_of_ble_eq_true rfl) (Nat.le_of_ble_eq_true rfl)) rfl rfl (Nat.le_of_ble_eq_true rfl) ?_
  refine ARun.pure (PureOp.lenLst rfl (.tmp rfl) vcl_sl_27) rfl rfl (Nat.le_of_ble_eq_true rfl) ?_
  refine ARun.pure (PureOp.move rfl .int) rfl rfl (Nat.le_of_ble_eq_true rfl) ?_
  refine ARun.nil ?_
  refine AW.block ?_
  refine AW.fam (id := 4) (rowX0 h) ⟨rfl, (by repeat first | exact trivial | refine ⟨by decide, by first | rfl | exact trivial | (intro i j; first | rfl | exact getD_no rfl | (dsimp only; split <;> first | rfl | exact getD_no rfl) | exact scl_no (by apply_assumption) _), ?_⟩)⟩ ?_
  refine AW.nilCell 2 0 3 2 _ (rowC0 h 4) rfl rfl ⟨rfl, (by repeat first | exact trivial | refine ⟨by decide, by first | rfl | exact trivial | (intro i j; first | rfl | exact getD_no rfl | (dsimp only; split <;> first | rfl | exact getD_no rfl) | exact scl_no (by apply_assumption) _), ?_⟩)⟩ ?_
  -- objects are renamed
  refine AW.loopR (ι := Nat) (fun k => ⟨[(2, .one (.ptr 1 2 0 0)), (3, .one (.ptr 2 2 0 0)), (10, .one (.lst 2 h.rows.length (fun i0 j0 => ([.str ((h.rows.getD i0 (default : GRow)).name), .lst 2 (((h.rows.getD i0 (default : GRow)).samples).length) (fun i1 j1 => ([.int .i64 ((((h.rows.getD i0 (default : GRow)).samples).getD i1 (default : GSample)).at_), .int .i64 ((((h.rows.getD i0 (default : GRow)).samples).getD i1 (default : GSample)).value)] : List AV).getD j1 (.con undef))] : List AV).getD j0 (.con undef)))), (11, .one (.int .i64 (h.rows.length : Int))), (12, .one (.int .i64 (k : Int)))], [(1, .cells [.con (.slice none 0 0), .int .i64 0]), (2, .cells [.own 3 2 k, .int .i64 h.offset]), (3, .arr 2 k (rowC0 h 4)), (4, .trees k (rowX0 h))]⟩) (fun k => k ≤ h.rows.length) (fun k => h.rows.length - k) 0 (Nat.zero_le _) ⟨⟨⟨_, rfl, rfl⟩, ⟨_, rfl, rfl⟩, ⟨_, rfl, rfl⟩, ⟨_, rfl, rfl⟩, ⟨_, rfl, rfl⟩, trivial⟩, ⟨⟨_, rfl, rfl, Nat.le_refl _, fun _ _ _ _ => rfl⟩, ⟨_, rfl, rfl, Nat.le_refl _, fun _ _ _ _ => rfl⟩, ⟨_, rfl, rfl, Nat.le_refl _, fun _ _ _ _ => rfl⟩, ⟨_, rfl, fun _ _ => rfl⟩, trivial⟩⟩ ?_
  intro k hk
  refine AW.seq ?_
  refine AW.region ?_
  refine ARun.pure (PureOp.intOp rfl (.tmp rfl) (.tmp rfl) rfl) rfl rfl (Nat.le_of_ble_eq_true rfl) ?_
  refine ARun.nil ?_
  refine AW.seq ?_
  refine AW.cond (.tmp rfl) (fun hb1 => ?_) (fun hb1 => ?_)
  · have _u := True.intro
    replace hb1 := of_decide_eq_true hb1
    have hkl : k < h.rows.length := by omega
    have hsk := hs0 k hkl
    refine AW.skip ?_
    refine AW.seq ?_
    refine AW.block ?_
    refine AW.seq ?_
    refine AW.region ?_
    refine ARun.pure (PureOp.indexLst (i := k) rfl (.tmp rfl) vcl_el_27_2 (.tmp rfl) rfl (by omega)) rfl rfl (Nat.le_of_ble_eq_true rfl) ?_
    refine ARun.pure (PureOp.loadRefAgg rfl (.tmp rfl) vcl_ag_67_2 (Nat.le_of_ble_eq_true rfl)) rfl rfl (Nat.le_of_ble_eq_true rfl) ?_
    refine ARun.alloc (id := 5) (l := [.str ByteArray.empty, .con (.slice none 0 0)]) (z := (.agg #[.string ByteArray.empty, .slice none 0 0])) rfl (by kernel_rfl) (fun _ _ _ => ⟨_, _, rfl, ⟨rfl, by decide⟩, ⟨_, _, rfl, rfl, rfl⟩⟩) ⟨rfl, (by repeat first | exact trivial | refine ⟨by decide, by first | rfl | exact trivial | (intro i j; first | rfl | exact getD_no rfl | (dsimp only; split <;> first | rfl | exact getD_no rfl) | exact scl_no (by apply_assumption) _), ?_⟩)⟩ rfl rfl rfl (Nat.le_of_ble_eq_true rfl) ?_
    refine ARun.store rfl (.tmp rfl) (.tmp rfl) (SV.cells_of (by exact ⟨trivial, trivial, trivial⟩)) rfl (Nat.le_of_ble_eq_true rfl) vcl_sz_67_2 rfl rfl ?_
    refine ARun.nil ?_
    refine AW.anyE [4, 7, 9, 10, 12] [12, 10, 9, 8, 7, 4] [(1, .cells [.con (.slice none 0 0), .int .i64 0]), (5, .cells [.str ((h.rows.getD k (default : GRow)).name), .lst 2 (((h.rows.getD k (default : GRow)).samples).length) (fun i0 j0 => ([.int .i64 ((((h.rows.getD k (default : GRow)).samples).getD i0 (default : GSample)).at_), .int .i64 ((((h.rows.getD k (default : GRow)).samples).getD i0 (default : GSample)).value)] : List AV).getD j0 (.con undef))])] [(1, .cells [.con (.slice none 0 0), .int .i64 0]), (2, .cells [.own 3 2 k, .int .i64 h.offset]), (5, .cells [.str ((h.rows.getD k (default : GRow)).name), .lst 2 (((h.rows.getD k (default : GRow)).samples).length) (fun i0 j0 => ([.int .i64 ((((h.rows.getD k (default : GRow)).samples).getD i0 (default : GSample)).at_), .int .i64 ((((h.rows.getD k (default : GRow)).samples).getD i0 (default : GSample)).value)] : List AV).getD j0 (.con undef))])] 12 (by kernel_rfl) (by kernel_rfl) (by kernel_rfl) rfl rfl ⟨rfl, rfl, trivial⟩ ⟨rfl, rfl, rfl, trivial⟩ ?_
    refine ADE.early (PureOp.fieldPtr rfl (.tmp rfl) vcl_fi_29_0_0) rfl rfl (Nat.le_of_ble_eq_true rfl) (by kernel_rfl) rfl rfl ?_
    refine ADE.early (PureOp.loadPtr rfl (.tmp rfl) vcl_pl_27 rfl rfl (Nat.le_of_ble_eq_true rfl) (Nat.le_of_ble_eq_true rfl)) rfl rfl (Nat.le_of_ble_eq_true rfl) (by kernel_rfl) rfl rfl ?_
    refine ADE.early (PureOp.fieldPtr rfl (.tmp rfl) vcl_fi_67_0_0) rfl rfl (Nat.le_of_ble_eq_true rfl) (by kernel_rfl) rfl rfl ?_
    refine ADE.early (PureOp.loadPtr rfl (.tmp rfl) vcl_pl_9 rfl rfl (Nat.le_of_ble_eq_true rfl) (Nat.le_of_ble_eq_true rfl)) rfl rfl (Nat.le_of_ble_eq_true rfl) (by kernel_rfl) rfl rfl ?_
    refine ADE.eff (new := [6]) (s := .one (.own 6 2 0)) (F := [(20, .one (.own 6 2 0))]) (H' := [(1, .cells [.con (.slice none 0 0), .int .i64 0]), (2, .cells [.own 3 2 k, .int .i64 h.offset]), (3, .arr 2 k (rowC0 h 4)), (4, .trees k (rowX0 h)), (5, .cells [.str ((h.rows.getD k (default : GRow)).name), .lst 2 (((h.rows.getD k (default : GRow)).samples).length) (fun i0 j0 => ([.int .i64 ((((h.rows.getD k (default : GRow)).samples).getD i0 (default : GSample)).at_), .int .i64 ((((h.rows.getD k (default : GRow)).samples).getD i0 (default : GSample)).value)] : List AV).getD j0 (.con undef))]), (6, .arr 2 0 (fun _ _ => .con undef))]) (fun E hE Q rest hk => ?_) ⟨rfl, rfl⟩ rfl (fun _ e => by cases e; exact Nat.le_of_ble_eq_true rfl) rfl rfl ⟨rfl, rfl, trivial⟩ (fun _ => ⟨rfl, rfl, rfl, trivial⟩) ?_
    · refine ARun.slice0 (id := 6) (z := (.agg #[.int .i64 0, .int .i64 0])) (sz := 2) (by_ := 16) rfl (by kernel_rfl) (fun _ _ => .con undef) (fun _ _ => rfl) (Fr.ext ⟨rfl, (by repeat first | exact trivial | refine ⟨by decide, by first | rfl | exact trivial | (intro i j; first | rfl | exact getD_no rfl | (dsimp only; split <;> first | rfl | exact getD_no rfl) | exact scl_no (by apply_assumption) _), ?_⟩)⟩ (List.all_eq_true.1 hE _ (by decide))) rfl rfl (Nat.le_of_ble_eq_true rfl) ?_
      refine ARun.hle ?_ hk
      exact HeapLe.one rfl (HeapLe.one rfl (HeapLe.one rfl (HeapLe.one rfl (HeapLe.one rfl (HeapLe.one rfl trivial)))))
    refine ADE.early (PureOp.fieldPtr rfl (.tmp rfl) vcl_fi_67_1_1) rfl rfl (Nat.le_of_ble_eq_true rfl) (by kernel_rfl) rfl rfl ?_
    refine ADE.early (PureOp.loadPtr rfl (.tmp rfl) vcl_pl_33 rfl rfl (Nat.le_of_ble_eq_true rfl) (Nat.le_of_ble_eq_true rfl)) rfl rfl (Nat.le_of_ble_eq_true rfl) (by kernel_rfl) rfl rfl ?_
    refine ADE.eff (new := [7]) (s := .one (.tre 4 k)) (F := [(23, .one (.tre 4 k)), (23, .one (.own 7 2 (0 + ((h.rows.getD k (default : GRow)).samples).length)))]) (H' := [(1, .cells [.con (.slice none 0 0), .int .i64 0]), (2, .cells [.own 3 2 k, .int .i64 h.offset]), (3, .arr 2 k (rowC0 h 4)), (4, .trees (k + 1) (rowX0 h)), (5, .cells [.str ((h.rows.getD k (default : GRow)).name), .lst 2 (((h.rows.getD k (default : GRow)).samples).length) (fun i0 j0 => ([.int .i64 ((((h.rows.getD k (default : GRow)).samples).getD i0 (default : GSample)).at_), .int .i64 ((((h.rows.getD k (default : GRow)).samples).getD i0 (default : GSample)).value)] : List AV).getD j0 (.con undef))])]) (fun E hE Q rest hk => ?_) ⟨rfl, rfl⟩ rfl (fun _ e => by cases e; exact Nat.le_of_ble_eq_true rfl) rfl rfl ⟨rfl, rfl, trivial⟩ (fun _ => ⟨rfl, rfl, rfl, trivial⟩) ?_
    · refine ARun.append (id := 7) (sz := 2) (n := 0) (m := ((h.rows.getD k (default : GRow)).samples).length) (by_ := 16) (z := (.agg #[.int .i64 0, .int .i64 0])) (f := fun _ _ => .con undef) (g := fun i0 j0 => ([.int .i64 ((((h.rows.getD k (default : GRow)).samples).getD i0 (default : GSample)).at_), .int .i64 ((((h.rows.getD k (default : GRow)).samples).getD i0 (default : GSample)).value)] : List AV).getD j0 (.con undef)) (h := fun ia ja => if ia < 0 then (fun _ _ => .con undef : Nat → Nat → AV) ia ja else (fun i0 j0 => ([.int .i64 ((((h.rows.getD k (default : GRow)).samples).getD i0 (default : GSample)).at_), .int .i64 ((((h.rows.getD k (default : GRow)).samples).getD i0 (default : GSample)).value)] : List AV).getD j0 (.con undef) : Nat → Nat → AV) (ia - 0) ja) rfl (by kernel_rfl) rfl vcl_sl_33 (.own (.tmp rfl) rfl rfl rfl (Nat.le_refl _) (fun _ _ _ _ => rfl)) (.lst (.tmp rfl)) (by decide) (fun i j hi hj => match j, hj with | 0, _ => rfl | 1, _ => rfl | _ + 2, h => absurd h (by omega)) (fun _ _ _ _ => rfl) (by omega) (by omega) (Fr.ext ⟨rfl, (by repeat first | exact trivial | refine ⟨by decide, by first | rfl | exact trivial | (intro i j; first | rfl | exact getD_no rfl | (dsimp only; split <;> first | rfl | exact getD_no rfl) | exact scl_no (by apply_assumption) _), ?_⟩)⟩ (List.all_eq_true.1 hE _ (by decide))) (fun i j => by dsimp only; (repeat' split) <;> first | rfl | exact getD_no rfl) rfl rfl (Nat.le_of_ble_eq_true rfl) ?_
      refine ARun.closeRow 23 7 4 k 2 (0 + ((h.rows.getD k (default : GRow)).samples).length) (m' := (h.rows.getD k (default : GRow)).samples.length) (X := rowX0 h) (g := fun a b => ceSample ((h.rows.getD k (default : GRow)).samples.getD a (default : GSample)) b) rfl rfl rfl rfl (Nat.le_refl _) rfl rfl rfl (Nat.zero_add _).symm (fun i j hi hj => match j, hj with | 0, _ => (by show (if i < 0 then AV.con undef else _) = _; exact app0) | 1, _ => (by show (if i < 0 then AV.con undef else _) = _; exact app0) | _ + 2, h => absurd h (by omega)) (fun i j hi hj => match j, hj with | 0, _ => rfl | 1, _ => rfl | _ + 2, h => absurd h (by omega)) ?_
      refine ARun.hle ?_ hk
      exact HeapLe.one rfl (HeapLe.one rfl (HeapLe.one rfl (HeapLe.one rfl (HeapLe.one rfl trivial))))
    refine ADE.early (PureOp.build (ys := [.str ((h.rows.getD k (default : GRow)).name), .tre 4 k]) (l := [.str ByteArray.empty, .con (.slice none 0 0)]) (pl := [(0, 1), (1, 1)]) (z := (.agg #[.string ByteArray.empty, .slice none 0 0])) rfl (by kernel_rfl) (by kernel_rfl) (fun _ _ _ => ⟨_, _, rfl, ⟨rfl, by decide⟩, ⟨_, _, rfl, rfl, rfl⟩⟩) ⟨(.tmp rfl), trivial, rfl, ⟨(.tmp rfl), trivial, rfl, trivial⟩⟩ rfl) rfl rfl (Nat.le_of_ble_eq_true rfl) (by kernel_rfl) rfl rfl ?_
    refine ADE.eff (new := [8]) (s := .one (.own 8 2 1)) (F := [(25, .one (.own 8 2 1))]) (H' := [(1, .cells [.con (.slice none 0 0), .int .i64 0]), (2, .cells [.own 3 2 k, .int .i64 h.offset]), (3, .arr 2 k (rowC0 h 4)), (4, .trees (k + 1) (rowX0 h)), (5, .cells [.str ((h.rows.getD k (default : GRow)).name), .lst 2 (((h.rows.getD k (default : GRow)).samples).length) (fun i0 j0 => ([.int .i64 ((((h.rows.getD k (default : GRow)).samples).getD i0 (default : GSample)).at_), .int .i64 ((((h.rows.getD k (default : GRow)).samples).getD i0 (default : GSample)).value)] : List AV).getD j0 (.con undef))]), (8, .arr 2 1 (fun _ jc => ([.str ((h.rows.getD k (default : GRow)).name), .tre 4 k] : List AV).getD jc (.con undef)))]) (fun E hE Q rest hk => ?_) ⟨rfl, rfl⟩ rfl (fun _ e => by cases e; exact Nat.le_of_ble_eq_true rfl) rfl rfl ⟨rfl, rfl, trivial⟩ (fun _ => ⟨rfl, rfl, rfl, trivial⟩) ?_
    · refine ARun.slice1 (id := 8) (z := (.agg #[.string ByteArray.empty, .slice none 0 0])) (by_ := 40) rfl (.tmp rfl) (SV.cells_of (by exact ⟨trivial, trivial, trivial⟩)) (by kernel_rfl) rfl rfl (by decide) (by decide) (Fr.ext ⟨rfl, (by repeat first | exact trivial | refine ⟨by decide, by first | rfl | exact trivial | (intro i j; first | rfl | exact getD_no rfl | (dsimp only; split <;> first | rfl | exact getD_no rfl) | exact scl_no (by apply_assumption) _), ?_⟩)⟩ (List.all_eq_true.1 hE _ (by decide))) rfl rfl rfl (Nat.le_of_ble_eq_true rfl) ?_
      refine ARun.hle ?_ hk
      exact HeapLe.one rfl (HeapLe.one rfl (HeapLe.one rfl (HeapLe.one rfl (HeapLe.one rfl (HeapLe.one rfl trivial)))))
    refine ADE.eff (new := [9]) (s := .one (.own 9 2 (k + 1))) (F := [(26, .one (.own 9 2 (k + 1)))]) (H' := [(1, .cells [.con (.slice none 0 0), .int .i64 0]), (2, .cells [.own 3 2 k, .int .i64 h.offset]), (4, .trees (k + 1) (rowX0 h)), (5, .cells [.str ((h.rows.getD k (default : GRow)).name), .lst 2 (((h.rows.getD k (default : GRow)).samples).length) (fun i0 j0 => ([.int .i64 ((((h.rows.getD k (default : GRow)).samples).getD i0 (default : GSample)).at_), .int .i64 ((((h.rows.getD k (default : GRow)).samples).getD i0 (default : GSample)).value)] : List AV).getD j0 (.con undef))]), (8, .arr 2 1 (fun _ jc => ([.str ((h.rows.getD k (default : GRow)).name), .tre 4 k] : List AV).getD jc (.con undef))), (9, .arr 2 (k + 1) (fun ia ja => if ia < k then (rowC0 h 4 : Nat → Nat → AV) ia ja else (fun _ jc => ([.str ((h.rows.getD k (default : GRow)).name), .tre 4 k] : List AV).getD jc (.con undef) : Nat → Nat → AV) (ia - k) ja))]) (fun E hE Q rest hk => ?_) ⟨rfl, rfl⟩ rfl (fun _ e => by cases e; exact Nat.le_of_ble_eq_true rfl) rfl rfl ⟨rfl, rfl, trivial⟩ (fun _ => ⟨rfl, rfl, rfl, trivial⟩) ?_
    · refine ARun.append (id := 9) (sz := 2) (n := k) (m := 1) (by_ := 40) (z := (.agg #[.string ByteArray.empty, .slice none 0 0])) (f := rowC0 h 4) (g := fun _ jc => ([.str ((h.rows.getD k (default : GRow)).name), .tre 4 k] : List AV).getD jc (.con undef)) (h := fun ia ja => if ia < k then (rowC0 h 4 : Nat → Nat → AV) ia ja else (fun _ jc => ([.str ((h.rows.getD k (default : GRow)).name), .tre 4 k] : List AV).getD jc (.con undef) : Nat → Nat → AV) (ia - k) ja) rfl (by kernel_rfl) rfl vcl_sl_27 (.own (.tmp rfl) rfl rfl rfl (Nat.le_refl _) (fun _ _ _ _ => rfl)) (.own (.tmp rfl) rfl rfl (Nat.le_refl _) (fun _ _ _ _ => rfl)) (by decide) (fun i j hi hj => match j, hj with | 0, _ => rfl | 1, _ => rfl | _ + 2, h => absurd h (by omega)) (fun _ _ _ _ => rfl) (by omega) (by omega) (Fr.ext ⟨rfl, (by repeat first | exact trivial | refine ⟨by decide, by first | rfl | exact trivial | (intro i j; first | rfl | exact getD_no rfl | (dsimp only; split <;> first | rfl | exact getD_no rfl) | exact scl_no (by apply_assumption) _), ?_⟩)⟩ (List.all_eq_true.1 hE _ (by decide))) (fun i j => by dsimp only; (repeat' split) <;> first | rfl | exact getD_no rfl) rfl rfl (Nat.le_of_ble_eq_true rfl) ?_
      refine ARun.hle ?_ hk
      exact HeapLe.one rfl (HeapLe.one rfl (HeapLe.one rfl (HeapLe.one rfl (HeapLe.one rfl (HeapLe.one rfl trivial)))))
    refine ADE.early (PureOp.fieldPtr rfl (.tmp rfl) vcl_fi_29_0_0) rfl rfl (Nat.le_of_ble_eq_true rfl) (by kernel_rfl) rfl rfl ?_
    refine ADE.eff (new := []) (s := .one (.con undef)) (F := []) (H' := [(1, .cells [.con (.slice none 0 0), .int .i64 0]), (2, .cells [.own 9 2 (k + 1), .int .i64 h.offset]), (4, .trees (k + 1) (rowX0 h)), (5, .cells [.str ((h.rows.getD k (default : GRow)).name), .lst 2 (((h.rows.getD k (default : GRow)).samples).length) (fun i0 j0 => ([.int .i64 ((((h.rows.getD k (default : GRow)).samples).getD i0 (default : GSample)).at_), .int .i64 ((((h.rows.getD k (default : GRow)).samples).getD i0 (default : GSample)).value)] : List AV).getD j0 (.con undef))]), (8, .arr 2 1 (fun _ jc => ([.str ((h.rows.getD k (default : GRow)).name), .tre 4 k] : List AV).getD jc (.con undef))), (9, .arr 2 (k + 1) (fun ia ja => if ia < k then (rowC0 h 4 : Nat → Nat → AV) ia ja else (fun _ jc => ([.str ((h.rows.getD k (default : GRow)).name), .tre 4 k] : List AV).getD jc (.con undef) : Nat → Nat → AV) (ia - k) ja))]) (fun E hE Q rest hk => ?_) ⟨rfl, rfl⟩ rfl (fun _ e => by cases e) rfl rfl ⟨rfl, rfl, trivial⟩ (fun h => absurd h (by decide)) ?_
    · refine ARun.store rfl (.tmp rfl) (.tmp rfl) trivial rfl (Nat.le_of_ble_eq_true rfl) vcl_sz_27_1 rfl rfl ?_
      refine ARun.hle ?_ hk
      exact HeapLe.one rfl (HeapLe.one rfl (HeapLe.one rfl (HeapLe.one rfl (HeapLe.one rfl (HeapLe.one rfl trivial)))))
    refine ADE.nil ?_
    refine AW.region ?_
    refine ARun.pure (PureOp.add (c := ((k + 1 : Nat) : Int)) rfl (.tmp rfl) .int (by rw [wrap_id (by omega) (by omega)]; omega)) rfl rfl (Nat.le_of_ble_eq_true rfl) ?_
    refine ARun.pure (PureOp.move rfl (.tmp rfl)) rfl rfl (Nat.le_of_ble_eq_true rfl) ?_
    refine ARun.nil ?_
    exact ⟨k + 1, (swp 3 9), (show k + 1 ≤ h.rows.length from by omega), by dsimp only; omega, swp_inj, (swp_fix rfl rfl), ⟨⟨⟨_, rfl, rfl⟩, ⟨_, rfl, rfl⟩, ⟨_, rfl, rfl⟩, ⟨_, rfl, rfl⟩, ⟨_, rfl, rfl⟩, trivial⟩, ⟨⟨_, rfl, rfl, Nat.le_refl _, fun _ _ _ _ => rfl⟩, ⟨_, rfl, rfl, Nat.le_refl _, fun _ _ _ _ => rfl⟩, ⟨_, rfl, rfl, Nat.le_refl _, fun i j hi (hj : j < 2) => match j, hj with | 0, _ => app_at (show i < k + 1 from hi) (fun _ => rfl) (fun hik => by subst hik; rfl) | 1, _ => app_at (show i < k + 1 from hi) (fun _ => rfl) (fun h => by subst h; rfl) | _ + 2, h => absurd h (by omega)⟩, ⟨rowX0 h, rfl, fun _ _ => rfl⟩, trivial⟩⟩⟩
  · have _u := True.intro
    replace hb1 := of_decide_eq_false hb1
    have hkl : ¬ k < h.rows.length := by omega
    have hke : k = h.rows.length := by omega
    refine AW.exit ?_
    refine AW.seq ?_
    refine AW.region ?_
    refine ARun.pure (PureOp.loadPtrAgg rfl (.tmp rfl) vcl_ag_29_2 rfl rfl (Nat.le_of_ble_eq_true rfl) (Nat.le_of_ble_eq_true rfl)) rfl rfl (Nat.le_of_ble_eq_true rfl) ?_
    refine ARun.store rfl (.tmp rfl) (.tmp rfl) (SV.cells_of (by exact ⟨trivial, trivial, trivial⟩)) rfl (Nat.le_of_ble_eq_true rfl) vcl_sz_29_2 rfl rfl ?_
    refine ARun.nil ?_
    exact AW.ret (show ∃ s t, ResL _ _ [.cell 2 29] s ∧ TvS _ (ofLeaf t) 0 s _ from ⟨_, fun a b => if a = 3 then 0 else if a = 4 then 0 else 1000, .inl ⟨_, rfl, .cells rfl vcl_ag_29_2 rfl rfl (Nat.le_of_ble_eq_true rfl) (Nat.le_of_ble_eq_true rfl)⟩, ⟨(Tv.colK (K := 4) (c := 1) (X := rowX0 h) hke.symm rfl rfl rfl (Nat.le_refl _) (by rfl) (fun i j hi hj hne => match j, hj, hne with | 0, _, _ => ⟨rfl, rfl⟩ | 1, _, h => absurd rfl h | _ + 2, h, _ => absurd h (by omega)) (fun i hi => ⟨rfl, rfl⟩) rfl (by decide) (fun _ => by rfl)), .int, trivial⟩⟩)
end Go.Proofs.Ytmfkmifkkplidaa


/-
  slices.Insert of one row.
-/
namespace Go.Proofs.Ytmfkmifkkplidaa
open Go.ChangeShapes Go.WideShapes Go.ChangeAt Go.RowKit Go.BigFrame Go.Deep
set_option linter.unusedVariables false
set_option linter.unusedSimpArgs false
theorem vin_el_27_2 : elemB Try.prog 27 2 = true := by kernel_rfl
theorem vin_sl_27 : sliceB Try.prog 27 = true := by kernel_rfl
/-- What stands behind an insertion at place i. -/
def insF (f g : Nat → Nat → AV) (i a b : Nat) : AV := if a < i then f a b else if a = i then g 0 b else f (a - 1) b
/-- Cells that may be copied, and name no object that a walk makes. -/
structure CellsOk (f : Nat → Nat → AV) : Prop where
  oc : ∀ a b, b < 2 → (f a b).oc = true
  no : ∀ k, k < 1000000 → ∀ a b, (f a b).no k = true
theorem AW.growK {P : Program} {N : Nat} {w0 : Start} {σ : Sig} {c : Code} {Q : Exit → Sig → Prop} (id sz n k : Nat) (f : Nat → Nat → AV) (hob : σ.heap.lookup id = some (.arr sz n f)) (hid : Nat.ble 1000000 id = true) (hk : k ≤ (w0.ρ id).2)
    (h : ∀ gg : Nat → Nat → Value, AW P N w0 c Q ⟨σ.env, (id, .arr sz k fun i j => if i < n then f i j else .con (gg i j)) :: σ.heap⟩) : AW P N w0 c Q σ := by
  intro ρ S a w Q' hQ hs
  have hρ : (ρ id).2 = (w0.ρ id).2 := by rw [(hs.below.ids id (Nat.le_of_ble_eq_true hid)).m]
  obtain ⟨h1, gg, h2⟩ := hs.growH hob
  rw [hρ] at h1 h2
  refine h gg ρ S a w Q' hQ ⟨h2.size, h2.defers, h2.below, h2.mem.le' fun q p hp => ?_, h2.env⟩
  rcases lookup_put hp with ⟨rfl, rfl⟩ | ⟨hne, hp⟩
  · exact ⟨.arr sz (w0.ρ q).2 fun i j => if i < n then f i j else .con (gg i j), by simp, rfl, hk, fun _ _ _ _ => rfl⟩
  · exact HLe.refl (by rw [List.lookup_cons, show (q == id) = false by simpa using hne]; exact hp)
theorem v_InsertRow (f g : Nat → Nat → AV) (n i : Nat) (hi : i ≤ n ∧ n ≤ 8) (hf : CellsOk f) (hg : CellsOk g) : FnG Try.prog 79 [.one (.own 1000001 2 n), .one (.int .i64 (i : Int)), .one (.own 1000003 2 1)] [(1000001, .arr 2 n f), (1000003, .arr 2 1 g)] (.one (.own 77 2 (n + 1))) [(77, .arr 2 (n + 1) (insF f g i))] := by
  obtain ⟨hi0, hn8⟩ := hi
  refine FnG.of_body (fn := Try.f79) Try.func79 rfl (Nat.le_of_ble_eq_true rfl) ?_
  intro w0
  show AW _ 95 _ _ _ _
  refine AW.seq ?_
  refine AW.region ?_
  refine ARun.pure (PureOp.assign rfl .con) rfl rfl (Nat.le_of_ble_eq_true rfl) ?_
  refine ARun.nil ?_
  refine AW.seq ?_
  refine AW.region ?_
  refine ARun.pure (PureOp.move rfl (.tmp rfl)) rfl rfl (Nat.le_of_ble_eq_true rfl) ?_
  refine ARun.pure (PureOp.move rfl (.tmp rfl)) rfl rfl (Nat.le_of_ble_eq_true rfl) ?_
  refine ARun.pure (PureOp.dropOwn (k := i) rfl (.tmp rfl) (.tmp rfl) rfl (show _ ≤ _ from by omega) vin_el_27_2) rfl rfl (Nat.le_of_ble_eq_true rfl) ?_
  refine ARun.nil ?_
  refine AW.seq ?_
  refine AW.region ?_
  refine ARun.pure (PureOp.move rfl (.tmp rfl)) rfl rfl (Nat.le_of_ble_eq_true rfl) ?_
  refine ARun.pure (PureOp.lenOwn rfl (.tmp rfl) vin_sl_27) rfl rfl (Nat.le_of_ble_eq_true rfl) ?_
  refine ARun.pure (PureOp.assign rfl (.tmp rfl)) rfl rfl (Nat.le_of_ble_eq_true rfl) ?_
  refine ARun.nil ?_
  refine AW.seq ?_
  refine AW.seq ?_
  refine AW.region ?_
  refine ARun.pure (PureOp.move rfl (.tmp rfl)) rfl rfl (Nat.le_of_ble_eq_true rfl) ?_
  refine ARun.pure (PureOp.intOp rfl (.tmp rfl) .int rfl) rfl rfl (Nat.le_of_ble_eq_true rfl) ?_
  refine ARun.nil ?_
  refine AW.cond (.tmp rfl) (fun hb1 => ?_) (fun hb1 => ?_)
  · have _u := True.intro
    exact absurd hb1 (by decide)
    --end
  · have _u := True.intro
    refine AW.skip ?_
    refine AW.seq ?_
    refine AW.region ?_
    refine ARun.pure (PureOp.move rfl (.tmp rfl)) rfl rfl (Nat.le_of_ble_eq_true rfl) ?_
    refine ARun.pure (PureOp.lenOwn rfl (.tmp rfl) vin_sl_27) rfl rfl (Nat.le_of_ble_eq_true rfl) ?_
    refine ARun.pure (PureOp.assign rfl (.tmp rfl)) rfl rfl (Nat.le_of_ble_eq_true rfl) ?_
    refine ARun.nil ?_
    refine AW.seq ?_
    refine AW.seq ?_
    refine AW.region ?_
    refine ARun.pure (PureOp.move rfl (.tmp rfl)) rfl rfl (Nat.le_of_ble_eq_true rfl) ?_
    refine ARun.pure (PureOp.move rfl (.tmp rfl)) rfl rfl (Nat.le_of_ble_eq_true rfl) ?_
    refine ARun.pure (PureOp.intOp rfl (.tmp rfl) (.tmp rfl) rfl) rfl rfl (Nat.le_of_ble_eq_true rfl) ?_
    refine ARun.nil ?_
    refine AW.cond (.tmp rfl) (fun hb2 => ?_) (fun hb2 => ?_)
    · have _u := True.intro
      replace hb2 := of_decide_eq_true hb2
      have hin : i = n := by omega
      refine AW.seq ?_
      refine AW.region ?_
      refine ARun.pure (PureOp.move rfl (.tmp rfl)) rfl rfl (Nat.le_of_ble_eq_true rfl) ?_
      refine ARun.pure (PureOp.move rfl (.tmp rfl)) rfl rfl (Nat.le_of_ble_eq_true rfl) ?_
      refine ARun.append (id := 0) (sz := 2) (n := n) (m := 1) (by_ := 40) (z := (.agg #[.string ByteArray.empty, .slice none 0 0])) (f := f) (g := g) (h := fun ia ja => if ia < n then (f : Nat → Nat → AV) ia ja else (g : Nat → Nat → AV) (ia - n) ja) rfl (by kernel_rfl) rfl vin_sl_27 (.own (.tmp rfl) rfl rfl rfl (Nat.le_refl _) (fun _ _ _ _ => rfl)) (.own (.tmp rfl) rfl rfl (Nat.le_refl _) (fun _ _ _ _ => rfl)) (by decide) (fun _ _ _ hj_ => hg.oc _ _ hj_) (fun _ _ _ _ => rfl) (by omega) (by omega) ⟨rfl, (by repeat first | exact trivial | refine ⟨by decide, by first | exact hf.no _ (by decide) | exact hg.no _ (by decide) | (intro a b; (try dsimp only); (repeat' split) <;> first | rfl | exact hf.no _ (by decide) _ _ | exact hg.no _ (by decide) _ _), ?_⟩)⟩ (fun a b => by (try dsimp only); (repeat' split) <;> first | exact hf.no _ (by decide) _ _ | exact hg.no _ (by decide) _ _) rfl rfl (Nat.le_of_ble_eq_true rfl) ?_
      refine ARun.pure (PureOp.assign rfl (.tmp rfl)) rfl rfl (Nat.le_of_ble_eq_true rfl) ?_
      refine ARun.nil ?_
      refine AW.moveRow 6 0 77 2 (n + 1) rfl rfl rfl ⟨rfl, (by repeat first | exact trivial | refine ⟨by decide, by first | exact hf.no _ (by decide) | exact hg.no _ (by decide) | (intro a b; (try dsimp only); (repeat' split) <;> first | rfl | exact hf.no _ (by decide) _ _ | exact hg.no _ (by decide) _ _), ?_⟩)⟩ ?_
      refine AW.ret (show ResL _ _ [.tmp 6] _ ∧ HeapLe _ _ from ⟨resO rfl ?_, ⟨⟨_, rfl, rfl, (show n + 1 ≤ (n + 1) from by omega), fun a b (ha : a < n + 1) hb => by show (fun ia ja => if ia < n then (f : Nat → Nat → AV) ia ja else (g : Nat → Nat → AV) (ia - n) ja : Nat → Nat → AV) a b = insF f g i a b; unfold insF; (try dsimp only); (repeat' split) <;> first | rfl | omega | exact congrArg (fun q => f q b) (by omega) | exact congrArg (fun q => g q b) (by omega)⟩, trivial⟩⟩)
      show _ = _
      omega
    · have _u := True.intro
      replace hb2 := of_decide_eq_false hb2
      have hin : ¬ i = n := by omega
      refine AW.skip ?_
      refine AW.seq ?_
      refine AW.seq ?_
      refine AW.region ?_
      refine ARun.pure (PureOp.move rfl (.tmp rfl)) rfl rfl (Nat.le_of_ble_eq_true rfl) ?_
      refine ARun.pure (PureOp.move rfl (.tmp rfl)) rfl rfl (Nat.le_of_ble_eq_true rfl) ?_
      refine ARun.pure (PureOp.add (c := ((n + 1 : Nat) : Int)) rfl (.tmp rfl) (.tmp rfl) (by rw [wrap_id (by omega) (by omega)]; omega)) rfl rfl (Nat.le_of_ble_eq_true rfl) ?_
      refine ARun.pure (PureOp.move rfl (.tmp rfl)) rfl rfl (Nat.le_of_ble_eq_true rfl) ?_
      refine ARun.capH (id := 1000001) rfl (.tmp rfl) rfl vin_sl_27 rfl rfl (Nat.le_of_ble_eq_true rfl) (fun hcap3 hcap4 => ?_)
      refine ARun.pure (PureOp.intOp rfl (.tmp rfl) (.tmp rfl) rfl) rfl rfl (Nat.le_of_ble_eq_true rfl) ?_
      refine ARun.nil ?_
      refine AW.cond (.tmp rfl) (fun hb5 => ?_) (fun hb5 => ?_)
      · have _u := True.intro
        replace hb5 := of_decide_eq_true hb5
        refine AW.seq ?_
        refine AW.region ?_
        refine ARun.pure (PureOp.move rfl (.tmp rfl)) rfl rfl (Nat.le_of_ble_eq_true rfl) ?_
        refine ARun.pure (PureOp.move rfl (.tmp rfl)) rfl rfl (Nat.le_of_ble_eq_true rfl) ?_
        refine ARun.pure (PureOp.takeOwn (k := i) rfl (.tmp rfl) (.tmp rfl) rfl (show _ ≤ _ from by omega) vin_el_27_2) rfl rfl (Nat.le_of_ble_eq_true rfl) ?_
        refine ARun.pure (PureOp.move rfl (.tmp rfl)) rfl rfl (Nat.le_of_ble_eq_true rfl) ?_
        refine ARun.pure (PureOp.move rfl (.tmp rfl)) rfl rfl (Nat.le_of_ble_eq_true rfl) ?_
        refine ARun.pure (PureOp.add (c := ((n + 1 : Nat) : Int)) rfl (.tmp rfl) (.tmp rfl) (by rw [wrap_id (by omega) (by omega)]; omega)) rfl rfl (Nat.le_of_ble_eq_true rfl) ?_
        refine ARun.pure (PureOp.move rfl (.tmp rfl)) rfl rfl (Nat.le_of_ble_eq_true rfl) ?_
        refine ARun.pure (PureOp.sub (c := ((n + 1 - i : Nat) : Int)) rfl (.tmp rfl) (.tmp rfl) (by rw [wrap_id (by omega) (by omega)]; omega)) rfl rfl (Nat.le_of_ble_eq_true rfl) ?_
        refine ARun.appendZ (id := 1) (sz := 2) (n := i) (k := (n + 1 - i)) (by_ := 40) (z := (.agg #[.string ByteArray.empty, .slice none 0 0])) (f := f) rfl (by kernel_rfl) rfl Try.underlying3 (.tmp rfl) rfl rfl (show i ≤ n from hi0) (fun _ _ _ _ => rfl) (.tmp rfl) rfl (by omega) rfl (by omega) (by decide) (by omega) (by omega) ⟨rfl, (by repeat first | exact trivial | refine ⟨by decide, by first | exact hf.no _ (by decide) | exact hg.no _ (by decide) | (intro a b; (try dsimp only); (repeat' split) <;> first | rfl | exact hf.no _ (by decide) _ _ | exact hg.no _ (by decide) _ _), ?_⟩)⟩ (hf.no _ (by decide)) rfl rfl (Nat.le_of_ble_eq_true rfl) (fun gg6 => ?_)
        refine ARun.pure (PureOp.assign rfl (.tmp rfl)) rfl rfl (Nat.le_of_ble_eq_true rfl) ?_
        refine ARun.nil ?_
        refine AW.seq ?_
        refine AW.region ?_
        refine ARun.pure (PureOp.move rfl (.tmp rfl)) rfl rfl (Nat.le_of_ble_eq_true rfl) ?_
        refine ARun.pure (PureOp.move rfl (.tmp rfl)) rfl rfl (Nat.le_of_ble_eq_true rfl) ?_
        refine ARun.pure (PureOp.dropOwn (k := i) rfl (.tmp rfl) (.tmp rfl) rfl (show _ ≤ _ from by omega) vin_el_27_2) rfl rfl (Nat.le_of_ble_eq_true rfl) ?_
        refine ARun.pure (PureOp.move rfl (.tmp rfl)) rfl rfl (Nat.le_of_ble_eq_true rfl) ?_
        refine ARun.copyN (id := 1) (sz := 2) (q := i) (n := (i + (n + 1 - i))) (m := 1) (r := 1) (f := fun ia_ ja_ => if ia_ < i then (f : Nat → Nat → AV) ia_ ja_ else .con (gg6 ia_ ja_)) (g := g) rfl vin_el_27_2 (by decide) (.tl (.tmp rfl)) rfl (SrcOk.of (.own (.tmp rfl) rfl rfl (Nat.le_refl _) (fun _ _ _ _ => rfl))) (fun _ _ _ hj_ => hg.oc _ _ hj_) (show 1 = min 1 ((i + (n + 1 - i)) - i) from by omega) rfl (.inl rfl) (Nat.le_of_ble_eq_true rfl) ?_
        refine ARun.nil ?_
        refine AW.seq ?_
        refine AW.anyX [⟨[], [], [], []⟩, ⟨[], [], [], []⟩, ⟨[], [], [], []⟩, ⟨[], [], [], []⟩, ⟨[], [], [], []⟩, ⟨[], [], [], []⟩, ⟨[], [], [], []⟩, ⟨[], [], [], []⟩, ⟨[], [1, 1000001], [], [(1, .arr 2 (i + (n + 1 - i)) (fun ic_ jc_ => if (i + 1) ≤ ic_ ∧ ic_ < (i + 1) + (n - i) then (fun a_ b_ => f (i + a_) b_ : Nat → Nat → AV) (ic_ - (i + 1)) jc_ else (fun ic_ jc_ => if i ≤ ic_ ∧ ic_ < i + 1 then (g : Nat → Nat → AV) (ic_ - i) jc_ else (fun ia_ ja_ => if ia_ < i then (f : Nat → Nat → AV) ia_ ja_ else .con (gg6 ia_ ja_) : Nat → Nat → AV) ic_ jc_ : Nat → Nat → AV) ic_ jc_)), (1000001, .arr 2 n f)]⟩] (by kernel_rfl) (by kernel_rfl) (by kernel_rfl) ⟨⟨.inl rfl, .inr (.inr trivial), .inr (.inr trivial), .inr (.inr trivial), .inr (.inr trivial), .inr (.inr trivial), .inr (.inr trivial), .inr (.inr trivial), .inr (.inr trivial), trivial⟩, ⟨.inr (.inr trivial), .inl rfl, .inr (.inr trivial), .inr (.inr trivial), .inr (.inr trivial), .inr (.inr trivial), .inr (.inr trivial), .inr (.inr trivial), .inr (.inr trivial), trivial⟩, ⟨.inr (.inr trivial), .inr (.inr trivial), .inl rfl, .inr (.inr trivial), .inr (.inr trivial), .inr (.inr trivial), .inr (.inr trivial), .inr (.inr trivial), .inr (.inr trivial), trivial⟩, ⟨.inr (.inr trivial), .inr (.inr trivial), .inr (.inr trivial), .inl rfl, .inr (.inr trivial), .inr (.inr trivial), .inr (.inr trivial), .inr (.inr trivial), .inr (.inr trivial), trivial⟩, ⟨.inr (.inr trivial), .inr (.inr trivial), .inr (.inr trivial), .inr (.inr trivial), .inl rfl, .inr (.inr trivial), .inr (.inr trivial), .inr (.inr trivial), .inr (.inr trivial), trivial⟩, ⟨.inr (.inr trivial), .inr (.inr trivial), .inr (.inr trivial), .inr (.inr trivial), .inr (.inr trivial), .inl rfl, .inr (.inr trivial), .inr (.inr trivial), .inr (.inr trivial), trivial⟩, ⟨.inr (.inr trivial), .inr (.inr trivial), .inr (.inr trivial), .inr (.inr trivial), .inr (.inr trivial), .inr (.inr trivial), .inl rfl, .inr (.inr trivial), .inr (.inr trivial), trivial⟩, ⟨.inr (.inr trivial), .inr (.inr trivial), .inr (.inr trivial), .inr (.inr trivial), .inr (.inr trivial), .inr (.inr trivial), .inr (.inr trivial), .inl rfl, .inr (.inr trivial), trivial⟩, ⟨.inr (.inr trivial), .inr (.inr trivial), .inr (.inr trivial), .inr (.inr trivial), .inr (.inr trivial), .inr (.inr trivial), .inr (.inr trivial), .inr (.inr trivial), .inl rfl, trivial⟩, trivial⟩ ⟨trivial, trivial, trivial, trivial, trivial, trivial, trivial, trivial, trivial, trivial⟩ ?_
        refine ADX.pure [] (PureOp.move rfl (.tmp rfl)) rfl rfl (Nat.le_of_ble_eq_true rfl) trivial rfl ?_
        refine ADX.pure [] (PureOp.move rfl (.tmp rfl)) rfl rfl (Nat.le_of_ble_eq_true rfl) trivial rfl ?_
        refine ADX.pure [] (PureOp.move rfl (.tmp rfl)) rfl rfl (Nat.le_of_ble_eq_true rfl) trivial rfl ?_
        refine ADX.pure [] (PureOp.add (c := ((i + 1 : Nat) : Int)) rfl (.tmp rfl) (.tmp rfl) (by rw [wrap_id (by omega) (by omega)]; omega)) rfl rfl (Nat.le_of_ble_eq_true rfl) trivial rfl ?_
        refine ADX.pure [] (PureOp.dropOwn (k := i + 1) rfl (.tmp rfl) (.tmp rfl) rfl (show _ ≤ _ from by omega) vin_el_27_2) rfl rfl (Nat.le_of_ble_eq_true rfl) trivial rfl ?_
        refine ADX.pure [] (PureOp.move rfl (.tmp rfl)) rfl rfl (Nat.le_of_ble_eq_true rfl) trivial rfl ?_
        refine ADX.pure [] (PureOp.move rfl (.tmp rfl)) rfl rfl (Nat.le_of_ble_eq_true rfl) trivial rfl ?_
        refine ADX.pure [] (PureOp.dropOwn (k := i) rfl (.tmp rfl) (.tmp rfl) rfl (show _ ≤ _ from by omega) vin_el_27_2) rfl rfl (Nat.le_of_ble_eq_true rfl) trivial rfl ?_
        refine ADX.eff (tk := [1, 1000001]) (new := []) (s := .one (.int .i64 (((n - i) : Nat) : Int))) (F := [(54, .one (.int .i64 (((n - i) : Nat) : Int)))]) (Hin := [(1, .arr 2 (i + (n + 1 - i)) (fun ic_ jc_ => if i ≤ ic_ ∧ ic_ < i + 1 then (g : Nat → Nat → AV) (ic_ - i) jc_ else (fun ia_ ja_ => if ia_ < i then (f : Nat → Nat → AV) ia_ ja_ else .con (gg6 ia_ ja_) : Nat → Nat → AV) ic_ jc_)), (1000001, .arr 2 n f)]) (Hout := [(1, .arr 2 (i + (n + 1 - i)) (fun ic_ jc_ => if (i + 1) ≤ ic_ ∧ ic_ < (i + 1) + (n - i) then (fun a_ b_ => f (i + a_) b_ : Nat → Nat → AV) (ic_ - (i + 1)) jc_ else (fun ic_ jc_ => if i ≤ ic_ ∧ ic_ < i + 1 then (g : Nat → Nat → AV) (ic_ - i) jc_ else (fun ia_ ja_ => if ia_ < i then (f : Nat → Nat → AV) ia_ ja_ else .con (gg6 ia_ ja_) : Nat → Nat → AV) ic_ jc_ : Nat → Nat → AV) ic_ jc_)), (1000001, .arr 2 n f)]) (fun E X hE hX Q rest hk => ?_) ⟨rfl, rfl, trivial⟩ ⟨rfl, rfl⟩ rfl rfl rfl rfl trivial rfl (fun _ e => by cases e; exact Nat.le_of_ble_eq_true rfl) ?_
        · refine ARun.copyN (id := 1) (sz := 2) (q := i + 1) (n := (i + (n + 1 - i))) (m := (n - i)) (r := (n - i)) (f := fun ic_ jc_ => if i ≤ ic_ ∧ ic_ < i + 1 then (g : Nat → Nat → AV) (ic_ - i) jc_ else (fun ia_ ja_ => if ia_ < i then (f : Nat → Nat → AV) ia_ ja_ else .con (gg6 ia_ ja_) : Nat → Nat → AV) ic_ jc_) (g := fun a_ b_ => f (i + a_) b_) rfl vin_el_27_2 (by decide) (.tl (.tmp rfl)) rfl (SrcOk.tl (ob := (.arr 2 n (f))) (.tmp rfl) rfl rfl (Nat.le_refl _) rfl (fun _ _ _ _ => rfl)) (fun a_ b_ (ha_ : a_ < n - i) hb_ => by (try dsimp only); (repeat' split) <;> first | exact hf.oc _ _ hb_ | omega) (show n - i = min (n - i) ((i + (n + 1 - i)) - (i + 1)) from by omega) rfl (.inl rfl) (Nat.le_of_ble_eq_true rfl) ?_
          refine ARun.hleX ?_ ?_ hk
          · exact HeapLe.one rfl (HeapLe.one rfl trivial)
          · repeat (first | exact LkX.refl | refine LkX.cons (hX.none rfl) ?_ | refine LkX.filter (hX.none rfl) ?_)
        refine ADX.nil (H := [(1, .arr 2 (i + (n + 1 - i)) (fun ic_ jc_ => if (i + 1) ≤ ic_ ∧ ic_ < (i + 1) + (n - i) then (fun a_ b_ => f (i + a_) b_ : Nat → Nat → AV) (ic_ - (i + 1)) jc_ else (fun ic_ jc_ => if i ≤ ic_ ∧ ic_ < i + 1 then (g : Nat → Nat → AV) (ic_ - i) jc_ else (fun ia_ ja_ => if ia_ < i then (f : Nat → Nat → AV) ia_ ja_ else .con (gg6 ia_ ja_) : Nat → Nat → AV) ic_ jc_ : Nat → Nat → AV) ic_ jc_)), (1000001, .arr 2 n f), (1000003, .arr 2 1 g)]) ?_ ?_
        · exact HeapLe.one rfl (HeapLe.one rfl (HeapLe.one rfl trivial))
        refine AW.seq ?_
        refine AW.region ?_
        refine ARun.pure (PureOp.move rfl (.tmp rfl)) rfl rfl (Nat.le_of_ble_eq_true rfl) ?_
        refine ARun.pure (PureOp.assign rfl (.tmp rfl)) rfl rfl (Nat.le_of_ble_eq_true rfl) ?_
        refine ARun.nil ?_
        refine AW.moveRow 6 1 77 2 (i + (n + 1 - i)) rfl rfl rfl ⟨rfl, (by repeat first | exact trivial | refine ⟨by decide, by first | exact hf.no _ (by decide) | exact hg.no _ (by decide) | (intro a b; (try dsimp only); (repeat' split) <;> first | rfl | exact hf.no _ (by decide) _ _ | exact hg.no _ (by decide) _ _), ?_⟩)⟩ ?_
        refine AW.ret (show ResL _ _ [.tmp 6] _ ∧ HeapLe _ _ from ⟨resO rfl ?_, ⟨⟨_, rfl, rfl, (show n + 1 ≤ (i + (n + 1 - i)) from by omega), fun a b (ha : a < n + 1) hb => by show (fun ic_ jc_ => if (i + 1) ≤ ic_ ∧ ic_ < (i + 1) + (n - i) then (fun a_ b_ => f (i + a_) b_ : Nat → Nat → AV) (ic_ - (i + 1)) jc_ else (fun ic_ jc_ => if i ≤ ic_ ∧ ic_ < i + 1 then (g : Nat → Nat → AV) (ic_ - i) jc_ else (fun ia_ ja_ => if ia_ < i then (f : Nat → Nat → AV) ia_ ja_ else .con (gg6 ia_ ja_) : Nat → Nat → AV) ic_ jc_ : Nat → Nat → AV) ic_ jc_ : Nat → Nat → AV) a b = insF f g i a b; unfold insF; (try dsimp only); (repeat' split) <;> first | rfl | omega | exact congrArg (fun q => f q b) (by omega) | exact congrArg (fun q => g q b) (by omega)⟩, trivial⟩⟩)
        show _ = _
        omega
      · have _u := True.intro
        replace hb5 := of_decide_eq_false hb5
        refine AW.growK 1000001 2 n (n + 1) f rfl rfl (by omega) (fun gg0 => ?_)
        refine AW.skip ?_
        refine AW.seq ?_
        refine AW.region ?_
        refine ARun.pure (PureOp.move rfl (.tmp rfl)) rfl rfl (Nat.le_of_ble_eq_true rfl) ?_
        refine ARun.pure (PureOp.move rfl (.tmp rfl)) rfl rfl (Nat.le_of_ble_eq_true rfl) ?_
        refine ARun.pure (PureOp.move rfl (.tmp rfl)) rfl rfl (Nat.le_of_ble_eq_true rfl) ?_
        refine ARun.pure (PureOp.add (c := ((n + 1 : Nat) : Int)) rfl (.tmp rfl) (.tmp rfl) (by rw [wrap_id (by omega) (by omega)]; omega)) rfl rfl (Nat.le_of_ble_eq_true rfl) ?_
        refine ARun.pure (PureOp.growOwn (k := n + 1) rfl (.tmp rfl) (.tmp rfl) rfl rfl (Nat.le_refl _) vin_el_27_2) rfl rfl (Nat.le_of_ble_eq_true rfl) ?_
        refine ARun.pure (PureOp.assign rfl (.tmp rfl)) rfl rfl (Nat.le_of_ble_eq_true rfl) ?_
        refine ARun.nil ?_
        refine AW.seq ?_
        refine AW.seq ?_
        refine AW.region ?_
        refine ARun.pure (PureOp.move rfl (.tmp rfl)) rfl rfl (Nat.le_of_ble_eq_true rfl) ?_
        refine ARun.pure (PureOp.move rfl (.tmp rfl)) rfl rfl (Nat.le_of_ble_eq_true rfl) ?_
        refine ARun.pure (PureOp.move rfl (.tmp rfl)) rfl rfl (Nat.le_of_ble_eq_true rfl) ?_
        refine ARun.pure (PureOp.move rfl (.tmp rfl)) rfl rfl (Nat.le_of_ble_eq_true rfl) ?_
        refine ARun.pure (PureOp.add (c := ((i + 1 : Nat) : Int)) rfl (.tmp rfl) (.tmp rfl) (by rw [wrap_id (by omega) (by omega)]; omega)) rfl rfl (Nat.le_of_ble_eq_true rfl) ?_
        refine ARun.pure (PureOp.dropOwn (k := i + 1) rfl (.tmp rfl) (.tmp rfl) rfl (show _ ≤ _ from by omega) vin_el_27_2) rfl rfl (Nat.le_of_ble_eq_true rfl) ?_
        refine ARun.pure (PureOp.overlaps (fn := Try.f87) (tS := 27) (tR := 4) (id := 1000003) (id2 := 1000001) rfl Try.func87 (by kernel_rfl) (by kernel_rfl) (by kernel_rfl) (by kernel_rfl) vin_el_27_2 (by decide) (.tmp rfl) (.tmp rfl) (by omega) (by omega) rfl rfl rfl rfl (by decide)) rfl rfl (Nat.le_of_ble_eq_true rfl) ?_
        refine ARun.pure (PureOp.not rfl (.tmp rfl)) rfl rfl (Nat.le_of_ble_eq_true rfl) ?_
        refine ARun.nil ?_
        refine AW.cond (.tmp rfl) (fun hb7 => ?_) (fun hb7 => ?_)
        · have _u := True.intro
          refine AW.seq ?_
          refine AW.anyX [⟨[], [], [], []⟩, ⟨[], [], [], []⟩, ⟨[], [], [], []⟩, ⟨[], [], [], []⟩, ⟨[], [], [], []⟩, ⟨[], [], [], []⟩, ⟨[], [], [], []⟩, ⟨[], [], [], []⟩, ⟨[], [1000001], [], [(1000001, .arr 2 (n + 1) (fun ic_ jc_ => if (i + 1) ≤ ic_ ∧ ic_ < (i + 1) + (n - i) then (fun a_ b_ => if i + a_ < n then f (i + a_) b_ else .con (gg0 (i + a_) b_) : Nat → Nat → AV) (ic_ - (i + 1)) jc_ else (fun a_ b_ => if a_ < n then f a_ b_ else .con (gg0 a_ b_) : Nat → Nat → AV) ic_ jc_))]⟩] (by kernel_rfl) (by kernel_rfl) (by kernel_rfl) ⟨⟨.inl rfl, .inr (.inr trivial), .inr (.inr trivial), .inr (.inr trivial), .inr (.inr trivial), .inr (.inr trivial), .inr (.inr trivial), .inr (.inr trivial), .inr (.inr trivial), trivial⟩, ⟨.inr (.inr trivial), .inl rfl, .inr (.inr trivial), .inr (.inr trivial), .inr (.inr trivial), .inr (.inr trivial), .inr (.inr trivial), .inr (.inr trivial), .inr (.inr trivial), trivial⟩, ⟨.inr (.inr trivial), .inr (.inr trivial), .inl rfl, .inr (.inr trivial), .inr (.inr trivial), .inr (.inr trivial), .inr (.inr trivial), .inr (.inr trivial), .inr (.inr trivial), trivial⟩, ⟨.inr (.inr trivial), .inr (.inr trivial), .inr (.inr trivial), .inl rfl, .inr (.inr trivial), .inr (.inr trivial), .inr (.inr trivial), .inr (.inr trivial), .inr (.inr trivial), trivial⟩, ⟨.inr (.inr trivial), .inr (.inr trivial), .inr (.inr trivial), .inr (.inr trivial), .inl rfl, .inr (.inr trivial), .inr (.inr trivial), .inr (.inr trivial), .inr (.inr trivial), trivial⟩, ⟨.inr (.inr trivial), .inr (.inr trivial), .inr (.inr trivial), .inr (.inr trivial), .inr (.inr trivial), .inl rfl, .inr (.inr trivial), .inr (.inr trivial), .inr (.inr trivial), trivial⟩, ⟨.inr (.inr trivial), .inr (.inr trivial), .inr (.inr trivial), .inr (.inr trivial), .inr (.inr trivial), .inr (.inr trivial), .inl rfl, .inr (.inr trivial), .inr (.inr trivial), trivial⟩, ⟨.inr (.inr trivial), .inr (.inr trivial), .inr (.inr trivial), .inr (.inr trivial), .inr (.inr trivial), .inr (.inr trivial), .inr (.inr trivial), .inl rfl, .inr (.inr trivial), trivial⟩, ⟨.inr (.inr trivial), .inr (.inr trivial), .inr (.inr trivial), .inr (.inr trivial), .inr (.inr trivial), .inr (.inr trivial), .inr (.inr trivial), .inr (.inr trivial), .inl rfl, trivial⟩, trivial⟩ ⟨trivial, trivial, trivial, trivial, trivial, trivial, trivial, trivial, trivial, trivial⟩ ?_
          refine ADX.pure [] (PureOp.move rfl (.tmp rfl)) rfl rfl (Nat.le_of_ble_eq_true rfl) trivial rfl ?_
          refine ADX.pure [] (PureOp.move rfl (.tmp rfl)) rfl rfl (Nat.le_of_ble_eq_true rfl) trivial rfl ?_
          refine ADX.pure [] (PureOp.move rfl (.tmp rfl)) rfl rfl (Nat.le_of_ble_eq_true rfl) trivial rfl ?_
          refine ADX.pure [] (PureOp.add (c := ((i + 1 : Nat) : Int)) rfl (.tmp rfl) (.tmp rfl) (by rw [wrap_id (by omega) (by omega)]; omega)) rfl rfl (Nat.le_of_ble_eq_true rfl) trivial rfl ?_
          refine ADX.pure [] (PureOp.dropOwn (k := i + 1) rfl (.tmp rfl) (.tmp rfl) rfl (show _ ≤ _ from by omega) vin_el_27_2) rfl rfl (Nat.le_of_ble_eq_true rfl) trivial rfl ?_
          refine ADX.pure [] (PureOp.move rfl (.tmp rfl)) rfl rfl (Nat.le_of_ble_eq_true rfl) trivial rfl ?_
          refine ADX.pure [] (PureOp.move rfl (.tmp rfl)) rfl rfl (Nat.le_of_ble_eq_true rfl) trivial rfl ?_
          refine ADX.pure [] (PureOp.dropOwn (k := i) rfl (.tmp rfl) (.tmp rfl) rfl (show _ ≤ _ from by omega) vin_el_27_2) rfl rfl (Nat.le_of_ble_eq_true rfl) trivial rfl ?_
          refine ADX.eff (tk := [1000001]) (new := []) (s := .one (.int .i64 (((n - i) : Nat) : Int))) (F := [(77, .one (.int .i64 (((n - i) : Nat) : Int)))]) (Hin := [(1000001, .arr 2 (n + 1) (fun a_ b_ => if a_ < n then f a_ b_ else .con (gg0 a_ b_)))]) (Hout := [(1000001, .arr 2 (n + 1) (fun ic_ jc_ => if (i + 1) ≤ ic_ ∧ ic_ < (i + 1) + (n - i) then (fun a_ b_ => if i + a_ < n then f (i + a_) b_ else .con (gg0 (i + a_) b_) : Nat → Nat → AV) (ic_ - (i + 1)) jc_ else (fun a_ b_ => if a_ < n then f a_ b_ else .con (gg0 a_ b_) : Nat → Nat → AV) ic_ jc_))]) (fun E X hE hX Q rest hk => ?_) ⟨rfl, trivial⟩ ⟨rfl, rfl⟩ rfl rfl rfl rfl trivial rfl (fun _ e => by cases e; exact Nat.le_of_ble_eq_true rfl) ?_
          · refine ARun.copyN (id := 1000001) (sz := 2) (q := i + 1) (n := n + 1) (m := (n + 1 - i)) (r := (n - i)) (f := fun a_ b_ => if a_ < n then f a_ b_ else .con (gg0 a_ b_)) (g := fun a_ b_ => if i + a_ < n then f (i + a_) b_ else .con (gg0 (i + a_) b_)) rfl vin_el_27_2 (by decide) (.tl (.tmp rfl)) rfl (SrcOk.tl (ob := (.arr 2 (n + 1) (fun a_ b_ => if a_ < n then f a_ b_ else .con (gg0 a_ b_)))) (.tmp rfl) rfl rfl (show n + 1 ≤ (n + 1) from by omega) rfl (fun _ _ _ _ => rfl)) (fun a_ b_ (ha_ : a_ < n - i) hb_ => by (try dsimp only); (repeat' split) <;> first | exact hf.oc _ _ hb_ | omega) (show n - i = min (n + 1 - i) (n + 1 - (i + 1)) from by omega) rfl (.inl rfl) (Nat.le_of_ble_eq_true rfl) ?_
            refine ARun.hleX ?_ ?_ hk
            · exact HeapLe.one rfl trivial
            · repeat (first | exact LkX.refl | refine LkX.cons (hX.none rfl) ?_ | refine LkX.filter (hX.none rfl) ?_)
          refine ADX.nil (H := [(1000001, .arr 2 (n + 1) (fun ic_ jc_ => if (i + 1) ≤ ic_ ∧ ic_ < (i + 1) + (n - i) then (fun a_ b_ => if i + a_ < n then f (i + a_) b_ else .con (gg0 (i + a_) b_) : Nat → Nat → AV) (ic_ - (i + 1)) jc_ else (fun a_ b_ => if a_ < n then f a_ b_ else .con (gg0 a_ b_) : Nat → Nat → AV) ic_ jc_)), (1000003, .arr 2 1 g)]) ?_ ?_
          · exact HeapLe.one rfl (HeapLe.one rfl trivial)
          refine AW.seq ?_
          refine AW.region ?_
          refine ARun.pure (PureOp.move rfl (.tmp rfl)) rfl rfl (Nat.le_of_ble_eq_true rfl) ?_
          refine ARun.pure (PureOp.move rfl (.tmp rfl)) rfl rfl (Nat.le_of_ble_eq_true rfl) ?_
          refine ARun.pure (PureOp.dropOwn (k := i) rfl (.tmp rfl) (.tmp rfl) rfl (show _ ≤ _ from by omega) vin_el_27_2) rfl rfl (Nat.le_of_ble_eq_true rfl) ?_
          refine ARun.pure (PureOp.move rfl (.tmp rfl)) rfl rfl (Nat.le_of_ble_eq_true rfl) ?_
          refine ARun.copyN (id := 1000001) (sz := 2) (q := i) (n := n + 1) (m := 1) (r := 1) (f := fun ic_ jc_ => if (i + 1) ≤ ic_ ∧ ic_ < (i + 1) + (n - i) then (fun a_ b_ => if i + a_ < n then f (i + a_) b_ else .con (gg0 (i + a_) b_) : Nat → Nat → AV) (ic_ - (i + 1)) jc_ else (fun a_ b_ => if a_ < n then f a_ b_ else .con (gg0 a_ b_) : Nat → Nat → AV) ic_ jc_) (g := g) rfl vin_el_27_2 (by decide) (.tl (.tmp rfl)) rfl (SrcOk.of (.own (.tmp rfl) rfl rfl (Nat.le_refl _) (fun _ _ _ _ => rfl))) (fun _ _ _ hj_ => hg.oc _ _ hj_) (show 1 = min 1 (n + 1 - i) from by omega) rfl (.inl rfl) (Nat.le_of_ble_eq_true rfl) ?_
          refine ARun.nil ?_
          refine AW.seq ?_
          refine AW.region ?_
          refine ARun.pure (PureOp.move rfl (.tmp rfl)) rfl rfl (Nat.le_of_ble_eq_true rfl) ?_
          refine ARun.pure (PureOp.assign rfl (.tmp rfl)) rfl rfl (Nat.le_of_ble_eq_true rfl) ?_
          refine ARun.nil ?_
          refine AW.moveRow 6 1000001 77 2 (n + 1) rfl rfl rfl ⟨rfl, (by repeat first | exact trivial | refine ⟨by decide, by first | exact hf.no _ (by decide) | exact hg.no _ (by decide) | (intro a b; (try dsimp only); (repeat' split) <;> first | rfl | exact hf.no _ (by decide) _ _ | exact hg.no _ (by decide) _ _), ?_⟩)⟩ ?_
          refine AW.ret (show ResL _ _ [.tmp 6] _ ∧ HeapLe _ _ from ⟨resO rfl ?_, ⟨⟨_, rfl, rfl, (show n + 1 ≤ n + 1 from by omega), fun a b (ha : a < n + 1) hb => by show (fun ic_ jc_ => if i ≤ ic_ ∧ ic_ < i + 1 then (g : Nat → Nat → AV) (ic_ - i) jc_ else (fun ic_ jc_ => if (i + 1) ≤ ic_ ∧ ic_ < (i + 1) + (n - i) then (fun a_ b_ => if i + a_ < n then f (i + a_) b_ else .con (gg0 (i + a_) b_) : Nat → Nat → AV) (ic_ - (i + 1)) jc_ else (fun a_ b_ => if a_ < n then f a_ b_ else .con (gg0 a_ b_) : Nat → Nat → AV) ic_ jc_ : Nat → Nat → AV) ic_ jc_ : Nat → Nat → AV) a b = insF f g i a b; unfold insF; (try dsimp only); (repeat' split) <;> first | rfl | omega | exact congrArg (fun q => f q b) (by omega) | exact congrArg (fun q => g q b) (by omega)⟩, trivial⟩⟩)
          show _ = _
          omega
        · have _u := True.intro
          exact absurd hb7 (by decide)
          --end
end Go.Proofs.Ytmfkmifkkplidaa

