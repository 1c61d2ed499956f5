/-
  Part 3 of the proof: the texts of a seat's own library, joined.
-/
import Derived.Maps.AppendAt
import Derived.Lib.AppendZerosOnto
import Derived.Lib.AppendZeros
import Derived.WalkSpells
import Derived.Shelf.Abstract
import Derived.Deep.AppendLies
import Derived.Laws.CopyOwn
import Derived.Test.YtmkhahiefdcinaaZd1
import Derived.Test.YtmkhahiefdcinaaZd2
/-
  A calculus for walks, part 29: parts of data, rows of two numbers, a row of rows opened, slots of fresh data.
-/
namespace Go.Proofs.Ytmkhahiefdcinaa
open Go.ChangeShapes Go.WideShapes Go.ChangeAt Go.RowKit Go.BigFrame Go.Deep
set_option linter.unusedVariables false

set_option linter.unusedSimpArgs false
section
variable {P : Program} {σ : Sig} {o : Oper}
/-- Data without its first entries. -/
theorem PureOp.dropLst {t : TypeId} {x y : Operand} {sz n k : Nat} {f : Nat → Nat → AV} {m : Int} {kd : IntKind} (ho : o.op = .slice t x (some y) none none) (hx : Kn σ x (.one (.lst sz n f))) (hy : Kn σ y (.one (.int kd m))) (hm : m = (k : Int)) (hk : k ≤ n) (ht : elemB P t sz = true) : PureOp P o σ (.one (.lst sz (n - k) fun i j => f (i + k) j)) := by
  subst hm
  refine PureOp.val fun N w0 ρ S ac w hs => ?_
  obtain ⟨A, c, e1, h1, h2, h3, h4⟩ := hx.sound hs
  have e2 : ac.eval y = .int kd (k : Int) := hy.sound hs
  obtain ⟨e, i, hu, hi, hsz⟩ := elemB_spec ht
  refine ⟨.slice (if c = k then A else A.map (·.add (k * i.size))) (n - k) (c - k), ⟨_, _, rfl, by omega, by omega, fun hA => ?_, fun r hr => ?_⟩, fun w' _ => ?_⟩
  · by_cases hc : c = k
    · omega
    · rw [if_neg hc] at hA
      have : A = none := by cases A <;> first | rfl | cases hA
      have := h3 this; omega
  · obtain ⟨b, off, hA, hS, hc⟩ := h4 (r + k) (by omega)
    refine ⟨b, off + k * sz, ?_, hS, fun j hj => ?_⟩
    · rw [if_neg (by omega), hA, ← hsz]; simp [Addr.add]
    · obtain ⟨u, hu, hd⟩ := hc j hj
      exact ⟨u, by rw [← hu]; congr 2; rw [Nat.add_mul]; omega, hd⟩
  generalize ac.eval = ev at e1 e2 ⊢
  have hk2 : (k : Int) ≤ (n : Int) := by omega
  have hr : (Instr.sliceAt t (.slice A n c) (some (.int kd (k : Int))) none none).run P w' = .ok (.slice (if c = k then A else A.map (·.add (k * i.size))) (n - k) (c - k)) w' := by
    simp [Instr.sliceAt, Instr.slice, run_underlying hu, Instr.sliceBounds, Instr.sliceBound, asIntOf, hk2, hk, run_sizeOf' hi, go_sem]
    try (intro hlt; omega)
  simp only [execOp, ho, e1, e2, Option.map_some, Option.map_none]
  rw [Sem.run_bind, hr]
  rfl
/-- The first k of data. -/
theorem PureOp.takeLst {t : TypeId} {x y : Operand} {sz n k : Nat} {f : Nat → Nat → AV} {m : Int} {kd : IntKind} (ho : o.op = .slice t x none (some y) none) (hx : Kn σ x (.one (.lst sz n f))) (hy : Kn σ y (.one (.int kd m))) (hm : m = (k : Int)) (hk : k ≤ n) (ht : elemB P t sz = true) : PureOp P o σ (.one (.lst sz k f)) := by
  subst hm
  refine PureOp.val fun N w0 ρ S ac w hs => ?_
  obtain ⟨A, c, e1, h1, h2, h3, h4⟩ := hx.sound hs
  have e2 : ac.eval y = .int kd (k : Int) := hy.sound hs
  obtain ⟨e, i, hu, hi, hsz⟩ := elemB_spec ht
  refine ⟨.slice A k c, ⟨A, c, rfl, by omega, h2, h3, fun r hr => h4 r (by omega)⟩, fun w' _ => ?_⟩
  generalize ac.eval = ev at e1 e2 ⊢
  have hle : (0 : Int) ≤ (k : Int) ∧ (k : Int) ≤ (c : Int) := by omega
  simp only [execOp, ho, e1, e2, Option.map_some, Option.map_none]
  have hr : (Instr.sliceAt t (.slice A n c) none (some (.int kd (k : Int))) none).run P w' = .ok (.slice A k c) w' := by
    have hA : (if c = 0 then A else A.map (·.add (0 * i.size))) = A := by
      cases A with
      | none => simp
      | some a => simp [Addr.add]
    have hk2 : (k : Int) ≤ (c : Int) := hle.2
    simp only [Nat.zero_mul] at hA
    simp [Instr.sliceAt, Instr.slice, run_underlying hu, Instr.sliceBounds, Instr.sliceBound, asIntOf, hk2, run_sizeOf' hi, go_sem]
    try exact hA
    try (intro hlt; omega)
  rw [Sem.run_bind, hr]
  rfl
/-- A row of two numbers. -/
theorem FreshOp.pair {t e : Nat} {x y : Operand} {a1 a2 : Int} (ho : o.op = .buildSlice t 2 #[(0, x), (1, y)]) (hx : Kn σ x (.one (.int .i64 a1))) (hy : Kn σ y (.one (.int .i64 a2)))
    (ht : P.underlying t = some (.slice e)) (hz : (P.info? e).map (fun i => (i.size, i.zero)) = some (1, some (.int .i64 0))) : FreshOp P o σ (.one (.frs (.lst 1 2 fun i _ => .int .i64 (if i = 0 then a1 else a2)))) := by
  constructor
  intro N w0 ρ S a w K Q' hs hK
  have e1 : a.eval x = .int .i64 a1 := hx.sound hs
  have e2 : a.eval y = .int .i64 a2 := hy.sound hs
  obtain ⟨i, hi, hi2⟩ := Option.map_eq_some_iff.1 hz
  simp only [Prod.mk.injEq] at hi2
  obtain ⟨z1, z2⟩ := hi2
  have er : (execOp a.eval o).run P w = .ok (.value (.slice (some ⟨w.heap.size, 0, none⟩) 2 2)) (w.alloc (.cells #[.int .i64 a1, .int .i64 a2] e)) := by
    generalize a.eval = ev at e1 e2 ⊢
    simp [execOp, ho, Instr.buildSlice, run_underlying ht, sizeOf, typeInfo, hi, z1, z2, zeroValue, e1, e2, go_sem]
  unfold Oper.wp
  rw [er]
  have hb : Below w.heap.size w (w.alloc (.cells #[.int .i64 a1, .int .i64 a2] e)) := (Below.refl _ _).alloc (Nat.le_refl _) _
  obtain ⟨g1, g2⟩ := hs.grow hb
  have hlt : ρ.base ≤ w.heap.size := by rw [hs.mem.base]; exact hs.mem.low
  refine hK _ _ _ g1 hb (fun b h => h.imp (fun h => h) (fun h => h.1)) g2 ⟨_, _, rfl, Nat.le_refl _, by decide, (fun h => by cases h), fun j hj => ⟨w.heap.size, 0, rfl, ⟨.inr ⟨Nat.le_refl _, by rw [World.heap_alloc, Array.size_push]; omega⟩, hlt⟩, fun q hq => ?_⟩⟩
  obtain rfl : q = 0 := by omega
  have hcell : ∀ p, (w.alloc (.cells #[.int .i64 a1, .int .i64 a2] e)).cell? ⟨w.heap.size, p, none⟩ = (#[Value.int .i64 a1, .int .i64 a2])[p]? := fun p => by simp [World.cell?, World.heap_alloc]
  by_cases hj0 : j = 0
  · subst hj0
    exact ⟨.int .i64 a1, by rw [hcell]; rfl, rfl⟩
  · obtain rfl : j = 1 := by omega
    exact ⟨.int .i64 a2, by rw [hcell]; rfl, rfl⟩
end
section
variable {P : Program} {N : Nat} {w0 : Start} {σ : Sig} {ops : Array Oper} {rest : List Oper} {o : Oper} {Q : Sig → Prop}
/-- A tree that is a row of trees becomes a row of the walk's own, its entries a family. -/
theorem St.openRow2 {ρ : Rho} {S : Nat → Prop} {a : Act} {w : World} (hs : St N w0 ρ S σ a w) {t K q m n id L : Nat} {X : Nat → AV} {f : Nat → Nat → AV} (ht : σ.env.lookup t = some (.one (.tre K q))) (hK : σ.heap.lookup K = some (.trees m X)) (hq : q < m) (hX : X q = .lst 1 n f)
    (hlst : ∀ i, i < n → ∃ s k g, f i 0 = .lst s k g) (hf : Fr id σ) (hL : Fr L σ) (hne : id ≠ L) : ∃ ρ', St N w0 ρ' S ⟨(t, .one (.own id 1 n)) :: σ.env, (id, .arr 1 n fun i _ => .tre L i) :: (L, .trees n fun i => f i 0) :: σ.heap.filter fun p => p.1 != K⟩ a w := by
  obtain ⟨ev, _⟩ := hs.env _ _ ht
  obtain ⟨t1, t2⟩ := hs.mem.tree K m X hK q hq
  rw [hX] at t1
  rw [← ev] at t1
  unfold Tr at t1
  obtain ⟨A, c, e, hnc, hcm, hcase⟩ := t1
  obtain ⟨b, cs, F, hA, hblk, hcell, hFd⟩ : ∃ (b : Nat) (cs : Array Value) (F : Nat → Nat → Prop), (A = some ⟨b, 0, none⟩ ∨ (A = none ∧ c = 0)) ∧ (c ≠ 0 → ρ.tb K q b ∧ (∃ e, w.heap[b]? = some (.cells cs e (0, 0))) ∧ cs.size = c * 1) ∧
      (∀ i, i < n → (∀ p, F i p → ρ.tb K q p ∧ p ≠ b) ∧ ∃ u, cs[i]? = some u ∧ Tr w (f i 0) u (F i)) ∧ ∀ i i', i < n → i' < n → i ≠ i' → ∀ p, F i p → ¬ F i' p := by
    rcases hcase with ⟨rfl, hA⟩ | ⟨b, cs, e', g1, g2, g3, g4, F, g5, g6⟩
    · rcases hA with hA | ⟨b, hA⟩
      · exact ⟨0, #[], fun _ _ => False, .inr ⟨hA, rfl⟩, fun h => absurd rfl h, fun i hi => absurd hi (by omega), fun i i' hi => absurd hi (by omega)⟩
      · exact ⟨b, #[], fun _ _ => False, .inl hA, fun h => absurd rfl h, fun i hi => absurd hi (by omega), fun i i' hi => absurd hi (by omega)⟩
    · refine ⟨b, cs, fun i => F i 0, .inl g1, fun _ => ⟨g2, ⟨e', g3⟩, g4⟩, fun i hi => ?_, fun i i' hi hi' hne p h1 => g6 i 0 i' 0 hi (by omega) hi' (by omega) (fun e => hne e.1) p h1⟩
      obtain ⟨k1, u, hu, hT⟩ := g5 i 0 hi (by omega)
      exact ⟨k1, u, by simpa using hu, hT⟩
  let ρ' : Rho := ⟨fun k => if k = id then (b, c) else if k = L then (0, 0) else ρ k, ρ.base, fun k i => if k = L then cs.getD i undef else ρ.tv k i, fun k i => if k = L then F i else ρ.tb k i, fun k => if k = L then n else ρ.tn k⟩
  refine ⟨ρ', ?_⟩
  have hρA : ∀ k, k ≠ id → k ≠ L → Rho.At ρ ρ' k := fun k hk hk' => ⟨(if_neg hk).trans (if_neg hk'), by funext i; simp [ρ', hk'], by funext i; simp [ρ', hk'], by simp [ρ', hk']⟩
  have hmL : ρ' L = (0, 0) := (if_neg (Ne.symm hne)).trans (if_pos rfl)
  have hmid : ρ' id = (b, c) := if_pos rfl
  have hm : ∀ k, k ≠ id → k ≠ L → ρ' k = ρ k := fun k hk hk' => (if_neg hk).trans (if_neg hk')
  have hkeep : ∀ {x : AV} {u : Value}, x.no id = true → x.no L = true → R ρ w S x u → R ρ' w S x u := fun {x u} hx hx' hr => hr.keep (ρ := ρ) (Same.refl _ _) ⟨rfl, fun p => by
    by_cases hp : p = id
    · subst hp; exact .inr hx
    · by_cases hp' : p = L
      · subst hp'; exact .inr hx'
      · exact .inl (hρA p hp hp')⟩
  have hget : ∀ k p, (σ.heap.filter fun p => p.1 != K).lookup k = some p → σ.heap.lookup k = some p ∧ k ≠ K ∧ k ≠ id ∧ k ≠ L ∧ p.No id ∧ p.No L := fun k p hp => by
    obtain ⟨f1, f2⟩ := filter_lookup hp
    exact ⟨f2, f1, (hf.heap.get f2).1, (hL.heap.get f2).1, (hf.heap.get f2).2, (hL.heap.get f2).2⟩
  have cases3 : ∀ {k : Nat} {p : AObj}, ((id, AObj.arr 1 n fun i _ => .tre L i) :: (L, AObj.trees n fun i => f i 0) :: σ.heap.filter fun p => p.1 != K).lookup k = some p → (k = id ∧ p = .arr 1 n fun i _ => .tre L i) ∨ (k = L ∧ p = .trees n fun i => f i 0) ∨ (σ.heap.filter fun p => p.1 != K).lookup k = some p := fun {k p} hp => by
    rcases lookup_put hp with ⟨rfl, rfl⟩ | ⟨_, hp⟩
    · exact .inl ⟨rfl, rfl⟩
    · rcases lookup_put hp with ⟨rfl, rfl⟩ | ⟨_, hp⟩
      · exact .inr (.inl ⟨rfl, rfl⟩)
      · exact .inr (.inr hp)
  have htL : ∀ i, i < n → Tr w (f i 0) (ρ'.tv L i) (F i) := fun i hi => by
    obtain ⟨_, u, hu, hT⟩ := hcell i hi
    show Tr w (f i 0) (if L = L then cs.getD i undef else _) (F i)
    rw [if_pos rfl, Array.getD_eq_getD_getElem?, hu]; exact hT
  refine ⟨hs.size, hs.defers, ⟨hs.below.old, hs.below.same, fun k hk => (hs.below.ids k hk).trans (hρA k (fun e => by have := hf.small; omega) (fun e => by have := hL.small; omega))⟩, ⟨hs.mem.base, hs.mem.low, hs.mem.lt, ?_, ?_, ?_, ?_⟩, fun t' s ht' => ?_⟩
  · intro k p hp
    rcases cases3 hp with ⟨rfl, rfl⟩ | ⟨rfl, rfl⟩ | hp
    · rw [hmid]; exact hnc
    · exact Nat.zero_le _
    · obtain ⟨h1, _, h3, h4, _⟩ := hget k p hp
      rw [hm k h3 h4]; exact hs.mem.cap k p h1
  · intro k p hp hc
    rcases cases3 hp with ⟨rfl, rfl⟩ | ⟨rfl, rfl⟩ | hp
    · rw [hmid] at hc ⊢
      obtain ⟨g1, ⟨e', g2⟩, g3⟩ := hblk hc
      obtain ⟨q1, q2, q3, _⟩ := t2 b g1
      refine ⟨cs, e', g2, g3, hnc, hcm, q1, q3, fun i j hi hj => ?_⟩
      have hi : i < n := hi
      obtain rfl : j = 0 := by have : j < 1 := hj; omega
      obtain ⟨_, u, hu, hT⟩ := hcell i hi
      refine ⟨u, by simpa [AObj.sz] using hu, ?_⟩
      show u = (if L = L then cs.getD i undef else _) ∧ i < (if L = L then n else _) ∧ _
      rw [if_pos rfl, if_pos rfl]
      refine ⟨by rw [Array.getD_eq_getD_getElem?, hu]; rfl, hi, ?_⟩
      obtain ⟨s, k, g, hg⟩ := hlst i hi
      rw [hg] at hT
      obtain ⟨A', c', e'', _⟩ := hT
      exact ⟨A', k, c', e''⟩
    · exact absurd (by rw [hmL]) hc
    · obtain ⟨h1, _, h3, h4, h5, h6⟩ := hget k p hp
      rw [hm k h3 h4] at hc ⊢
      obtain ⟨cs2, e2, g1, g2, g3, g4, g5, g6, g7⟩ := hs.mem.obj k p h1 hc
      refine ⟨cs2, e2, g1, g2, g3, g4, g5, g6, fun i j hi hj => ?_⟩
      obtain ⟨u, hu, hr⟩ := g7 i j hi hj
      exact ⟨u, hu, hkeep (h5.at_ i j) (h6.at_ i j) hr⟩
  · have key : ∀ k p, (σ.heap.filter fun p => p.1 != K).lookup k = some p → (ρ k).2 ≠ 0 → c ≠ 0 → (ρ k).1 ≠ b := fun k p hp hk hc => (t2 b (hblk hc).1).2.2.2.1 k p (hget k p hp).1 hk
    intro k k' p p' hp hp' hne' hc hc'
    rcases cases3 hp with ⟨rfl, rfl⟩ | ⟨rfl, rfl⟩ | hpp
    · rcases cases3 hp' with ⟨rfl, rfl⟩ | ⟨rfl, rfl⟩ | hp'
      · exact absurd rfl hne'
      · exact absurd (by rw [hmL]) hc'
      · obtain ⟨h1, _, h3, h4, _⟩ := hget k' p' hp'
        rw [hmid] at hc ⊢
        rw [hm k' h3 h4] at hc' ⊢
        exact fun e => key k' p' hp' hc' hc e.symm
    · exact absurd (by rw [hmL]) hc
    · have hp2 := hpp
      obtain ⟨h1, _, h3, h4, _⟩ := hget k p hp2
      rw [hm k h3 h4] at hc ⊢
      rcases cases3 hp' with ⟨rfl, rfl⟩ | ⟨rfl, rfl⟩ | hp'
      · rw [hmid] at hc' ⊢
        exact key k p hp2 hc hc'
      · exact absurd (by rw [hmL]) hc'
      · obtain ⟨h1', _, h3', h4', _⟩ := hget k' p' hp'
        rw [hm k' h3' h4'] at hc' ⊢
        exact hs.mem.inj k k' p p' h1 h1' hne' hc hc'
  · intro k n' Y hY
    rcases cases3 hY with ⟨_, e⟩ | ⟨rfl, e⟩ | hY
    · cases e
    · cases e
      refine ⟨if_pos rfl, fun i hi => ⟨?_, fun p hp => ?_⟩⟩
      · show Tr w (f i 0) _ (if k = k then F i else _)
        rw [if_pos rfl]; exact htL i hi
      · have hpF : F i p := by
          have : (if k = k then F i else ρ.tb k i) p := hp
          rwa [if_pos rfl] at this
        obtain ⟨k1, _⟩ := hcell i hi
        obtain ⟨g1, g2⟩ := k1 p hpF
        obtain ⟨q1, q2, q3, q4, q5⟩ := t2 p g1
        refine ⟨q1, q2, q3, fun id' o ho hc => ?_, fun id' m' Y' i' hY' hi' hne' => ?_⟩
        · rcases cases3 ho with ⟨rfl, rfl⟩ | ⟨rfl, rfl⟩ | ho
          · rw [hmid]; exact fun e => g2 e.symm
          · exact absurd (by rw [hmL]) hc
          · obtain ⟨h1, _, h3, h4, _⟩ := hget id' o ho
            rw [hm id' h3 h4] at hc ⊢
            exact q4 id' o h1 hc
        · rcases cases3 hY' with ⟨_, e⟩ | ⟨rfl, e⟩ | hY'
          · cases e
          · cases e
            show ¬ (if id' = id' then F i' else ρ.tb id' i') p
            rw [if_pos rfl]
            exact hFd i i' hi hi' (fun e => hne' ⟨rfl, e.symm⟩) p hpF
          · obtain ⟨h1, h2, h3, h4, _⟩ := hget id' _ hY'
            show ¬ (if id' = k then F i' else ρ.tb id' i') p
            rw [if_neg h4]
            exact q5 id' m' Y' i' h1 hi' (fun e => h2 e.1)
    · obtain ⟨h1, h2, h3, h4, _⟩ := hget k _ hY
      refine ⟨(if_neg h4).trans (hs.mem.tree0 k n' Y h1).1, fun i hi => ?_⟩
      have a1 := hρA k h3 h4
      obtain ⟨t3, t4⟩ := hs.mem.tree k n' Y h1 i hi
      rw [a1.v, a1.b]
      refine ⟨t3, fun p hp => ?_⟩
      obtain ⟨q1, q2, q3, q4, q5⟩ := t4 p hp
      refine ⟨q1, q2, q3, fun id' o ho hc => ?_, fun id' m' Y' i' hY' hi' hne' => ?_⟩
      · rcases cases3 ho with ⟨rfl, rfl⟩ | ⟨rfl, rfl⟩ | ho
        · rw [hmid] at hc ⊢
          intro e
          have e : b = p := e
          subst e
          exact q5 K m X q hK hq (fun e => h2 e.1.symm) (hblk hc).1
        · exact absurd (by rw [hmL]) hc
        · obtain ⟨g1, _, g3, g4, _⟩ := hget id' o ho
          rw [hm id' g3 g4] at hc ⊢
          exact q4 id' o g1 hc
      · rcases cases3 hY' with ⟨_, e⟩ | ⟨rfl, e⟩ | hY'
        · cases e
        · cases e
          show ¬ (if id' = id' then F i' else ρ.tb id' i') p
          rw [if_pos rfl]
          intro hp'
          exact q5 K m X q hK hq (fun e => h2 e.1.symm) ((hcell i' hi').1 p hp').1
        · obtain ⟨g1, _, g3, g4, _⟩ := hget id' _ hY'
          rw [(hρA id' g3 g4).b]
          exact q5 id' m' Y' i' g1 hi' hne'
  · rcases lookup_put ht' with ⟨rfl, rfl⟩ | ⟨_, ht2⟩
    · show ∃ B, _ = Value.slice B n (ρ' id).2 ∧ n ≤ (ρ' id).2 ∧ (ρ' id).2 ≤ maxLen ∧ (B = some ⟨(ρ' id).1, 0, none⟩ ∨ (B = none ∧ (ρ' id).2 = 0))
      rw [hmid]
      exact ⟨A, e, hnc, hcm, hA⟩
    · exact (hs.env t' s ht2).keep (ρ := ρ) (Same.refl _ _) ⟨rfl, fun p => by
        by_cases hp : p = id
        · subst hp; exact .inr (List.all_eq_true.1 hf.env _ (lookup_mem ht2))
        · by_cases hp' : p = L
          · subst hp'; exact .inr (List.all_eq_true.1 hL.env _ (lookup_mem ht2))
          · exact .inl (hρA p hp hp')⟩
theorem ARun.openRow2 (t K q m n id L : Nat) (X : Nat → AV) (f : Nat → Nat → AV) (ht : σ.env.lookup t = some (.one (.tre K q))) (hK : σ.heap.lookup K = some (.trees m X)) (hq : q < m) (hX : X q = .lst 1 n f)
    (hlst : ∀ i, i < n → ∃ s k g, f i 0 = .lst s k g) (hf : Fr id σ) (hL : Fr L σ) (hne : id ≠ L) (h : ARun P N w0 ops Q rest ⟨(t, .one (.own id 1 n)) :: σ.env, (id, .arr 1 n fun i _ => .tre L i) :: (L, .trees n fun i => f i 0) :: σ.heap.filter fun p => p.1 != K⟩) : ARun P N w0 ops Q rest σ := by
  intro ρ S a w Q' hQ hs
  obtain ⟨ρ', hs'⟩ := hs.openRow2 ht hK hq hX hlst hf hL hne
  exact h ρ' S a w Q' hQ hs'
end
end Go.Proofs.Ytmkhahiefdcinaa

/-
  Contracts of the laws' own helpers over events: to, eq, sz.
-/
namespace Go.Proofs.Ytmkhahiefdcinaa
open Go.ChangeShapes Go.WideShapes Go.ChangeAt Go.RowKit Go.BigFrame Go.Deep
set_option linter.unusedVariables false

theorem toEvent_any (e : P2) (w : World) :
    Calls Try.prog 47 #[.agg #[.int .i64 e.a, .int .i64 e.b]] w fun x w' => x = .returned (.agg #[.int .i64 e.a, .int .i64 e.b]) ∧ Below w.heap.size w w' := by
  go_enter Try.func47, Try.ntmps47
  go_wp2
  refine bodyPost_ret (v := .agg #[.int .i64 e.a, .int .i64 e.b]) (by simp [results, Try.results47, go_sem]) rfl ⟨rfl, ?_⟩
  repeat first | exact Below.refl _ _ | apply Below.drew | refine Below.alloc ?_ (by simp <;> omega) _ | refine Below.setCell ?_ (by simp) _

theorem infoEvent : (Try.prog.info? 64).map (fun i => (i.zero, i.size, i.bytes)) = some (some (.agg #[.int .i64 0, .int .i64 0]), 2, 16) := by kernel_rfl

theorem toEventS_any (l : List P2) (w : World) (S : Nat → Prop) (hS : ∀ b, S b → b < w.heap.size) (A : Option Addr) (n c : Nat) (h : RepL w S l A n c) (hn : n ≤ 1048576) :
    Calls Try.prog 12 #[.slice A n c] w fun e w' => ∃ A' c', e = .returned (.slice A' n c') ∧ w'.ownsRow w.heap.size 64 2 (.slice A' n c') n (encs l) ∧ RepL w' (fun b => w.heap.size ≤ b ∧ b < w'.heap.size) l A' n c' ∧ Below w.heap.size w w' := by
  obtain ⟨i0, hi, hz0, hz1, hz2⟩ := info_parts infoEvent
  have hbd := h.bd
  have hmk := fun W => run_make_rowN (P := Try.prog) 26 64 i0 _ Try.underlying26 hi hz0 .i64 .i64 n n (Nat.le_refl _) (by rw [hz2]; omega) (by omega) W
  go_enter Try.func12, Try.ntmps12
  go_wp2
  go_loopw [4] (fun i wr => ∃ k : Nat, k ≤ n ∧ i = .int .i64 k ∧ wr.ownsRow w.heap.size 64 2 (.slice (some ⟨w.heap.size, 0, none⟩) n n) n (fill l k) ∧ Below w.heap.size w wr) (fun i _ => n - (intOf i).toNat)
  case atStart => exact ⟨0, Nat.zero_le _, rfl, own_made w _ _ l rfl rfl h.1 (by omega), (Below.refl _ _).alloc (Nat.le_refl _) _⟩
  case round =>
    obtain ⟨k, hk, rfl, hown, hbel⟩ := hrel
    obtain ⟨rfl, -⟩ := id h
    by_cases hlt : k < l.length
    · obtain ⟨b, off, xs, rfl, hSb, hc, rfl, hi1⟩ := h.at_ hlt
      have hc0 : wr.cell? ⟨b, off + k * 2, none⟩ = some (.int .i64 l[k].a) := (hbel.cell (hS _ hSb)).trans (hc 0 _ rfl)
      have hc1 : wr.cell? ⟨b, off + k * 2 + 1, none⟩ = some (.int .i64 l[k].b) := (hbel.cell (hS _ hSb)).trans (hc 1 _ rfl)
      clear hc
      go_wp2_with (go_at_call 47; refine (toEvent_any l[k] _).mono ?_; rintro e w1 ⟨rfl, hb1⟩; (have hown1 := own_below hown hb1); (obtain ⟨u0, hu0⟩ := own_cell hown1 (j := k * 2) (by omega)); (obtain ⟨u1, hu1⟩ := own_cell hown1 (j := k * 2 + 1) (by omega)); (have hf0 := hown1.frozenAt (k * 2)); (have hf1 := hown1.frozenAt (k * 2 + 1)))
      go_roundw
      case rel =>
        have h2 := ((hown1.stored (k * 2) (.int .i64 l[k].a)).1.stored (k * 2 + 1) (.int .i64 l[k].b)).1
        refine ⟨k + 1, by omega, by go_num, ?_, ?_⟩
        · rw [← fill_step l k hlt]; exact h2
        · exact (((hbel.trans (hb1.mono hbel.size)).setCell (Nat.le_refl _) _).setCell (Nat.le_refl _) _)
      case measure => simp [intOf]; omega
    · go_wp2
      go_ret
      obtain rfl : k = l.length := by omega
      rw [fill_all] at hown
      obtain ⟨A', c', e, hr⟩ := RepL.of_own rfl hown h.ok
      simp only [Value.slice.injEq] at e
      obtain ⟨rfl, -, rfl⟩ := e
      exact ⟨_, _, rfl, hown, hr, hbel⟩

theorem eqEvent_any (e f : P2) (r : Bool) (hr : decide (e = f) = r) (w : World) :
    Calls Try.prog 51 #[.agg #[.int .i64 e.a, .int .i64 e.b], .agg #[.int .i64 f.a, .int .i64 f.b]] w fun x w' => x = .returned (.bool r) ∧ Below w.heap.size w w' := by
  obtain ⟨a0, b0⟩ := e
  obtain ⟨a1, b1⟩ := f
  subst hr
  go_enter Try.func51, Try.ntmps51
  go_wp2
  all_goals
    go_ret
    refine ⟨by simp_all [P2.mk.injEq], ?_⟩
    repeat first | exact Below.refl _ _ | apply Below.drew | refine Below.alloc ?_ (by simp <;> omega) _ | refine Below.setCell ?_ (by simp) _

theorem eqEventS_any (l l' : List P2) (w : World) (S : Nat → Prop) (hS : ∀ b, S b → b < w.heap.size) (A A' : Option Addr) (n c n' c' : Nat) (h : RepL w S l A n c) (h' : RepL w S l' A' n' c') :
    Calls Try.prog 14 #[.slice A n c, .slice A' n' c'] w fun e w' => e = .returned (.bool (decide (l = l'))) ∧ Below w.heap.size w w' := by
  have hbd := h.bd
  have hbd' := h'.bd
  obtain ⟨hn, -⟩ := id h
  obtain ⟨hn', -⟩ := id h'
  by_cases hne : n = n'
  · have hne1 : ((n : Int) != (n' : Int)) = false := by simp [hne]
    have Hne := Lib.hid hne
    have Hn := Lib.hid hn
    have Hn' := Lib.hid hn'
    clear hne hn hn'
    go_enter Try.func14, Try.ntmps14
    go_wp2
    go_loopw [5] (fun i wr => ∃ k : Nat, k ≤ n ∧ i = .int .i64 k ∧ l.take k = l'.take k ∧ Below w.heap.size w wr) (fun i _ => n - (intOf i).toNat)
    case atStart => exact ⟨0, Nat.zero_le _, rfl, rfl, Below.refl _ _⟩
    case round =>
      obtain ⟨k, hk, rfl, hpre, hbel⟩ := hrel
      have Hpre := Lib.hid hpre
      clear hpre
      by_cases hlt : k < n
      · have hl1 : k < l.length := by have := Hn.out; omega
        have hl2 : k < l'.length := by have := Hn'.out; have := Hne.out; omega
        have hlt' : k < n' := by have := Hne.out; omega
        have hI : (k : Int) < (n : Int) := by omega
        have hI' : (k : Int) < (n' : Int) := by omega
        have hI0 : (0 : Int) ≤ (k : Int) := by omega
        obtain ⟨b, off, xs, rfl, hSb, hc, rfl, hi1⟩ := h.at_ hl1
        obtain ⟨b', off', xs', rfl, hSb', hc', rfl, hi1'⟩ := h'.at_ hl2
        have hc0 : ∀ p : Aft wr, p.world.cell? ⟨b, off + k * 2, none⟩ = some (.int .i64 l[k].a) := Aft.cell ((hbel.cell (hS _ hSb)).trans (hc 0 _ rfl))
        have hd0 : ∀ p : Aft wr, p.world.cell? ⟨b', off' + k * 2, none⟩ = some (.int .i64 l'[k].a) := Aft.cell ((hbel.cell (hS _ hSb')).trans (hc' 0 _ rfl))
        have hc1 : ∀ p : Aft wr, p.world.cell? ⟨b, off + k * 2 + 1, none⟩ = some (.int .i64 l[k].b) := Aft.cell ((hbel.cell (hS _ hSb)).trans (hc 1 _ rfl))
        have hd1 : ∀ p : Aft wr, p.world.cell? ⟨b', off' + k * 2 + 1, none⟩ = some (.int .i64 l'[k].b) := Aft.cell ((hbel.cell (hS _ hSb')).trans (hc' 1 _ rfl))
        clear hc hc' hi1 hi1'
        by_cases he : l[k] = l'[k]
        · have Hd := Lib.hid (decide_eq_true he)
          have He := Lib.hid he
          clear he
          go_wp2_with fail
          refine wp_region_aft (by kernel_rfl) (by kernel_rfl) ?_
          repeat (go_big_quiet_step ((go_at_call 51; exact Calls.aft (eqEvent_any _ _ _ Hd.out _))))
          refine wpQuiet_nil ?_
          rintro _ ⟨p, rfl⟩
          have hb2 : Below w.heap.size w p.world := hbel.trans (p.below.mono hbel.size)
          go_wp2
          go_roundw
          case rel => exact ⟨k + 1, by omega, by go_num, by rw [List.take_succ_eq_append_getElem hl1, List.take_succ_eq_append_getElem hl2, Hpre.out, He.out], hb2⟩
          case measure => simp [intOf]; omega
        · have Hd := Lib.hid (decide_eq_false he)
          have Hfin := Lib.hid (show decide (l = l') = false from decide_eq_false fun e => he (by subst e; rfl))
          clear he
          go_wp2_with fail
          refine wp_region_aft (by kernel_rfl) (by kernel_rfl) ?_
          repeat (go_big_quiet_step ((go_at_call 51; exact Calls.aft (eqEvent_any _ _ _ Hd.out _))))
          refine wpQuiet_nil ?_
          rintro _ ⟨p, rfl⟩
          have hb2 : Below w.heap.size w p.world := hbel.trans (p.below.mono hbel.size)
          go_wp2
          go_ret
          exact ⟨by rw [Hfin.out]; rfl, hb2⟩
      · go_wp2
        go_ret
        have e1 := Hn.out
        have e2 := Hn'.out
        have e3 := Hne.out
        have e4 := Hpre.out
        rw [List.take_of_length_le (by omega), List.take_of_length_le (by omega)] at e4
        exact ⟨by rw [decide_eq_true e4]; rfl, hbel⟩
  · have hne1 : ((n : Int) != (n' : Int)) = true := by simp; omega
    have Hfin := Lib.hid (show decide (l = l') = false from decide_eq_false fun e => hne (by rw [hn, hn', e]))
    clear hn hn' hne
    go_enter Try.func14, Try.ntmps14
    go_wp2
    go_ret
    exact ⟨by rw [Hfin.out]; rfl, Below.refl _ _⟩

theorem szEventS_any (A : Option Addr) (n c : Nat) (left : Int) (w : World) (hn : n ≤ 9223372036854775807) (h1 : 0 ≤ left) (h2 : left ≤ 1048576) :
    Calls Try.prog 10 #[.slice A n c, .int .i64 left] w fun e w' => ∃ r : Int, e = .returned (.int .i64 r) ∧ -1 ≤ r ∧ r ≤ left ∧ (0 ≤ r → (n : Int) + r = left) ∧ w = w' := by
  go_enter Try.func10, Try.ntmps10
  go_wp2
  all_goals
    go_ret
    refine ⟨_, rfl, by omega, by omega, by omega, rfl⟩

end Go.Proofs.Ytmkhahiefdcinaa

/-
  Contracts: within of the program, l1In of the reference.
-/
namespace Go.Proofs.Ytmkhahiefdcinaa
open Go.ChangeShapes Go.WideShapes Go.ChangeAt Go.RowKit Go.BigFrame
set_option linter.unusedVariables false

theorem l1In_any (n lo hi : Int) (r : Bool) (hr : decide (lo ≤ n ∧ n ≤ hi) = r) (w : World) :
    Calls Try.prog 67 #[.int .i64 n, .int .i64 lo, .int .i64 hi] w fun x w' => x = .returned (.bool r) ∧ Below w.heap.size w w' := by
  have Hr := Lib.hid hr
  clear hr
  by_cases h1 : lo ≤ n
  · by_cases h2 : n ≤ hi
    · go_enter Try.func67, Try.ntmps67
      go_wp2
      go_ret
      exact ⟨by rw [← Hr.out, decide_eq_true ⟨h1, h2⟩]; rfl, Below.refl _ _⟩
    · go_enter Try.func67, Try.ntmps67
      go_wp2
      go_ret
      exact ⟨by rw [← Hr.out, decide_eq_false (by omega)]; rfl, Below.refl _ _⟩
  · go_enter Try.func67, Try.ntmps67
    go_wp2
    go_ret
    exact ⟨by rw [← Hr.out, decide_eq_false (by omega)]; rfl, Below.refl _ _⟩

theorem within_any (n lo hi : Int) (r : Bool) (hr : decide (lo ≤ n ∧ n ≤ hi) = r) (w : World) :
    Calls Try.prog 49 #[.int .i64 n, .int .i64 lo, .int .i64 hi] w fun x w' => x = .returned (.bool r) ∧ Below w.heap.size w w' := by
  have Hr := Lib.hid hr
  clear hr
  by_cases h1 : lo ≤ n
  · by_cases h2 : n ≤ hi
    · go_enter Try.func49, Try.ntmps49
      go_wp2
      go_ret
      exact ⟨by rw [← Hr.out, decide_eq_true ⟨h1, h2⟩]; rfl, Below.refl _ _⟩
    · go_enter Try.func49, Try.ntmps49
      go_wp2
      go_ret
      exact ⟨by rw [← Hr.out, decide_eq_false (by omega)]; rfl, Below.refl _ _⟩
  · go_enter Try.func49, Try.ntmps49
    go_wp2
    go_ret
    exact ⟨by rw [← Hr.out, decide_eq_false (by omega)]; rfl, Below.refl _ _⟩

end Go.Proofs.Ytmkhahiefdcinaa

/-
  Contracts: within, l1In; GoodEvents of the reference, areEvents and GoodEvents of the program: each answers 'goodEv'.
-/
namespace Go.Proofs.Ytmkhahiefdcinaa
open Go.ChangeShapes Go.WideShapes Go.ChangeAt Go.RowKit Go.BigFrame
set_option linter.unusedVariables false

/-- Event number i is as the document asks, m the greatest node. -/
def evOk (m : Int) (l : List P2) (i : Nat) : Prop :=
  ∀ e, l[i]? = some e → 0 ≤ e.a ∧ e.a ≤ m ∧ -1 ≤ e.b ∧ e.b ≤ i - 1 ∧ (0 ≤ e.b → ∀ f, l[e.b.toNat]? = some f → f.a ≠ e.a)
open Classical in
noncomputable def goodEv (nodes : Int) (l : List P2) : Bool := decide (1 ≤ nodes ∧ nodes ≤ 5 ∧ l.length ≤ 40 ∧ ∀ i, i < l.length → evOk (nodes - 1) l i)

theorem evOk_succ {m : Int} {l : List P2} {k : Nat} {x y : Int} (h : ∀ i, i < k → evOk m l i) (he : l[k]? = some ⟨x, y⟩) (h1 : 0 ≤ x) (h2 : x ≤ m) (h3 : -1 ≤ y) (h4 : y ≤ (k : Int) - 1)
    (h5 : 0 ≤ y → ∀ f, l[y.toNat]? = some f → f.a ≠ x) : ∀ i, i < k + 1 → evOk m l i := by
  intro i hi
  by_cases hik : i = k
  · subst hik
    intro e he'
    rw [he] at he'
    obtain rfl := Option.some.inj he'
    exact ⟨h1, h2, h3, h4, h5⟩
  · exact h i (by omega)
theorem evOk_new_j {l : List P2} {j : Nat} {f : P2} {x : Int} (hj : l[j]? = some f) (hne : ¬ f.a = x) : 0 ≤ (j : Int) → ∀ f, l[(j : Int).toNat]? = some f → f.a ≠ x := by
  intro _ f' hf'
  rw [Int.toNat_natCast, hj] at hf'
  obtain rfl := Option.some.inj hf'
  exact hne
theorem evOk_new_n {l : List P2} {x y : Int} (hC : ¬ 0 ≤ y) : 0 ≤ y → ∀ f, l[y.toNat]? = some f → f.a ≠ x := fun h => absurd h hC
theorem evOk_not_A {m : Int} {l : List P2} {k : Nat} {x y : Int} (he : l[k]? = some ⟨x, y⟩) (h : ¬ (0 ≤ x ∧ x ≤ m)) : ¬ evOk m l k := fun hh => h ⟨(hh _ he).1, (hh _ he).2.1⟩
theorem evOk_not_B {m : Int} {l : List P2} {k : Nat} {x y : Int} (he : l[k]? = some ⟨x, y⟩) (h : ¬ (-1 ≤ y ∧ y ≤ (k : Int) - 1)) : ¬ evOk m l k := fun hh => h ⟨(hh _ he).2.2.1, (hh _ he).2.2.2.1⟩
theorem evOk_not_D {m : Int} {l : List P2} {k j : Nat} {f : P2} {x : Int} (he : l[k]? = some ⟨x, j⟩) (hj : l[j]? = some f) (h : f.a = x) : ¬ evOk m l k := fun hh => (hh _ he).2.2.2.2 (by simp) f (by simpa using hj) h
open Classical in
theorem goodEv_bad {m nodes : Int} {l : List P2} {k : Nat} (hm : 1 ≤ nodes → nodes ≤ 5 → m = nodes - 1) (hk : k < l.length) (h : ¬ evOk m l k) : goodEv nodes l = false := by
  unfold goodEv
  rw [decide_eq_false]
  rintro ⟨h1, h2, _, h4⟩
  rw [hm h1 h2] at h
  exact h (h4 k hk)
open Classical in
theorem goodEv_yes {m nodes : Int} {l : List P2} {n : Nat} (hm : m = nodes - 1) (hN : 1 ≤ nodes ∧ nodes ≤ 5) (hn : n = l.length) (hL : n ≤ 40) (h : ∀ i, i < n → evOk m l i) : goodEv nodes l = true := by
  unfold goodEv
  rw [decide_eq_true]
  subst hn hm
  exact ⟨hN.1, hN.2, hL, h⟩
open Classical in
theorem goodEv_long {nodes : Int} {l : List P2} (hL : ¬ l.length ≤ 40) : goodEv nodes l = false := by
  unfold goodEv
  rw [decide_eq_false]
  exact fun h => hL h.2.2.1
open Classical in
theorem goodEv_nodes {nodes : Int} {l : List P2} (hN : ¬ (1 ≤ nodes ∧ nodes ≤ 5)) : goodEv nodes l = false := by
  unfold goodEv
  rw [decide_eq_false]
  exact fun h => hN ⟨h.1, h.2.1⟩

theorem spec_GoodEvents_any (nodes : Int) (hnodes : I64 nodes) (l : List P2) (w : World) (S : Nat → Prop) (hS : ∀ b, S b → b < w.heap.size) (A : Option Addr) (n c : Nat) (h : RepL w S l A n c) :
    Calls Try.prog 44 #[.int .i64 nodes, .slice A n c] w fun x w' => x = .returned (.bool (goodEv nodes l)) ∧ Below w.heap.size w w' := by
  have hbd := h.bd
  obtain ⟨hn1, hn2⟩ := hnodes
  obtain ⟨hn, -⟩ := id h
  have Hn := Lib.hid hn
  clear hn
  obtain ⟨m, hm⟩ : ∃ m, IntKind.i64.wrap (nodes - 1) = m := ⟨_, rfl⟩
  have Hm : Hid (1 ≤ nodes → nodes ≤ 5 → m = nodes - 1) := fun h1 h2 => by rw [← hm, IntKind.wrap_i64]; omega
  go_enter Try.func44, Try.ntmps44
  go_wp2
  go_loopw [9] (fun i wr => ∃ k : Nat, k ≤ n ∧ i = .int .i64 k ∧ (∀ i, i < k → evOk m l i) ∧ Below w.heap.size w wr) (fun i _ => n - (intOf i).toNat)
  case atStart => exact ⟨0, Nat.zero_le _, rfl, fun i hi => absurd hi (by omega), Below.refl _ _⟩
  case round =>
    obtain ⟨k, hk, rfl, hpre, hbel⟩ := hrel
    have Hpre := Lib.hid hpre
    clear hpre
    by_cases hlt : k < n
    · have hl1 : k < l.length := by have := Hn.out; omega
      obtain ⟨b, off, xs, rfl, hSb, hc, rfl, hi1, hi2⟩ := h.at_ hl1
      have hc0 := hc 0 _ rfl
      have hc1 := hc 1 _ rfl
      clear hc
      generalize hek : l[k] = ek at hc0 hc1 hi1 hi2
      obtain ⟨x, y⟩ := ek
      have Hek := Lib.hid (show l[k]? = some ⟨x, y⟩ by rw [List.getElem?_eq_getElem hl1, hek])
      clear hek
      have hc0' : wr.cell? ⟨b, off + k * 2, none⟩ = some (.int .i64 x) := (hbel.cell (hS _ hSb)).trans hc0
      have hc1' : wr.cell? ⟨b, off + k * 2 + 1, none⟩ = some (.int .i64 y) := (hbel.cell (hS _ hSb)).trans hc1
      clear hc0 hc1
      obtain ⟨hx1, hx2⟩ : I64 x := hi1
      obtain ⟨hy1, hy2⟩ : I64 y := hi2
      have hI : (k : Int) < (n : Int) := by omega
      have hI0 : (0 : Int) ≤ (k : Int) := by omega
      obtain ⟨W, hW⟩ : ∃ W, W = wr.alloc (.cells #[.int .i64 x, .int .i64 y] 64) := ⟨_, rfl⟩
      have hbW : Below w.heap.size w W := by subst hW; exact hbel.alloc hbel.size _
      have e0 : ∀ p : Aft W, p.world.cell? ⟨wr.heap.size, 0, none⟩ = some (.int .i64 x) := Aft.cell (by subst hW; simp)
      have e1 : ∀ p : Aft W, p.world.cell? ⟨wr.heap.size, 1, none⟩ = some (.int .i64 y) := Aft.cell (by subst hW; simp)
      have HW := Lib.hid hW
      clear hW
      go_wp2_with fail
      rw [← HW.out]
      by_cases hA : 0 ≤ x ∧ x ≤ m
      · have Hd := Lib.hid (decide_eq_true hA)
        by_cases hB : -1 ≤ y ∧ y ≤ (k : Int) - 1
        · have Hd2 := Lib.hid (decide_eq_true hB)
          by_cases hC : 0 ≤ y
          · obtain ⟨j, rfl⟩ := Int.eq_ofNat_of_zero_le hC
            have hj : j < l.length := by omega
            have hjn : (j : Int) < (n : Int) := by omega
            have hj0 : (0 : Int) ≤ (j : Int) := by omega
            have hjd : decide ((0 : Int) ≤ (j : Int)) = true := decide_eq_true hj0
            obtain ⟨b', off', xs', e, hSb', hc, rfl, hj1, hj2⟩ := h.at_ hj
            obtain ⟨rfl, rfl⟩ : b = b' ∧ off = off' := by simpa using e
            have e2 : ∀ p : Aft W, p.world.cell? ⟨b, off + j * 2, none⟩ = some (.int .i64 l[j].a) := Aft.cell ((hbW.cell (hS _ hSb)).trans (hc 0 _ rfl))
            have Hj := Lib.hid (show l[j]? = some l[j] from List.getElem?_eq_getElem hj)
            clear hc e hj1 hj2
            by_cases hD : l[j].a = x
            · have hDd : ((l[j].a : Int) == x) = true := by simpa using hD
              have HD := Lib.hid hD
              have Hd' := Lib.hid hB
              have Hdd := Lib.hid hA
              clear hD
              refine wp_region_aft (by kernel_rfl) (by kernel_rfl) ?_
              repeat (go_big_quiet_step ((go_at_call 67; exact Calls.aft (l1In_any _ _ _ _ (by first | with_reducible exact Hd.out | with_reducible exact Hd2.out) _))))
              refine wpQuiet_nil ?_
              rintro _ ⟨p, rfl⟩
              have hb2 : Below w.heap.size w p.world := hbW.trans (p.below.mono hbW.size)
              go_wp2
              go_ret
              exact ⟨by rw [goodEv_bad Hm.out hl1 (evOk_not_D Hek.out Hj.out HD.out)]; rfl, hb2⟩
            · have hDd : ((l[j].a : Int) == x) = false := by simpa using hD
              have HD := Lib.hid hD
              clear hD
              refine wp_region_aft (by kernel_rfl) (by kernel_rfl) ?_
              repeat (go_big_quiet_step ((go_at_call 67; exact Calls.aft (l1In_any _ _ _ _ (by first | with_reducible exact Hd.out | with_reducible exact Hd2.out) _))))
              refine wpQuiet_nil ?_
              rintro _ ⟨p, rfl⟩
              have hb2 : Below w.heap.size w p.world := hbW.trans (p.below.mono hbW.size)
              go_wp2
              go_roundw
              case rel => exact ⟨k + 1, by omega, by go_num, evOk_succ Hpre.out Hek.out hA.1 hA.2 hB.1 hB.2 (evOk_new_j Hj.out HD.out), hb2⟩
              case measure => simp [intOf]; omega
          · have hCd : decide (0 ≤ y) = false := decide_eq_false hC
            refine wp_region_aft (by kernel_rfl) (by kernel_rfl) ?_
            repeat (go_big_quiet_step ((go_at_call 67; exact Calls.aft (l1In_any _ _ _ _ (by first | with_reducible exact Hd.out | with_reducible exact Hd2.out) _))))
            refine wpQuiet_nil ?_
            rintro _ ⟨p, rfl⟩
            have hb2 : Below w.heap.size w p.world := hbW.trans (p.below.mono hbW.size)
            go_wp2
            go_roundw
            case rel => exact ⟨k + 1, by omega, by go_num, evOk_succ Hpre.out Hek.out hA.1 hA.2 hB.1 hB.2 (evOk_new_n hC), hb2⟩
            case measure => simp [intOf]; omega
        · have Hd2 := Lib.hid (decide_eq_false hB)
          refine wp_region_aft (by kernel_rfl) (by kernel_rfl) ?_
          repeat (go_big_quiet_step ((go_at_call 67; exact Calls.aft (l1In_any _ _ _ _ (by first | with_reducible exact Hd.out | with_reducible exact Hd2.out) _))))
          refine wpQuiet_nil ?_
          rintro _ ⟨p, rfl⟩
          have hb2 : Below w.heap.size w p.world := hbW.trans (p.below.mono hbW.size)
          go_wp2
          go_ret
          exact ⟨by rw [goodEv_bad Hm.out hl1 (evOk_not_B Hek.out hB)]; rfl, hb2⟩
      · have Hd := Lib.hid (decide_eq_false hA)
        refine wp_region_aft (by kernel_rfl) (by kernel_rfl) ?_
        repeat (go_big_quiet_step ((go_at_call 67; exact Calls.aft (l1In_any _ _ _ _ (by first | with_reducible exact Hd.out) _))))
        refine wpQuiet_nil ?_
        rintro _ ⟨p, rfl⟩
        have hb2 : Below w.heap.size w p.world := hbW.trans (p.below.mono hbW.size)
        go_wp2
        go_ret
        exact ⟨by rw [goodEv_bad Hm.out hl1 (evOk_not_A Hek.out hA)]; rfl, hb2⟩
    · obtain rfl : k = n := by omega
      by_cases hN : 1 ≤ nodes ∧ nodes ≤ 5
      · have Hd := Lib.hid (decide_eq_true hN)
        by_cases hL : k ≤ 40
        · have hLd : decide ((k : Int) ≤ 40) = true := decide_eq_true (by omega)
          go_wp2_with (go_at_call 67; refine (l1In_any _ _ _ _ Hd.out _).mono ?_; rintro e w1 ⟨rfl, hb1⟩)
          go_ret
          exact ⟨by rw [goodEv_yes (Hm.out hN.1 hN.2) hN Hn.out hL Hpre.out]; rfl, hbel.trans (hb1.mono hbel.size)⟩
        · have hLd : decide ((k : Int) ≤ 40) = false := decide_eq_false (by omega)
          go_wp2_with (go_at_call 67; refine (l1In_any _ _ _ _ Hd.out _).mono ?_; rintro e w1 ⟨rfl, hb1⟩)
          go_ret
          exact ⟨by rw [goodEv_long (Hn.out ▸ hL)]; rfl, hbel.trans (hb1.mono hbel.size)⟩
      · have Hd := Lib.hid (decide_eq_false hN)
        go_wp2_with (go_at_call 67; refine (l1In_any _ _ _ _ Hd.out _).mono ?_; rintro e w1 ⟨rfl, hb1⟩)
        go_ret
        exact ⟨by rw [goodEv_nodes hN]; rfl, hbel.trans (hb1.mono hbel.size)⟩

theorem areEvents_any (nodes : Int) (hnodes : I64 nodes) (l : List P2) (w : World) (S : Nat → Prop) (hS : ∀ b, S b → b < w.heap.size) (A : Option Addr) (n c : Nat) (h : RepL w S l A n c) :
    Calls Try.prog 48 #[.int .i64 nodes, .slice A n c] w fun x w' => x = .returned (.bool (goodEv nodes l)) ∧ Below w.heap.size w w' := by
  have hbd := h.bd
  obtain ⟨hn1, hn2⟩ := hnodes
  obtain ⟨hn, -⟩ := id h
  have Hn := Lib.hid hn
  clear hn
  by_cases hN : 1 ≤ nodes ∧ nodes ≤ 5
  · have HN := Lib.hid (decide_eq_true hN)
    by_cases hL : n ≤ 40
    · have hm : IntKind.i64.wrap (nodes - 1) = nodes - 1 := by rw [IntKind.wrap_i64]; omega
      go_enter Try.func48, Try.ntmps48
      go_wp2_with (go_at_call 49; refine (within_any _ _ _ _ HN.out _).mono ?_; rintro e w0 ⟨rfl, hb0⟩)
      go_loopw [17] (fun i wr => ∃ k : Nat, k ≤ n ∧ i = .int .i64 k ∧ (∀ i, i < k → evOk (nodes - 1) l i) ∧ Below w.heap.size w wr) (fun i _ => n - (intOf i).toNat)
      case atStart => exact ⟨0, Nat.zero_le _, rfl, fun i hi => absurd hi (by omega), hb0⟩
      case round =>
        obtain ⟨k, hk, rfl, hpre, hbel⟩ := hrel
        have Hpre := Lib.hid hpre
        clear hpre
        by_cases hlt : k < n
        · have hl1 : k < l.length := by have := Hn.out; omega
          obtain ⟨b, off, xs, rfl, hSb, hc, rfl, hi1, hi2⟩ := h.at_ hl1
          have hc0 := hc 0 _ rfl
          have hc1 := hc 1 _ rfl
          clear hc
          generalize hek : l[k] = ek at hc0 hc1 hi1 hi2
          obtain ⟨x, y⟩ := ek
          have Hek := Lib.hid (show l[k]? = some ⟨x, y⟩ by rw [List.getElem?_eq_getElem hl1, hek])
          clear hek
          have hc0' : wr.cell? ⟨b, off + k * 2, none⟩ = some (.int .i64 x) := (hbel.cell (hS _ hSb)).trans hc0
          have hc1' : wr.cell? ⟨b, off + k * 2 + 1, none⟩ = some (.int .i64 y) := (hbel.cell (hS _ hSb)).trans hc1
          clear hc0 hc1
          obtain ⟨hx1, hx2⟩ : I64 x := hi1
          obtain ⟨hy1, hy2⟩ : I64 y := hi2
          have hI : (k : Int) < (n : Int) := by omega
          have hI0 : (0 : Int) ≤ (k : Int) := by omega
          obtain ⟨W, hW⟩ : ∃ W, W = wr.alloc (.cells #[.int .i64 x, .int .i64 y] 64) := ⟨_, rfl⟩
          have hbW : Below w.heap.size w W := by subst hW; exact hbel.alloc hbel.size _
          have e0 : ∀ p : Aft W, p.world.cell? ⟨wr.heap.size, 0, none⟩ = some (.int .i64 x) := Aft.cell (by subst hW; simp)
          have e1 : ∀ p : Aft W, p.world.cell? ⟨wr.heap.size, 1, none⟩ = some (.int .i64 y) := Aft.cell (by subst hW; simp)
          have HW := Lib.hid hW
          clear hW
          go_wp2_with fail
          rw [← HW.out]
          by_cases hA : 0 ≤ x ∧ x ≤ nodes - 1
          · have Hd := Lib.hid (decide_eq_true hA)
            by_cases hB : -1 ≤ y ∧ y ≤ (k : Int) - 1
            · have Hd2 := Lib.hid (decide_eq_true hB)
              by_cases hC : 0 ≤ y
              · obtain ⟨j, rfl⟩ := Int.eq_ofNat_of_zero_le hC
                have hj : j < l.length := by omega
                have hjn : (j : Int) < (n : Int) := by omega
                have hj0 : (0 : Int) ≤ (j : Int) := by omega
                have hjd : decide ((0 : Int) ≤ (j : Int)) = true := decide_eq_true hj0
                obtain ⟨b', off', xs', e, hSb', hc, rfl, hj1, hj2⟩ := h.at_ hj
                obtain ⟨rfl, rfl⟩ : b = b' ∧ off = off' := by simpa using e
                have e2 : ∀ p : Aft W, p.world.cell? ⟨b, off + j * 2, none⟩ = some (.int .i64 l[j].a) := Aft.cell ((hbW.cell (hS _ hSb)).trans (hc 0 _ rfl))
                have Hj := Lib.hid (show l[j]? = some l[j] from List.getElem?_eq_getElem hj)
                clear hc e hj1 hj2
                by_cases hD : l[j].a = x
                · have hDd : ((l[j].a : Int) == x) = true := by simpa using hD
                  have HD := Lib.hid hD
                  have Hd' := Lib.hid hB
                  have Hdd := Lib.hid hA
                  clear hD
                  refine wp_region_aft (by kernel_rfl) (by kernel_rfl) ?_
                  repeat (go_big_quiet_step ((go_at_call 49; exact Calls.aft (within_any _ _ _ _ (by first | with_reducible exact Hd.out | with_reducible exact Hd2.out) _))))
                  refine wpQuiet_nil ?_
                  rintro _ ⟨p, rfl⟩
                  have hb2 : Below w.heap.size w p.world := hbW.trans (p.below.mono hbW.size)
                  go_wp2
                  go_ret
                  exact ⟨by rw [goodEv_bad (fun _ _ => rfl) hl1 (evOk_not_D Hek.out Hj.out HD.out)]; rfl, hb2⟩
                · have hDd : ((l[j].a : Int) == x) = false := by simpa using hD
                  have HD := Lib.hid hD
                  clear hD
                  refine wp_region_aft (by kernel_rfl) (by kernel_rfl) ?_
                  repeat (go_big_quiet_step ((go_at_call 49; exact Calls.aft (within_any _ _ _ _ (by first | with_reducible exact Hd.out | with_reducible exact Hd2.out) _))))
                  refine wpQuiet_nil ?_
                  rintro _ ⟨p, rfl⟩
                  have hb2 : Below w.heap.size w p.world := hbW.trans (p.below.mono hbW.size)
                  go_wp2
                  go_roundw
                  case rel => exact ⟨k + 1, by omega, by go_num, evOk_succ Hpre.out Hek.out hA.1 hA.2 hB.1 hB.2 (evOk_new_j Hj.out HD.out), hb2⟩
                  case measure => simp [intOf]; omega
              · have hCd : decide (0 ≤ y) = false := decide_eq_false hC
                refine wp_region_aft (by kernel_rfl) (by kernel_rfl) ?_
                repeat (go_big_quiet_step ((go_at_call 49; exact Calls.aft (within_any _ _ _ _ (by first | with_reducible exact Hd.out | with_reducible exact Hd2.out) _))))
                refine wpQuiet_nil ?_
                rintro _ ⟨p, rfl⟩
                have hb2 : Below w.heap.size w p.world := hbW.trans (p.below.mono hbW.size)
                go_wp2
                go_roundw
                case rel => exact ⟨k + 1, by omega, by go_num, evOk_succ Hpre.out Hek.out hA.1 hA.2 hB.1 hB.2 (evOk_new_n hC), hb2⟩
                case measure => simp [intOf]; omega
            · have Hd2 := Lib.hid (decide_eq_false hB)
              refine wp_region_aft (by kernel_rfl) (by kernel_rfl) ?_
              repeat (go_big_quiet_step ((go_at_call 49; exact Calls.aft (within_any _ _ _ _ (by first | with_reducible exact Hd.out | with_reducible exact Hd2.out) _))))
              refine wpQuiet_nil ?_
              rintro _ ⟨p, rfl⟩
              have hb2 : Below w.heap.size w p.world := hbW.trans (p.below.mono hbW.size)
              go_wp2
              go_ret
              exact ⟨by rw [goodEv_bad (fun _ _ => rfl) hl1 (evOk_not_B Hek.out hB)]; rfl, hb2⟩
          · have Hd := Lib.hid (decide_eq_false hA)
            refine wp_region_aft (by kernel_rfl) (by kernel_rfl) ?_
            repeat (go_big_quiet_step ((go_at_call 49; exact Calls.aft (within_any _ _ _ _ (by first | with_reducible exact Hd.out) _))))
            refine wpQuiet_nil ?_
            rintro _ ⟨p, rfl⟩
            have hb2 : Below w.heap.size w p.world := hbW.trans (p.below.mono hbW.size)
            go_wp2
            go_ret
            exact ⟨by rw [goodEv_bad (fun _ _ => rfl) hl1 (evOk_not_A Hek.out hA)]; rfl, hb2⟩
        · obtain rfl : k = n := by omega
          go_wp2
          go_ret
          exact ⟨by rw [goodEv_yes rfl hN Hn.out hL Hpre.out]; rfl, hbel⟩
    · go_enter Try.func48, Try.ntmps48
      go_wp2_with (go_at_call 49; refine (within_any _ _ _ _ HN.out _).mono ?_; rintro e w0 ⟨rfl, hb0⟩)
      go_ret
      exact ⟨by rw [goodEv_long (Hn.out ▸ hL)]; rfl, hb0⟩
  · have HN := Lib.hid (decide_eq_false hN)
    go_enter Try.func48, Try.ntmps48
    go_wp2_with (go_at_call 49; refine (within_any _ _ _ _ HN.out _).mono ?_; rintro e w0 ⟨rfl, hb0⟩)
    go_ret
    exact ⟨by rw [goodEv_nodes hN]; rfl, hb0⟩
end Go.Proofs.Ytmkhahiefdcinaa

/-
  Contracts of the laws' own helpers over lists of integers: to, eq, mark, held.
-/
namespace Go.Proofs.Ytmkhahiefdcinaa
open Go.ChangeShapes Go.WideShapes Go.ChangeAt Go.RowKit Go.BigFrame
set_option linter.unusedVariables false

theorem infoInt : (Try.prog.info? 3).map (fun i => (i.zero, i.size, i.bytes)) = some (some (.int .i64 0), 1, 8) := by kernel_rfl

theorem toIntS_any (l : List Int) (w : World) (S : Nat → Prop) (hS : ∀ b, S b → b < w.heap.size) (A : Option Addr) (n c : Nat) (h : RepL w S l A n c) (hn : n ≤ 1048576) :
    Calls Try.prog 22 #[.slice A n c] w fun e w' => ∃ A' c', e = .returned (.slice A' n c') ∧ w'.ownsRow w.heap.size 3 1 (.slice A' n c') n (encs l) ∧ RepL w' (fun b => w.heap.size ≤ b ∧ b < w'.heap.size) l A' n c' ∧ Below w.heap.size w w' := by
  obtain ⟨i0, hi, hz0, hz1, hz2⟩ := info_parts infoInt
  have hbd := h.bd
  have hmk : ∀ W, (Instr.makeSlice 30 (.int .i64 (n : Int)) (.int .i64 (n : Int))).run Try.prog W = .ok (.slice (some ⟨W.heap.size, 0, none⟩) n n) (W.alloc (.cells (madeCells #[.int .i64 0] n) 3)) := fun W => by
    have := run_make_rowN (P := Try.prog) 30 3 i0 _ Try.underlying30 hi hz0 .i64 .i64 n n (Nat.le_refl _) (by rw [hz2]; omega) (by omega) W
    rw [hz1, Nat.mul_one] at this
    exact this
  go_enter Try.func22, Try.ntmps22
  go_wp2
  go_loopw [4] (fun i wr => ∃ k : Nat, k ≤ n ∧ i = .int .i64 k ∧ wr.ownsRow w.heap.size 3 1 (.slice (some ⟨w.heap.size, 0, none⟩) n n) n (fill l k) ∧ Below w.heap.size w wr) (fun i _ => n - (intOf i).toNat)
  case atStart =>
    have := own_made w #[.int .i64 0] 3 l (n := n) (s := 1) rfl rfl h.1 (by omega)
    rw [Nat.mul_one] at this
    exact ⟨0, Nat.zero_le _, rfl, this, (Below.refl _ _).alloc (Nat.le_refl _) _⟩
  case round =>
    obtain ⟨k, hk, rfl, hown, hbel⟩ := hrel
    obtain ⟨rfl, -⟩ := id h
    by_cases hlt : k < l.length
    · obtain ⟨b, off, rfl, hSb, hc, hi1⟩ := h.at1 rfl hlt
      have hc0 : wr.cell? ⟨b, off + k, none⟩ = some (.int .i64 l[k]) := (hbel.cell (hS _ hSb)).trans (hc _ rfl)
      clear hc
      obtain ⟨u0, hu0⟩ := own_cell hown (j := k) (by omega)
      have hf0 := hown.frozenAt k
      go_wp2
      go_roundw
      case rel =>
        have h2 := (hown.stored k (.int .i64 l[k])).1
        refine ⟨k + 1, by omega, by go_num, ?_, ?_⟩
        · rw [← fill_step l k hlt]
          have e : k * Flat.size Int = k := Nat.mul_one k
          rw [e]
          exact h2
        · exact hbel.setCell (Nat.le_refl _) _
      case measure => simp [intOf]; omega
    · go_wp2
      go_ret
      obtain rfl : k = l.length := by omega
      rw [fill_all] at hown
      exact ⟨_, _, rfl, hown, RepL.of_own' rfl rfl hown h.ok, hbel⟩

theorem eqIntS_any (l l' : List Int) (w : World) (S : Nat → Prop) (hS : ∀ b, S b → b < w.heap.size) (A A' : Option Addr) (n c n' c' : Nat) (h : RepL w S l A n c) (h' : RepL w S l' A' n' c') :
    Calls Try.prog 17 #[.slice A n c, .slice A' n' c'] w fun e w' => e = .returned (.bool (decide (l = l'))) ∧ Below w.heap.size w w' := by
  have hbd := h.bd
  have hbd' := h'.bd
  obtain ⟨hn, -⟩ := id h
  obtain ⟨hn', -⟩ := id h'
  by_cases hne : n = n'
  · have hne1 : ((n : Int) != (n' : Int)) = false := by simp [hne]
    have Hne := Lib.hid hne
    have Hn := Lib.hid hn
    have Hn' := Lib.hid hn'
    clear hne hn hn'
    go_enter Try.func17, Try.ntmps17
    go_wp2
    go_loopw [5] (fun i wr => ∃ k : Nat, k ≤ n ∧ i = .int .i64 k ∧ l.take k = l'.take k ∧ Below w.heap.size w wr) (fun i _ => n - (intOf i).toNat)
    case atStart => exact ⟨0, Nat.zero_le _, rfl, rfl, Below.refl _ _⟩
    case round =>
      obtain ⟨k, hk, rfl, hpre, hbel⟩ := hrel
      have Hpre := Lib.hid hpre
      clear hpre
      by_cases hlt : k < n
      · have hl1 : k < l.length := by have := Hn.out; omega
        have hl2 : k < l'.length := by have := Hn'.out; have := Hne.out; omega
        have hlt' : k < n' := by have := Hne.out; omega
        have hI : (k : Int) < (n : Int) := by omega
        have hI' : (k : Int) < (n' : Int) := by omega
        have hI0 : (0 : Int) ≤ (k : Int) := by omega
        obtain ⟨b, off, rfl, hSb, hc, hi1⟩ := h.at1 rfl hl1
        obtain ⟨b', off', rfl, hSb', hc', hi1'⟩ := h'.at1 rfl hl2
        have hc0 : ∀ p : Aft wr, p.world.cell? ⟨b, off + k, none⟩ = some (.int .i64 l[k]) := Aft.cell ((hbel.cell (hS _ hSb)).trans (hc _ rfl))
        have hd0 : ∀ p : Aft wr, p.world.cell? ⟨b', off' + k, none⟩ = some (.int .i64 l'[k]) := Aft.cell ((hbel.cell (hS _ hSb')).trans (hc' _ rfl))
        clear hc hc' hi1 hi1'
        by_cases he : l[k] = l'[k]
        · have Hd : ((l[k] : Int) != l'[k]) = false := by simp [he]
          have He := Lib.hid he
          clear he
          go_wp2_with fail
          refine wp_region_aft (by kernel_rfl) (by kernel_rfl) ?_
          repeat (go_big_quiet_step (fail))
          refine wpQuiet_nil ?_
          rintro _ ⟨p, rfl⟩
          have hb2 : Below w.heap.size w p.world := hbel.trans (p.below.mono hbel.size)
          go_wp2
          go_roundw
          case rel => exact ⟨k + 1, by omega, by go_num, by rw [List.take_succ_eq_append_getElem hl1, List.take_succ_eq_append_getElem hl2, Hpre.out, He.out], hb2⟩
          case measure => simp [intOf]; omega
        · have Hd : ((l[k] : Int) != l'[k]) = true := by simp [he]
          have Hfin := Lib.hid (show decide (l = l') = false from decide_eq_false fun e => he (by subst e; rfl))
          clear he
          go_wp2_with fail
          refine wp_region_aft (by kernel_rfl) (by kernel_rfl) ?_
          repeat (go_big_quiet_step (fail))
          refine wpQuiet_nil ?_
          rintro _ ⟨p, rfl⟩
          have hb2 : Below w.heap.size w p.world := hbel.trans (p.below.mono hbel.size)
          go_wp2
          go_ret
          exact ⟨by rw [Hfin.out]; rfl, hb2⟩
      · go_wp2
        go_ret
        have e1 := Hn.out
        have e2 := Hn'.out
        have e3 := Hne.out
        have e4 := Hpre.out
        rw [List.take_of_length_le (by omega), List.take_of_length_le (by omega)] at e4
        exact ⟨by rw [decide_eq_true e4]; rfl, hbel⟩
  · have hne1 : ((n : Int) != (n' : Int)) = true := by simp; omega
    have Hfin := Lib.hid (show decide (l = l') = false from decide_eq_false fun e => hne (by rw [hn, hn', e]))
    clear hn hn' hne
    go_enter Try.func17, Try.ntmps17
    go_wp2
    go_ret
    exact ⟨by rw [Hfin.out]; rfl, Below.refl _ _⟩

end Go.Proofs.Ytmkhahiefdcinaa

/-
  Contracts: markIntS, heldIntS.
-/
namespace Go.Proofs.Ytmkhahiefdcinaa
open Go.ChangeShapes Go.WideShapes Go.ChangeAt Go.RowKit Go.BigFrame
set_option linter.unusedVariables false


/-- k, k + 1, ..: n of them. -/
def ups (k : Int) (n : Nat) : List Int := (List.range n).map fun i : Nat => k + (i : Int)
theorem ups_len (k : Int) (n : Nat) : (ups k n).length = n := by simp [ups]
theorem ups_get (k : Int) (n i : Nat) (h : i < (ups k n).length) : (ups k n)[i] = k + (i : Int) := by simp [ups]

theorem ups_ok (k : Int) (n : Nat) (h0 : 0 ≤ k) (h1 : k + n ≤ 9000000000000000000) : ∀ x ∈ ups k n, (Flat.ok x : Prop) := by
  intro x hx
  obtain ⟨i, hi, rfl⟩ := List.mem_iff_getElem.1 hx
  rw [ups_get]
  rw [ups_len] at hi
  show I64 _
  unfold I64
  omega
/-- markIntS writes k, k + 1, .. into the row, and nothing else. -/
theorem markIntS_anyE (l : List Int) (k : Int) (E : TypeId) (h0 : 0 ≤ k) (h1 : k ≤ 1000000000) (w : World) (base : Nat) (A : Option Addr) (n c : Nat) (hn : n = l.length) (hsm : n ≤ 200000000) (h : w.ownsRow base E 1 (.slice A n c) n (encs l)) :
    Calls Try.prog 19 #[.slice A n c, .int .i64 k] w fun e w' => e = .returned (.int .i64 (k + n)) ∧ w'.ownsRow base E 1 (.slice A n c) n (encs (ups k n)) ∧ w.grownBy w' (Value.slice A n c).ownBlock ∧ w.heap.size = w'.heap.size := by
  have Hn := Lib.hid hn
  clear hn
  have hc64 : n ≤ 9223372036854775807 := by omega
  go_enter Try.func19, Try.ntmps19
  go_wp2
  go_loopw [1, 5] (fun q i wr => ∃ j : Nat, j ≤ n ∧ i = .int .i64 j ∧ q = .int .i64 (k + j) ∧ wr.ownsRow base E 1 (.slice A n c) n (encs (ups k j ++ l.drop j)) ∧ w.grownBy wr (Value.slice A n c).ownBlock ∧ w.heap.size = wr.heap.size) (fun _ i _ => n - (intOf i).toNat)
  case atStart => exact ⟨0, Nat.zero_le _, rfl, by simp, by simpa [ups] using h, World.grownBy.refl _ _, rfl⟩
  case round =>
    obtain ⟨j, hj, rfl, rfl, hown, hgr, hsz⟩ := hrel
    have Hsz := Lib.hid hsz
    clear hsz
    by_cases hlt : j < n
    · obtain ⟨g, rfl⟩ : ∃ g, A = some ⟨g, 0, none⟩ := by
        rcases h.2 with ⟨_, e⟩ | ⟨g, cap, cur, e, _⟩
        · omega
        · simp only [Value.slice.injEq] at e
          exact ⟨g, e.1⟩
      obtain ⟨u0, hu0⟩ := own_cell hown (j := j) (by omega)
      have hf0 := hown.frozenAt j
      have h2 := Lib.hid (hown.stored j (.int .i64 (k + j)))
      have Hgr := Lib.hid hgr
      clear hgr
      go_wp2
      go_roundw
      case rel =>
        have e1 := h2.out.1
        have hl := Hn.out
        have hgr := Hgr.out
        refine ⟨j + 1, by omega, by go_num, ?_, ?_, ?_, ?_⟩
        · simp only [Value.int.injEq, true_and]; omega
        · have e2 : (encs (ups k j ++ l.drop j)).set j (.int .i64 (k + j)) = encs (ups k (j + 1) ++ l.drop (j + 1)) := by
            have e3 := encs_set (ups k j ++ l.drop j) j (k + (j : Int)) (by simp [ups]; omega)
            have e4 : j * Flat.size Int = j := Nat.mul_one j
            rw [e4] at e3
            have e5 : setAll (encs (ups k j ++ l.drop j)) j (Flat.enc (k + (j : Int))) = (encs (ups k j ++ l.drop j)).set j (.int .i64 (k + j)) := rfl
            rw [← e5, e3]
            congr 1
            rw [List.set_append_right _ _ (by simp [ups]), ups_len, Nat.sub_self, List.drop_eq_getElem_cons (by omega), List.set_cons_zero]
            simp [ups, List.range_succ]
          rw [← e2]
          exact e1
        · exact ⟨hgr.os, hgr.tape, hgr.output, by simpa [World.setCell] using hgr.size, fun i hi hne => (Below.heap_setCell _ _ _ i (fun e => hne (by rw [e]; rfl))).trans (hgr.block i hi hne)⟩
        · simpa [World.setCell] using Hsz.out
      case measure => simp [intOf]; omega
    · obtain rfl : j = n := by omega
      go_wp2
      go_ret
      have hl := Hn.out
      rw [List.drop_of_length_le (by omega), List.append_nil] at hown
      exact ⟨rfl, hown, hgr, Hsz.out⟩
theorem markIntS_any (l : List Int) (k : Int) (h0 : 0 ≤ k) (h1 : k ≤ 1000000000) (w : World) (base : Nat) (A : Option Addr) (n c : Nat) (hn : n = l.length) (hsm : n ≤ 1048576) (h : w.ownsRow base 3 1 (.slice A n c) n (encs l)) :
    Calls Try.prog 19 #[.slice A n c, .int .i64 k] w fun e w' => e = .returned (.int .i64 (k + n)) ∧ w'.ownsRow base 3 1 (.slice A n c) n (encs (ups k n)) ∧ w.grownBy w' (Value.slice A n c).ownBlock ∧ w.heap.size = w'.heap.size := markIntS_anyE l k 3 h0 h1 w base A n c hn (by omega) h

/-- heldIntS finds what markIntS wrote. -/
theorem heldIntS_any (k : Int) (h0 : 0 ≤ k) (h1 : k ≤ 1000000000) (w : World) (S : Nat → Prop) (hS : ∀ b, S b → b < w.heap.size) (A : Option Addr) (n c : Nat) (hsm : n ≤ 200000000) (h : RepL w S (ups k n) A n c) :
    Calls Try.prog 20 #[.slice A n c, .int .i64 k] w fun e w' => e = .returned (.int .i64 (k + n)) ∧ Below w.heap.size w w' := by
  have hbd := h.bd
  go_enter Try.func20, Try.ntmps20
  go_wp2
  go_loopw [1, 5] (fun q i wr => ∃ j : Nat, j ≤ n ∧ i = .int .i64 j ∧ q = .int .i64 (k + j) ∧ Below w.heap.size w wr) (fun _ i _ => n - (intOf i).toNat)
  case atStart => exact ⟨0, Nat.zero_le _, rfl, by simp, Below.refl _ _⟩
  case round =>
    obtain ⟨j, hj, rfl, rfl, hbel⟩ := hrel
    by_cases hlt : j < n
    · have hl : j < (ups k n).length := by rw [ups_len]; exact hlt
      obtain ⟨b, off, rfl, hSb, hc, hi1⟩ := h.at1 rfl hl
      have hc0 : wr.cell? ⟨b, off + j, none⟩ = some (.int .i64 (k + j)) := by
        have := hc (.int .i64 (k + j)) (by rw [ups_get]; rfl)
        exact (hbel.cell (hS _ hSb)).trans this
      have hne : ((k + (j : Int)) != (k + (j : Int))) = false := by simp
      clear hc hi1
      go_wp2
      go_roundw
      case rel => exact ⟨j + 1, by omega, by go_num, by simp only [Value.int.injEq, true_and]; omega, hbel⟩
      case measure => simp [intOf]; omega
    · obtain rfl : j = n := by omega
      go_wp2
      go_ret
      exact ⟨rfl, hbel⟩

end Go.Proofs.Ytmkhahiefdcinaa

/-
  Counting events at nodes: the plain law; rows of made numbers.
-/
namespace Go.Proofs.Ytmkhahiefdcinaa
open Go.ChangeShapes Go.WideShapes Go.ChangeAt Go.RowKit Go.BigFrame
set_option linter.unusedVariables false

theorem setI (l : List Int) (k : Nat) (x : Int) (hk : k < l.length) : (encs l).set k (.int .i64 x) = encs (l.set k x) := by
  have e3 := encs_set l k x hk
  have e4 : k * Flat.size Int = k := Nat.mul_one k
  rw [e4] at e3
  exact e3
theorem getI (l : List Int) (k : Nat) (x : Int) (hk : l[k]? = some x) : (encs l)[k]? = some (.int .i64 x) := by
  obtain ⟨h1, rfl⟩ := List.getElem?_eq_some_iff.1 hk
  have e3 := encs_get l h1 (j := 0) (by decide)
  have e4 : k * Flat.size Int + 0 = k := by show k * 1 + 0 = k; omega
  rw [e4] at e3
  exact e3
theorem setB (l : List Bool) (k : Nat) (x : Bool) (hk : k < l.length) : (encs l).set k (.bool x) = encs (l.set k x) := by
  have e3 := encs_set l k x hk
  have e4 : k * Flat.size Bool = k := Nat.mul_one k
  rw [e4] at e3
  exact e3
theorem getB (l : List Bool) (k : Nat) (x : Bool) (hk : l[k]? = some x) : (encs l)[k]? = some (.bool x) := by
  obtain ⟨h1, rfl⟩ := List.getElem?_eq_some_iff.1 hk
  have e3 := encs_get l h1 (j := 0) (by decide)
  have e4 : k * Flat.size Bool + 0 = k := by show k * 1 + 0 = k; omega
  rw [e4] at e3
  exact e3
theorem encs_intlen (l : List Int) : (encs l).length = l.length := by rw [encs_len]; exact Nat.mul_one _

/-- How many of the first k events are at node j. -/
def cnt (l : List P2) (k : Nat) (j : Int) : Nat := (l.take k).countP (fun e => e.a == j)
/-- .. for each node. -/
def cntL (N : Nat) (l : List P2) (k : Nat) : List Int := (List.range N).map (fun (j : Nat) => (cnt l k j : Int))
theorem cnt_zero (l : List P2) (j : Int) : cnt l 0 j = 0 := by simp [cnt]
theorem cnt_succ {l : List P2} {k : Nat} {e : P2} (h : l[k]? = some e) (j : Int) : cnt l (k + 1) j = cnt l k j + if e.a = j then 1 else 0 := by
  obtain ⟨h1, rfl⟩ := List.getElem?_eq_some_iff.1 h
  unfold cnt
  rw [List.take_succ_eq_append_getElem h1, List.countP_append]
  simp [List.countP_cons]
theorem cnt_le (l : List P2) (k : Nat) (j : Int) : cnt l k j ≤ k := by
  unfold cnt
  exact Nat.le_trans List.countP_le_length (by simp; omega)
theorem cntL_len (N : Nat) (l : List P2) (k : Nat) : (cntL N l k).length = N := by simp [cntL]
theorem cntL_get {N : Nat} (l : List P2) (k : Nat) {j : Nat} (hj : j < N) : (cntL N l k)[j]? = some (cnt l k j : Int) := by
  simp [cntL, hj]
theorem cntL_zero (N : Nat) (l : List P2) : cntL N l 0 = List.replicate N 0 := by
  apply List.ext_getElem (by simp [cntL])
  intro i h1 h2
  simp [cntL, cnt_zero]
theorem cntL_succ {N : Nat} {l : List P2} {k j : Nat} {y : Int} (h : l[k]? = some ⟨j, y⟩) (hj : j < N) : cntL N l (k + 1) = (cntL N l k).set j ((cnt l k j : Int) + 1) := by
  apply List.ext_getElem (by simp [cntL])
  intro i h1 h2
  simp only [List.getElem_set, cntL, List.getElem_map, List.getElem_range, cnt_succ h]
  by_cases hij : j = i
  · subst hij; simp
  · have : ¬ ((j : Int) = (i : Int)) := by omega
    simp [hij, this]
theorem cntL_ok {N : Nat} {l : List P2} {k : Nat} (hk : k ≤ 1000000) : ∀ x ∈ cntL N l k, (Flat.ok x : Prop) := by
  intro x hx
  simp only [cntL, List.mem_map, List.mem_range] at hx
  obtain ⟨j, _, rfl⟩ := hx
  have := cnt_le l k j
  exact ⟨by omega, by omega⟩
open Classical in
theorem goodEv_get {nodes : Int} {l : List P2} (h : goodEv nodes l = true) : 1 ≤ nodes ∧ nodes ≤ 5 ∧ l.length ≤ 40 ∧ ∀ i, i < l.length → evOk (nodes - 1) l i := by
  unfold goodEv at h
  exact of_decide_eq_true h
/-- make of as many zeros. -/
theorem own_zeros (w : World) (e : TypeId) (n : Nat) (hn : n ≤ 9223372036854775807) :
    (w.alloc (.cells (madeCells #[.int .i64 0] n) e)).ownsRow w.heap.size e 1 (.slice (some ⟨w.heap.size, 0, none⟩) n n) n (encs (List.replicate n (0 : Int))) := by
  have h := own_made (α := Int) w #[.int .i64 0] e (List.replicate n 0) (n := n) (s := 1) rfl rfl (by simp) hn
  rw [fill_zero, List.length_replicate, Nat.mul_one] at h
  exact h
theorem own_falses (w : World) (e : TypeId) (n : Nat) (hn : n ≤ 9223372036854775807) :
    (w.alloc (.cells (madeCells #[.bool false] n) e)).ownsRow w.heap.size e 1 (.slice (some ⟨w.heap.size, 0, none⟩) n n) n (encs (List.replicate n false)) := by
  have h := own_made (α := Bool) w #[.bool false] e (List.replicate n false) (n := n) (s := 1) rfl rfl (by simp) hn
  rw [fill_zero, List.length_replicate, Nat.mul_one] at h
  exact h

/-- Number i of a cut is as it must be. -/
def uptOk (l : List P2) (u : List Int) (i : Nat) : Prop := ∀ x, u[i]? = some x → 0 ≤ x ∧ x ≤ (cnt l l.length i : Int)
open Classical in
noncomputable def uptoB (N : Nat) (l : List P2) (u : List Int) : Bool := decide (u.length = N ∧ ∀ i, i < u.length → uptOk l u i)
theorem uptOk_succ {l : List P2} {u : List Int} {k : Nat} {x : Int} (h : ∀ i, i < k → uptOk l u i) (he : u[k]? = some x) (h1 : 0 ≤ x ∧ x ≤ (cnt l l.length k : Int)) : ∀ i, i < k + 1 → uptOk l u i := by
  intro i hi
  by_cases hik : i = k
  · subst hik
    intro e he'
    rw [he] at he'
    obtain rfl := Option.some.inj he'
    exact h1
  · exact h i (by omega)
open Classical in
theorem uptoB_len {N : Nat} {l : List P2} {u : List Int} (h : u.length ≠ N) : uptoB N l u = false := decide_eq_false fun h' => h h'.1
open Classical in
theorem uptoB_bad {N : Nat} {l : List P2} {u : List Int} {k : Nat} {x : Int} (he : u[k]? = some x) (h : ¬ (0 ≤ x ∧ x ≤ (cnt l l.length k : Int))) : uptoB N l u = false :=
  decide_eq_false fun h' => h (h'.2 k (List.getElem?_eq_some_iff.1 he).1 x he)
open Classical in
theorem uptoB_yes {N : Nat} {l : List P2} {u : List Int} {n : Nat} (h : u.length = N) (hn : n = u.length) (hk : ∀ i, i < n → uptOk l u i) : uptoB N l u = true := decide_eq_true ⟨h, by subst hn; exact hk⟩

end Go.Proofs.Ytmkhahiefdcinaa

/-
  Contract: l11Prior of the reference.
-/
namespace Go.Proofs.Ytmkhahiefdcinaa
open Go.ChangeShapes Go.WideShapes Go.ChangeAt Go.RowKit Go.BigFrame
set_option linter.unusedVariables false

/-- The number of the last of the first k events at node x, -1 for none. -/
def lastAt (l : List P2) : Nat → Int → Int
  | 0, _ => -1
  | k + 1, x => if (l[k]?.map P2.a) = some x then (k : Int) else lastAt l k x
theorem lastAt_hit {l : List P2} {k : Nat} {e : P2} {x : Int} (h : l[k]? = some e) (he : e.a = x) : lastAt l (k + 1) x = k := by
  unfold lastAt
  rw [h]
  simp [he]
theorem lastAt_miss {l : List P2} {k : Nat} {e : P2} {x : Int} (h : l[k]? = some e) (he : ¬ e.a = x) : lastAt l (k + 1) x = lastAt l k x := by
  show (if (l[k]?.map P2.a) = some x then (k : Int) else lastAt l k x) = _
  rw [h]
  simp [he]
theorem lastAt_bd (l : List P2) (k : Nat) (x : Int) : -1 ≤ lastAt l k x ∧ lastAt l k x < k := by
  induction k with
  | zero => exact ⟨Int.le_refl _, by show (-1 : Int) < 0; decide⟩
  | succ k ih =>
    unfold lastAt
    split <;> omega

theorem l11Prior_any (l : List P2) (k : Nat) (x y : Int) (hk : l[k]? = some ⟨x, y⟩) (w : World) (S : Nat → Prop) (hS : ∀ b, S b → b < w.heap.size) (A : Option Addr) (n c : Nat) (hl0 : RepL w S l A n c) :
    Calls Try.prog 52 #[.slice A n c, .int .i64 k] w fun e w' => e = .returned (.int .i64 (lastAt l k x)) ∧ Below w.heap.size w w' := by
  have hbd := hl0.bd
  obtain ⟨hn, -⟩ := id hl0
  have Hn := Lib.hid hn
  clear hn
  have hkl : k < l.length := (List.getElem?_eq_some_iff.1 hk).1
  obtain ⟨b, off, xs, rfl, hSb, hc, rfl, -⟩ := hl0.at_ hkl
  have hck := hc 0 _ rfl
  have hka : l[k].a = x := by have := (List.getElem?_eq_some_iff.1 hk).2; rw [this]
  rw [hka] at hck
  have hkI : (k : Int) < (n : Int) := by have := Hn.out; omega
  have hk0 : (0 : Int) ≤ (k : Int) := by omega
  have hw : IntKind.i64.wrap ((k : Int) - 1) = (k : Int) - 1 := by rw [IntKind.wrap_i64]; omega
  clear hc hka
  go_enter Try.func52, Try.ntmps52
  go_wp2_with fail
  go_loopw [5] (fun i wr => ∃ (m : Nat) (z : Int), i = .int .i64 z ∧ z + 1 = (m : Int) ∧ m ≤ k ∧ lastAt l k x = lastAt l m x ∧ Below w.heap.size w wr) (fun i _ => (intOf i + 1).toNat)
  case atStart => exact ⟨k, (k : Int) - 1, rfl, by omega, Nat.le_refl _, rfl, Below.refl _ _⟩
  case round =>
    obtain ⟨m, z, rfl, hz, hm, hla, hbel⟩ := hrel
    have Hla := Lib.hid hla
    clear hla
    cases m with
    | zero =>
      have hz1 : z = -1 := by omega
      have d0 : decide ((0 : Int) ≤ z) = false := decide_eq_false (by omega)
      go_wp2_with fail
      go_ret
      exact ⟨by rw [Hla.out]; rfl, hbel⟩
    | succ m =>
      obtain rfl : z = (m : Int) := by omega
      have hml : m < l.length := by omega
      have d0 : decide ((0 : Int) ≤ (m : Int)) = true := decide_eq_true (by omega)
      obtain ⟨b', off', xs', e, hSb', hc, rfl, -⟩ := hl0.at_ hml
      obtain ⟨rfl, rfl⟩ : b = b' ∧ off = off' := by simpa using e
      have hcm := hc 0 _ rfl
      have f0 : ∀ p : Aft wr, p.world.cell? ⟨b, off + k * 2, none⟩ = some (.int .i64 x) := Aft.cell ((hbel.cell (hS _ hSb)).trans hck)
      have f1 : ∀ p : Aft wr, p.world.cell? ⟨b, off + m * 2, none⟩ = some (.int .i64 l[m].a) := Aft.cell ((hbel.cell (hS _ hSb)).trans hcm)
      have hmI : (m : Int) < (n : Int) := by omega
      have hm0 : (0 : Int) ≤ (m : Int) := by omega
      have Hml := Lib.hid (show l[m]? = some l[m] from List.getElem?_eq_getElem hml)
      clear hc e hcm hz
      by_cases hA : l[m].a = x
      · have dA : ((l[m].a : Int) == x) = true := by simpa using hA
        have HA := Lib.hid hA
        clear hA
        go_wp2_with fail
        refine wp_region_aft (by kernel_rfl) (by kernel_rfl) ?_
        repeat (go_big_quiet_step (fail))
        refine wpQuiet_nil ?_
        rintro _ ⟨p, rfl⟩
        have hb2 : Below w.heap.size w p.world := hbel.trans (p.below.mono hbel.size)
        go_wp2
        go_ret
        exact ⟨by rw [Hla.out, lastAt_hit Hml.out HA.out]; rfl, hb2⟩
      · have dA : ((l[m].a : Int) == x) = false := by simpa using hA
        have HA := Lib.hid hA
        clear hA
        have hwm : IntKind.i64.wrap ((m : Int) - 1) = (m : Int) - 1 := by rw [IntKind.wrap_i64]; omega
        go_wp2_with fail
        refine wp_region_aft (by kernel_rfl) (by kernel_rfl) ?_
        repeat (go_big_quiet_step (fail))
        refine wpQuiet_nil ?_
        rintro _ ⟨p, rfl⟩
        have hb2 : Below w.heap.size w p.world := hbel.trans (p.below.mono hbel.size)
        go_wp2
        go_roundw
        case rel => exact ⟨m, (m : Int) - 1, rfl, by omega, by omega, by rw [Hla.out, lastAt_miss Hml.out HA.out], hb2⟩
        case measure => simp [intOf] <;> omega

end Go.Proofs.Ytmkhahiefdcinaa

/-
  The plain law of stamps; a list that the call has made.
-/
namespace Go.Proofs.Ytmkhahiefdcinaa
open Go.ChangeShapes Go.WideShapes Go.ChangeAt Go.RowKit Go.BigFrame
set_option linter.unusedVariables false

/-- A list of integers that the call has made. -/
def Made (w w' : World) (T : TypeId) (l : List Int) (A : Option Addr) (n c : Nat) : Prop :=
  w'.ownsRow w.heap.size T 1 (.slice A n c) n (encs l) ∧ RepL w' (fun b => w.heap.size ≤ b ∧ b < w'.heap.size) l A n c
theorem Made.from_ {w w0 w' : World} {T : TypeId} {l : List Int} {A : Option Addr} {n c : Nat} (h : Made w w' T l A n c) (hs : w0.heap.size ≤ w.heap.size) : Made w0 w' T l A n c :=
  ⟨⟨h.1.1, h.1.2.imp id fun ⟨g, cap, cur, e1, e2, e3⟩ => ⟨g, cap, cur, e1, Nat.le_trans hs e2, e3⟩⟩, h.2.more fun b hb => ⟨Nat.le_trans hs hb.1, hb.2⟩⟩
theorem Made.nil_ (w w' : World) (T : TypeId) : Made w w' T [] none 0 0 :=
  ⟨World.ownsRow_nil _ _ _ _, RepL.of_own' (e := T) (base := w.heap.size) (s := 1) rfl rfl (World.ownsRow_nil _ _ _ _) (fun a ha => by cases ha)⟩

/-- The number at a place, 0 where there is none. -/
def pick (out : List Int) (p : Int) : Int := if 0 ≤ p then out.getD p.toNat 0 else 0
/-- The stamp of event k, given those ahead. -/
def stV (l : List P2) (k : Nat) (out : List Int) (e : P2) : Int := (if 0 ≤ e.b then max (pick out (lastAt l k e.a)) (pick out e.b) else pick out (lastAt l k e.a)) + 1
def stTo (l : List P2) : Nat → List Int
  | 0 => []
  | k + 1 => stTo l k ++ [match l[k]? with | some e => stV l k (stTo l k) e | none => 0]
theorem stTo_len (l : List P2) (k : Nat) : (stTo l k).length = k := by
  induction k with
  | zero => rfl
  | succ k ih => simp [stTo, ih]
theorem stTo_succ {l : List P2} {k : Nat} {e : P2} (h : l[k]? = some e) : stTo l (k + 1) = stTo l k ++ [stV l k (stTo l k) e] := by
  show stTo l k ++ [match l[k]? with | some e => stV l k (stTo l k) e | none => 0] = _
  rw [h]
theorem pick_nat (out : List Int) (j : Nat) (h : j < out.length) : pick out (j : Int) = out[j] := by
  unfold pick
  rw [if_pos (by omega), Int.toNat_natCast, List.getD_eq_getElem?_getD, List.getElem?_eq_getElem h]
  rfl
theorem pick_neg (out : List Int) {p : Int} (h : ¬ 0 ≤ p) : pick out p = 0 := by unfold pick; rw [if_neg h]
theorem pick_bd {out : List Int} {B : Int} (hB : 0 ≤ B) (h : ∀ x ∈ out, 0 ≤ x ∧ x ≤ B) (p : Int) : 0 ≤ pick out p ∧ pick out p ≤ B := by
  unfold pick
  split
  · rw [List.getD_eq_getElem?_getD]
    cases hx : out[p.toNat]? with
    | none => exact ⟨Int.le_refl _, hB⟩
    | some x => exact h x (List.mem_of_getElem? hx)
  · exact ⟨Int.le_refl _, hB⟩
theorem stV_bd {l : List P2} {k : Nat} {out : List Int} {e : P2} {B : Int} (hB : 0 ≤ B) (h : ∀ x ∈ out, 0 ≤ x ∧ x ≤ B) : 0 ≤ stV l k out e ∧ stV l k out e ≤ B + 1 := by
  have h1 := pick_bd hB h (lastAt l k e.a)
  have h2 := pick_bd hB h e.b
  unfold stV
  generalize pick out (lastAt l k e.a) = u at *
  generalize pick out e.b = v at *
  have hm : 0 ≤ max u v ∧ max u v ≤ B := by omega
  generalize max u v = m at *
  split <;> constructor <;> omega
theorem stTo_bd (l : List P2) (k : Nat) : ∀ x ∈ stTo l k, 0 ≤ x ∧ x ≤ (k : Int) := by
  induction k with
  | zero => intro x hx; cases hx
  | succ k ih =>
    intro x hx
    simp only [stTo, List.mem_append, List.mem_singleton] at hx
    rcases hx with hx | rfl
    · have := ih x hx; omega
    · split
      · rename_i e _
        have := stV_bd (l := l) (k := k) (e := e) (B := (k : Int)) (by omega) ih
        constructor <;> omega
      · constructor <;> omega
theorem stTo_ok {l : List P2} {k : Nat} (hk : k ≤ 1000000) : ∀ x ∈ stTo l k, (Flat.ok x : Prop) := by
  intro x hx
  have := stTo_bd l k x hx
  exact ⟨by omega, by omega⟩
/-- What StampsOf answers. -/
noncomputable def stOf (nodes : Int) (l : List P2) : List Int := if goodEv nodes l then stTo l l.length else []
theorem news_one {w : World} {x : Value} {e : TypeId} {g : Nat} (hg : g = w.heap.size) : ∀ j u, [x][j]? = some u → (w.alloc (.cells #[x] e)).cell? ((⟨g, 0, none⟩ : Addr).add j) = some u := by
  subst hg
  intro j u hj
  match j, hj with
  | 0, hj => simp at hj; subst hj; simp [Addr.add]

end Go.Proofs.Ytmkhahiefdcinaa

/-
  append onto a row of the call's own, the source nil, empty or not; grow a nil slice.
-/
namespace Go.Proofs.Ytmkhahiefdcinaa
open Go.ChangeShapes Go.WideShapes Go.ChangeAt Go.RowKit Go.BigFrame
set_option linter.unusedVariables false

section
variable {P : Program} (w : World)
theorem run_append_nil0 (base : Nat) (t ty e : TypeId) (i : TypeInfo) (size : Nat) (ht : P.underlying t = some (.slice e)) (hi : P.info? e = some i)
    (v : Value) (n : Nat) (xs : List Value) (hown : w.ownsRow base e size v n xs) (c : Nat) : (Builtin.append_ #[t, t] ty #[v, .slice none 0 c]).run P w = .ok v w := by
  rcases hown.2 with ⟨rfl, rfl⟩ | ⟨g, cap, cur, rfl, _, _, hnc, _⟩
  · simp [Builtin.append_, run_underlying ht, sizeOf, typeInfo, hi, Builtin.lenOf, Builtin.firstCells]
  · simp [Builtin.append_, run_underlying ht, sizeOf, typeInfo, hi, Builtin.lenOf, Builtin.firstCells, hnc, storeCells]

theorem run_append_rep (base : Nat) (t ty e : TypeId) (i : TypeInfo) (z : Value) (size bytes : Nat) (ht : P.underlying t = some (.slice e)) (hi : P.info? e = some i) (hz : i.zero = some z)
    (hsize : i.size = size) (hby : i.bytes = bytes) (hzs : z.cells.size = size) (hsz : 0 < size)
    (v : Value) (n : Nat) (xs : List Value) (hown : w.ownsRow base e size v n xs)
    (A : Option Addr) (m c : Nat) (news : List Value) (hl : news.length = m * size) (hnone : A = none → m = 0) (hcells : ∀ ad, A = some ad → ∀ j u, news[j]? = some u → w.cell? (ad.add j) = some u) (h1 : ∀ u ∈ news, u.oneCell' = true)
    (h63 : n + m ≤ maxLen) (hbytes : (n + m) * bytes ≤ 140737488355328) (hbase : base ≤ w.heap.size) :
    ∃ v' w', (Builtin.append_ #[t, t] ty #[v, .slice A m c]).run P w = .ok v' w' ∧ w'.ownsRow base e size v' (n + m) (xs ++ news) ∧ w.grownBy w' v.ownBlock ∧
      (v'.ownBlock = v.ownBlock ∨ v'.ownBlock = some w.heap.size) := by
  cases A with
  | none =>
    obtain rfl := hnone rfl
    have hn : news = [] := List.eq_nil_of_length_eq_zero (by simpa using hl)
    subst hn
    exact ⟨v, w, run_append_nil0 w base t ty e i size ht hi v n xs hown c, by simpa using hown, World.grownBy.refl w _, .inl rfl⟩
  | some ad =>
    obtain ⟨v', w', hrun, h2, h3, _, h5⟩ := run_append_own_at (P := P) w base t ty e i z size bytes ht hi hz hsize hby hzs hsz v n xs hown ad m c news hl (hcells ad rfl) h1 h63 hbytes hbase
    exact ⟨v', w', hrun, h2, h3, h5⟩

/-- 'append(v, x...)' in a plain region. -/
theorem wpList_append_rep {ops : Array Oper} {rest : List Oper} {o : Oper} {a : Act} {Q : Exit → Act → World → Prop} (hgd : o.guard = none) (s x : Operand) (t : TypeId)
    (ho : o.op = .call { callee := .builtin .append, args := #[s, x], argTypes := #[t, t] })
    (base : Nat) (e : TypeId) (i : TypeInfo) (z : Value) (size bytes : Nat) (ht : P.underlying t = some (.slice e)) (hi : P.info? e = some i) (hz : i.zero = some z)
    (hsize : i.size = size) (hby : i.bytes = bytes) (hzs : z.cells.size = size) (hsz : 0 < size)
    (v : Value) (n : Nat) (xs : List Value) (hs : a.eval s = v) (hown : w.ownsRow base e size v n xs)
    (A : Option Addr) (m c : Nat) (news : List Value) (hx : a.eval x = .slice A m c) (hl : news.length = m * size) (hnone : A = none → m = 0) (hcells : ∀ ad, A = some ad → ∀ j u, news[j]? = some u → w.cell? (ad.add j) = some u) (h1 : ∀ u ∈ news, u.oneCell' = true)
    (h63 : n + m ≤ maxLen) (hbytes : (n + m) * bytes ≤ 140737488355328) (hbase : base ≤ w.heap.size)
    (h : ∀ v' w', w'.ownsRow base e size v' (n + m) (xs ++ news) → w.grownBy w' v.ownBlock → (v'.ownBlock = v.ownBlock ∨ v'.ownBlock = some w.heap.size) → wpList P ops Q rest (a.put o.dst v') w') : wpList P ops Q (o :: rest) a w := by
  obtain ⟨v', w', hrun, h2, h3, h4⟩ := run_append_rep (P := P) w base t o.type e i z size bytes ht hi hz hsize hby hzs hsz v n xs hown A m c news hl hnone hcells h1 h63 hbytes hbase
  exact Lib.wpList_append_run w hgd s x t t ho v (.slice A m c) hs hx v' w' hrun (h v' w' h2 h3 h4)

/-- .. and the source reads as a list of flat values. -/
theorem wpList_append_list {α : Type} [Flat α] {ops : Array Oper} {rest : List Oper} {o : Oper} {a : Act} {Q : Exit → Act → World → Prop} (hgd : o.guard = none) (s x : Operand) (t : TypeId)
    (ho : o.op = .call { callee := .builtin .append, args := #[s, x], argTypes := #[t, t] })
    (base : Nat) (e : TypeId) (i : TypeInfo) (z : Value) (size bytes : Nat) (ht : P.underlying t = some (.slice e)) (hi : P.info? e = some i) (hz : i.zero = some z)
    (hsize : i.size = size) (hby : i.bytes = bytes) (hzs : z.cells.size = size) (hsz : 0 < size) (hfs : size = Flat.size α)
    (v : Value) (l : List α) (k : Nat) (hs : a.eval s = v) (hown : w.ownsRow base e size v k (encs l))
    (S : Nat → Prop) (A : Option Addr) (m c : Nat) (l' : List α) (hx : a.eval x = .slice A m c) (hr : RepL w S l' A m c)
    (hsm : k + m ≤ 1000000000) (hbm : bytes ≤ 100000) (hbase : base ≤ w.heap.size)
    (h : ∀ v' w', w'.ownsRow base e size v' (k + m) (encs (l ++ l')) → w.grownBy w' v.ownBlock → (v'.ownBlock = v.ownBlock ∨ v'.ownBlock = some w.heap.size) → wpList P ops Q rest (a.put o.dst v') w') : wpList P ops Q (o :: rest) a w :=
  wpList_append_rep w hgd s x t ho base e i z size bytes ht hi hz hsize hby hzs hsz v k (encs l) hs hown A m c (encs l') hx (by rw [encs_len, hfs, hr.1])
    (fun e => by subst e; exact hr.none_.1) (fun ad e => by subst e; exact hr.cells) (encs_one l') (by unfold maxLen; omega)
    (Nat.le_trans (Nat.mul_le_mul hsm hbm) (by omega)) hbase (fun v' w' h2 h3 h4 => h v' w' (by rw [encs_append]; exact h2) h3 h4)
end
theorem own_base {w w' : World} {base : Nat} {e : TypeId} {s n : Nat} {v : Value} {xs : List Value} {B : Nat} {a : World} (h : w.ownsRow base e s v n xs) (hb : Below B a w) (hB : B ≤ base) (hg : w.grownBy w' v.ownBlock) (hsz : B ≤ w.heap.size) : Below B a w' :=
  hb.grown hg hsz (fun k hk => Nat.le_trans hB (h.lt k hk).1)
end Go.Proofs.Ytmkhahiefdcinaa

/-
  Searching a list; function values that answer a test.
-/
namespace Go.Proofs.Ytmkhahiefdcinaa
open Go.ChangeShapes Go.WideShapes Go.ChangeAt Go.RowKit Go.BigFrame
set_option linter.unusedVariables false

/-- The first place at which p holds, or -1. -/
def idxP {α : Type} (p : α → Bool) (l : List α) : Int := match l.findIdx? p with | some k => (k : Int) | none => -1
theorem idxP_hit {α : Type} {p : α → Bool} {l : List α} {k : Nat} {x : α} (h : ∀ i y, i < k → l[i]? = some y → p y = false) (hx : l[k]? = some x) (hp : p x = true) : idxP p l = k := by
  have : l.findIdx? p = some k := by
    rw [List.findIdx?_eq_some_iff_getElem]
    obtain ⟨hk, e⟩ := List.getElem?_eq_some_iff.1 hx
    refine ⟨hk, by rw [e]; exact hp, fun j hj => ?_⟩
    simp [h j l[j] hj (List.getElem?_eq_getElem (by omega))]
  unfold idxP
  rw [this]
theorem idxP_miss {α : Type} {p : α → Bool} {l : List α} (h : ∀ i y, i < l.length → l[i]? = some y → p y = false) : idxP p l = -1 := by
  have : l.findIdx? p = none := by
    rw [List.findIdx?_eq_none_iff]
    intro x hx
    obtain ⟨i, hi, rfl⟩ := List.mem_iff_getElem.1 hx
    exact h i _ hi (List.getElem?_eq_getElem hi)
  unfold idxP
  rw [this]
theorem idxP_any {α : Type} (p : α → Bool) (l : List α) : decide (0 ≤ idxP p l) = l.any p := by
  unfold idxP
  cases h : l.findIdx? p with
  | none =>
    rw [List.findIdx?_eq_none_iff] at h
    have : l.any p = false := by rw [List.any_eq_false]; intro x hx; simp [h x hx]
    rw [this]
    simp
  | some k =>
    rw [List.findIdx?_eq_some_iff_getElem] at h
    obtain ⟨hk, hp, _⟩ := h
    have : l.any p = true := List.any_eq_true.2 ⟨_, List.getElem_mem hk, hp⟩
    rw [this]
    simp
theorem idxP_bd {α : Type} (p : α → Bool) (l : List α) : -1 ≤ idxP p l ∧ idxP p l < l.length := by
  unfold idxP
  cases h : l.findIdx? p with
  | none => exact ⟨Int.le_refl _, by simp only; omega⟩
  | some k =>
    rw [List.findIdx?_eq_some_iff_getElem] at h
    obtain ⟨hk, _⟩ := h
    constructor
    · simp only; omega
    · simp only; omega

/-- A function value of the program that answers p, in every world that is as w was below w's end. -/
def Pred {α : Type} (P : Program) (g : Nat) (lb : Array Value) (enc : α → Value) (ok : α → Prop) (p : α → Bool) (w : World) : Prop :=
  ∀ (W : World) (x : α), ok x → Below w.heap.size w W → Calls P g (#[enc x] ++ lb) W fun e w' => e = .returned (.bool (p x)) ∧ Below W.heap.size W w'
theorem Pred.up {α : Type} {P : Program} {g : Nat} {lb : Array Value} {enc : α → Value} {ok : α → Prop} {p : α → Bool} {w w' : World} (h : Pred P g lb enc ok p w) (hb : Below w.heap.size w w') : Pred P g lb enc ok p w' :=
  fun W x hx hW => h W x hx (bnext hb hW)

end Go.Proofs.Ytmkhahiefdcinaa

/-
  slices.IndexFunc, ContainsFunc at []int.
-/
namespace Go.Proofs.Ytmkhahiefdcinaa
open Go.ChangeShapes Go.WideShapes Go.ChangeAt Go.RowKit Go.BigFrame
set_option linter.unusedVariables false


theorem indexFuncInt_any (p : Int → Bool) (gg : Nat) (lb : Array Value) (eg : ∀ args w, (callFunc gg args).run Try.prog w = .ok (.enter gg args) w) (l : List Int) (w : World) (S : Nat → Prop) (hS : ∀ b, S b → b < w.heap.size) (A : Option Addr) (n c : Nat) (hl0 : RepL w S l A n c)
    (hp : Pred Try.prog gg lb (fun x : Int => .int .i64 x) Flat.ok p w) :
    Calls Try.prog 75 #[.slice A n c, .func (.func gg) #[] lb] w fun x w' => x = .returned (.int .i64 (idxP p l)) ∧ Below w.heap.size w w' := by
  have hbd := hl0.bd
  obtain ⟨hn, -⟩ := id hl0
  have Hn := Lib.hid hn
  have Hp := Lib.hid hp
  clear hn hp
  go_enter Try.func75, Try.ntmps75
  go_wp2_with fail
  go_loopw [8] (fun i wr => ∃ k : Nat, k ≤ n ∧ i = .int .i64 k ∧ (∀ i y, i < k → l[i]? = some y → p y = false) ∧ Below w.heap.size w wr) (fun i _ => n - (intOf i).toNat)
  case atStart => exact ⟨0, Nat.zero_le _, rfl, fun i y hi => absurd hi (by omega), Below.refl _ _⟩
  case round =>
    obtain ⟨k, hk, rfl, hpre, hbel⟩ := hrel
    have Hpre := Lib.hid hpre
    clear hpre
    by_cases hlt : k < n
    · have hl1 : k < l.length := by have := Hn.out; omega
      obtain ⟨b, off, rfl, hSb, hc, hok⟩ := hl0.at1 rfl hl1
      have hc0 : wr.cell? ⟨b, off + k, none⟩ = some (.int .i64 l[k]) := (hbel.cell (hS _ hSb)).trans (hc _ rfl)
      have Hk := Lib.hid (show l[k]? = some l[k] from List.getElem?_eq_getElem hl1)
      have Hc := Lib.hid (Hp.out wr l[k] hok hbel)
      clear hc hok
      cases hq : p l[k] with
      | true =>
        rw [hq] at Hc
        have Hf := Lib.hid (idxP_hit Hpre.out Hk.out hq)
        clear hq
        go_wp2_with (go_at_fn gg; refine Hc.out.mono ?_; rintro e w1 ⟨rfl, b1⟩)
        go_ret
        exact ⟨by rw [Hf.out]; rfl, hbel.trans (b1.mono hbel.size)⟩
      | false =>
        rw [hq] at Hc
        have Hq := Lib.hid hq
        clear hq
        go_wp2_with (go_at_fn gg; refine Hc.out.mono ?_; rintro e w1 ⟨rfl, b1⟩)
        go_roundw
        case rel =>
          refine ⟨k + 1, by omega, by go_num, fun i y hi hy => ?_, hbel.trans (b1.mono hbel.size)⟩
          by_cases hik : i = k
          · subst hik
            rw [Hk.out] at hy
            obtain rfl := Option.some.inj hy
            exact Hq.out
          · exact Hpre.out i y (by omega) hy
        case measure => simp [intOf]; omega
    · have Hf := Lib.hid (idxP_miss (p := p) (l := l) fun i y hi hy => Hpre.out i y (by have := Hn.out; omega) hy)
      go_wp2_with fail
      go_ret
      exact ⟨by rw [Hf.out]; rfl, hbel⟩

theorem containsFuncInt_any (p : Int → Bool) (gg : Nat) (lb : Array Value) (eg : ∀ args w, (callFunc gg args).run Try.prog w = .ok (.enter gg args) w) (l : List Int) (w : World) (S : Nat → Prop) (hS : ∀ b, S b → b < w.heap.size) (A : Option Addr) (n c : Nat) (hl0 : RepL w S l A n c)
    (hp : Pred Try.prog gg lb (fun x : Int => .int .i64 x) Flat.ok p w) (r : Bool) (hr : l.any p = r) :
    Calls Try.prog 70 #[.slice A n c, .func (.func gg) #[] lb] w fun x w' => x = .returned (.bool r) ∧ Below w.heap.size w w' := by
  have C1 := Lib.hid (indexFuncInt_any p gg lb eg l w S hS A n c hl0 hp)
  obtain ⟨q, hq⟩ : ∃ q, idxP p l = q := ⟨_, rfl⟩
  rw [hq] at C1
  have hd : decide (0 ≤ q) = r := by rw [← hq, idxP_any, hr]
  clear hq hr hp
  go_enter Try.func70, Try.ntmps70
  go_wp2_with fail
  refine C1.out.mono ?_
  rintro e w1 ⟨rfl, b1⟩
  go_wp2_with fail
  go_ret
  exact ⟨rfl, b1⟩

end Go.Proofs.Ytmkhahiefdcinaa

/-
  slices.Grow of nil, slices.Concat at []int.
-/
namespace Go.Proofs.Ytmkhahiefdcinaa
open Go.ChangeShapes Go.WideShapes Go.ChangeAt Go.RowKit Go.BigFrame
set_option linter.unusedVariables false
set_option maxRecDepth 100000


theorem growNilInt_any (n : Nat) (hsm : n ≤ 100000000) (w : World) :
    Calls Try.prog 76 #[.slice none 0 0, .int .i64 n] w fun x w' => ∃ v, x = .returned v ∧ w'.ownsRow w.heap.size 3 1 v 0 [] ∧ Below w.heap.size w w' := by
  have hinfo : (Try.prog.info? 3).map (fun i => (i.zero, i.size, i.bytes)) = some (some (.int .i64 0), 1, 8) := by kernel_rfl
  obtain ⟨i0, hi, hz0, hz1, hz2⟩ := info_parts hinfo
  rcases Nat.eq_zero_or_pos n with hz | hz
  · subst hz
    go_enter Try.func76, Try.ntmps76
    go_wp2
    go_ret
    exact ⟨_, rfl, World.ownsRow_nil _ _ _ _, Below.refl _ _⟩
  · have hold : (Builtin.firstCells i0.size 0 (.slice none 0 0)).run Try.prog w.drew = .ok (List.toArray []) w.drew := run_firstCells_none w.drew i0.size 0 0 0
    obtain ⟨G, hG⟩ : ∃ G, grownCap w (0 + n) 0 3 = G := ⟨_, rfl⟩
    have hGn : n ≤ G := by have := grownCap_ge w (0 + n) 0 3; omega
    have hG63 : G ≤ maxLen := by rw [← hG]; exact grownCap_le_maxLen w (0 + n) 0 3 (by unfold maxLen; omega)
    have hrz : ∀ ty, (Builtin.append_ #[30, 3] ty #[.slice none 0 0, .int .i64 (n : Int)]).run Try.prog w =
        .ok (.slice (some ⟨w.heap.size, 0, none⟩) n G) (w.drew.alloc (.cells ((List.toArray []) ++ Builtin.zeroCells (Value.cells (.int .i64 0)) n ++ Builtin.zeroCells (Value.cells (.int .i64 0)) (G - n)) 3)) := fun ty => by
      have h := Lib.run_append_grow_zeros (P := Try.prog) w 30 3 ty 3 i0 _ .i64 .i64 Try.underlying30 Try.underlying3 hi hz0 none 0 0 [] hold n hz (by omega) (by omega) (by omega)
        (by rw [hz2]; omega) (growslice_fits (by omega) (by rw [hz2]; omega))
      rw [hG, Nat.zero_add] at h
      exact h
    have HG := Lib.hid hG
    clear hG hold
    obtain ⟨W, hW⟩ : ∃ W, W = w.drew.alloc (.cells ((List.toArray []) ++ Builtin.zeroCells (Value.cells (.int .i64 0)) n ++ Builtin.zeroCells (Value.cells (.int .i64 0)) (G - n)) 3) := ⟨_, rfl⟩
    rw [← hW] at hrz
    have hown : W.ownsRow w.heap.size 3 1 (.slice (some ⟨w.heap.size, 0, none⟩) 0 G) 0 [] := by
      rw [hW]
      refine ⟨rfl, .inr ⟨w.heap.size, G, _, rfl, Nat.le_refl _, heap_alloc_new w.drew _, Nat.zero_le _, hG63, ?_, by simp⟩⟩
      simp only [Array.size_append, List.size_toArray, List.length_nil, size_zeroCells]
      simp [Value.cells]
      omega
    have hb : Below w.heap.size w W := by rw [hW]; exact ((Below.refl _ w).drew).alloc (Nat.le_refl _) _
    clear hW
    have hG' : n ≤ 9223372036854775807 ∧ G ≤ 9223372036854775807 := by unfold maxLen at hG63; omega
    go_enter Try.func76, Try.ntmps76
    go_wp2_with (at_builtin; refine Lib.wpList_append_run _ rfl (.tmp 20) (.tmp 21) _ _ rfl _ _ rfl rfl _ _ (hrz _) ?_)
    go_ret
    exact ⟨_, rfl, hown, hb⟩

/-- How many elements the lists hold together. -/
def total {α : Type} (ls : List (List α)) : Nat := (ls.map List.length).sum
theorem total_take {α : Type} (ls : List (List α)) (k : Nat) (hk : k < ls.length) : total (ls.take (k + 1)) = total (ls.take k) + ls[k].length := by
  unfold total
  rw [List.take_succ_eq_append_getElem hk, List.map_append, List.sum_append]
  simp
theorem total_flatten {α : Type} (ls : List (List α)) : total ls = ls.flatten.length := by
  unfold total
  rw [List.length_flatten]
theorem flatten_take {α : Type} (ls : List (List α)) (k : Nat) (hk : k < ls.length) : (ls.take (k + 1)).flatten = (ls.take k).flatten ++ ls[k] := by
  rw [List.take_succ_eq_append_getElem hk, List.flatten_append]
  simp
theorem total_le {α : Type} (ls : List (List α)) (k : Nat) : total (ls.take k) ≤ total ls := by
  unfold total
  conv => rhs; rw [← List.take_append_drop k ls]
  rw [List.map_append, List.sum_append]
  omega

theorem concatInt_any (ls : List (List Int)) (w : World) (S : Nat → Prop) (hS : ∀ b, S b → b < w.heap.size) (A : Option Addr) (n c : Nat) (hl0 : RepL w S ls A n c) (hsm : total ls ≤ 100000000) :
    Calls Try.prog 71 #[.slice A n c] w fun x w' => ∃ A' c', x = .returned (.slice A' (total ls) c') ∧ w'.ownsRow w.heap.size 3 1 (.slice A' (total ls) c') (total ls) (encs ls.flatten) ∧ RepL w' (fun b => w.heap.size ≤ b ∧ b < w'.heap.size) ls.flatten A' (total ls) c' ∧ Below w.heap.size w w' := by
  have hinfo : (Try.prog.info? 3).map (fun i => (i.zero, i.size, i.bytes)) = some (some (.int .i64 0), 1, 8) := by kernel_rfl
  obtain ⟨i0, hi, hz0, hz1, hz2⟩ := info_parts hinfo
  have hbd := hl0.bd
  obtain ⟨hn, -⟩ := id hl0
  have Hn := Lib.hid hn
  clear hn
  go_enter Try.func71, Try.ntmps71
  go_wp2_with fail
  go_loopw [3, 11] (fun q i wr => ∃ k : Nat, k ≤ n ∧ i = .int .i64 k ∧ q = .int .i64 (total (ls.take k) : Nat) ∧ Below w.heap.size w wr) (fun _ i _ => n - (intOf i).toNat)
  case atStart => exact ⟨0, Nat.zero_le _, rfl, by simp [total], Below.refl _ _⟩
  case round =>
    obtain ⟨k, hk, rfl, rfl, hbel⟩ := hrel
    by_cases hlt : k < n
    · have hl1 : k < ls.length := by have := Hn.out; omega
      obtain ⟨b, off, A1, c1, rfl, hSb, hc, hr⟩ := hl0.row hl1
      have hc0 : wr.cell? ⟨b, off + k, none⟩ = some (.slice A1 ls[k].length c1) := (hbel.cell (hS _ hSb)).trans hc
      have h1 := total_le ls (k + 1)
      have h2 := total_take ls k hl1
      rw [h2] at h1
      have H2 := Lib.hid h2
      clear h2 hc
      generalize total (ls.take k) = q at *
      go_wp2_with fail
      go_roundw
      case rel => exact ⟨k + 1, by omega, by go_num, by rw [H2.out]; go_num, hbel⟩
      case measure => simp [intOf]; omega
    · obtain rfl : k = n := by omega
      have ht : total (ls.take k) = total ls := by rw [List.take_of_length_le (by have := Hn.out; omega)]
      rw [ht]
      clear ht
      go_wp2_with fail
      refine (growNilInt_any (total ls) hsm wr).mono ?_
      rintro e w1 ⟨v, rfl, hown, b1⟩
      have hb1 := hbel.trans (b1.mono hbel.size)
      have hown' : w1.ownsRow w.heap.size 3 1 v 0 [] := ⟨hown.1, hown.2.imp id fun ⟨g, cap, cur, e1, e2, e3⟩ => ⟨g, cap, cur, e1, Nat.le_trans hbel.size e2, e3⟩⟩
      clear hown
      go_wp2_with fail
      go_loopw [6, 27] (fun v i wr => ∃ j : Nat, j ≤ k ∧ i = .int .i64 j ∧ wr.ownsRow w.heap.size 3 1 v (total (ls.take j)) (encs (ls.take j).flatten) ∧ Below w.heap.size w wr) (fun _ i _ => k - (intOf i).toNat)
      case atStart => exact ⟨0, Nat.zero_le _, rfl, by simpa [total, encs] using hown', hb1⟩
      case round =>
        obtain ⟨j, hj, rfl, hown2, hbel2⟩ := hrel
        by_cases hlt2 : j < k
        · have hl1 : j < ls.length := by have := Hn.out; omega
          obtain ⟨b, off, A1, c1, rfl, hSb, hc, hr⟩ := hl0.row hl1
          have hc0 : wr.cell? ⟨b, off + j, none⟩ = some (.slice A1 ls[j].length c1) := (hbel2.cell (hS _ hSb)).trans hc
          have hr1 := Lib.hid (hr.keep (w' := wr) (fun p hp => hbel2.cell (hS _ hp)))
          have h1 := total_le ls (j + 1)
          have h2 := total_take ls j hl1
          rw [h2] at h1
          have H2 := Lib.hid h2
          have H3 := Lib.hid (flatten_take ls j hl1)
          clear h2 hc hr
          generalize hq : total (ls.take j) = q at *
          clear hq
          have Hown2 := Lib.hid hown2
          have Hbel2 := Lib.hid hbel2
          go_wp2_with (at_builtin; refine wpList_append_list (α := Int) _ rfl (.tmp 31) (.tmp 32) _ rfl w.heap.size 3 i0 _ 1 8 Try.underlying30 hi hz0 hz1 hz2 rfl (by omega) rfl _ _ q rfl Hown2.out S A1 ls[j].length c1 ls[j] rfl hr1.out (by omega) (by omega) Hbel2.out.size ?_; intro v1 w2 hown3 hg2 hat2)
          go_roundw
          case rel => exact ⟨j + 1, by omega, by go_num, by rw [H2.out, H3.out]; exact hown3, own_base Hown2.out Hbel2.out (Nat.le_refl _) hg2 Hbel2.out.size⟩
          case measure => simp [intOf]; omega
        · go_wp2_with fail
          go_ret
          obtain rfl : j = k := by omega
          have e1 : ls.take j = ls := List.take_of_length_le (by have := Hn.out; omega)
          rw [e1] at hown2
          obtain ⟨A', c', rfl⟩ := own_slice hown2
          refine ⟨A', c', rfl, hown2, RepL.of_own' rfl (total_flatten ls) hown2 ?_, hbel2⟩
          intro a ha
          obtain ⟨r, hr, har⟩ := List.mem_flatten.1 ha
          obtain ⟨i, hi, rfl⟩ := List.mem_iff_getElem.1 hr
          obtain ⟨_, _, _, _, _, _, _, hrr⟩ := hl0.row hi
          exact hrr.ok a har

end Go.Proofs.Ytmkhahiefdcinaa

/-
  Contracts: l1All, l11Clock of the reference; areClocks of the program.
-/
namespace Go.Proofs.Ytmkhahiefdcinaa
open Go.ChangeShapes Go.WideShapes Go.ChangeAt Go.RowKit Go.BigFrame
set_option linter.unusedVariables false

/-- A row of two rows. -/
theorem RepL.two {α : Type} [Rep α] {W : World} {S : Nat → Prop} {a b : List α} {A A' : Option Addr} {n c n' c' g : Nat} {T : TypeId} (h : RepL W S a A n c) (h' : RepL W S b A' n' c') (hg : W.heap[g]? = some (.cells #[.slice A n c, .slice A' n' c'] T (0, 0))) :
    RepL W (fun x => S x ∨ x = g) [a, b] (some ⟨g, 0, none⟩) 2 2 := by
  refine ⟨rfl, some ⟨g, 0, none⟩, 2, rfl, Nat.le_refl _, by simp [maxLen], (fun e => by cases e), fun i hi => ?_⟩
  have hz : Rep.size (List α) = 1 := rfl
  match i, hi with
  | 0, _ =>
    obtain ⟨rfl, hr⟩ := h
    refine ⟨g, 0, [.slice A a.length c], rfl, .inr rfl, fun j u hu => ?_, Rep.more hr (fun _ hx => .inl hx)⟩
    cases j with
    | zero =>
      rw [cell_of_row W g _ _ T (0, 0) hg]
      simpa using hu
    | succ j => simp at hu
  | 1, _ =>
    obtain ⟨rfl, hr⟩ := h'
    refine ⟨g, 0, [.slice A' b.length c'], rfl, .inr rfl, fun j u hu => ?_, Rep.more hr (fun _ hx => .inl hx)⟩
    cases j with
    | zero =>
      rw [cell_of_row W g _ _ T (0, 0) hg]
      simpa [hz] using hu
    | succ j => simp at hu

/-- All numbers lie from lo to hi. -/
def allIn (lo hi : Int) (l : List Int) : Bool := l.all fun x => decide (lo ≤ x ∧ x ≤ hi)

theorem l1All_any (lo hi : Int) (l : List Int) (r : Bool) (hr : allIn lo hi l = r) (w : World) (S : Nat → Prop) (hS : ∀ b, S b → b < w.heap.size) (A : Option Addr) (n c : Nat) (hl0 : RepL w S l A n c) :
    Calls Try.prog 74 #[.slice A n c, .int .i64 lo, .int .i64 hi] w fun x w' => x = .returned (.bool r) ∧ Below w.heap.size w w' := by
  have hbd := hl0.bd
  obtain ⟨hn, -⟩ := id hl0
  have Hn := Lib.hid hn
  have Hr := Lib.hid hr
  clear hn hr
  go_enter Try.func74, Try.ntmps74
  go_wp2_with fail
  go_loopw [11] (fun i wr => ∃ k : Nat, k ≤ n ∧ i = .int .i64 k ∧ allIn lo hi (l.take k) = true ∧ Below w.heap.size w wr) (fun i _ => n - (intOf i).toNat)
  case atStart => exact ⟨0, Nat.zero_le _, rfl, rfl, Below.refl _ _⟩
  case round =>
    obtain ⟨k, hk, rfl, hpre, hbel⟩ := hrel
    have Hpre := Lib.hid hpre
    clear hpre
    by_cases hlt : k < n
    · have hl1 : k < l.length := by have := Hn.out; omega
      obtain ⟨b, off, rfl, hSb, hc, hok⟩ := hl0.at1 rfl hl1
      have hc0 : wr.cell? ⟨b, off + k, none⟩ = some (.int .i64 l[k]) := (hbel.cell (hS _ hSb)).trans (hc _ rfl)
      clear hc hok
      by_cases hin : lo ≤ l[k] ∧ l[k] ≤ hi
      · have Hd := Lib.hid (decide_eq_true hin)
        have Hs := Lib.hid (show allIn lo hi (l.take (k + 1)) = true by have := Hpre.out; unfold allIn at *; rw [List.take_succ_eq_append_getElem hl1, List.all_append, this]; simp [hin])
        go_wp2_with (go_at_call 67; refine (l1In_any _ _ _ _ Hd.out _).mono ?_; rintro e w1 ⟨rfl, hb1⟩)
        go_roundw
        case rel => exact ⟨k + 1, by omega, by go_num, Hs.out, hbel.trans (hb1.mono hbel.size)⟩
        case measure => simp [intOf]; omega
      · have Hd := Lib.hid (decide_eq_false hin)
        have Hf := Lib.hid (show r = false by rw [← Hr.out]; unfold allIn; rw [List.all_eq_false]; exact ⟨l[k], List.getElem_mem hl1, by simpa using hin⟩)
        go_wp2_with (go_at_call 67; refine (l1In_any _ _ _ _ Hd.out _).mono ?_; rintro e w1 ⟨rfl, hb1⟩)
        go_ret
        exact ⟨by rw [Hf.out]; rfl, hbel.trans (hb1.mono hbel.size)⟩
    · have Hf := Lib.hid (show r = true by rw [← Hr.out, ← Hpre.out, List.take_of_length_le (by have := Hn.out; omega)])
      go_wp2_with fail
      go_ret
      exact ⟨by rw [Hf.out]; rfl, hbel⟩

/-- A clock of the document. -/
def clockOk (l : List Int) : Bool := decide (1 ≤ (l.length : Int) ∧ (l.length : Int) ≤ 5) && allIn 0 40 l
theorem l11Clock_any (l : List Int) (r : Bool) (hr : clockOk l = r) (w : World) (S : Nat → Prop) (hS : ∀ b, S b → b < w.heap.size) (A : Option Addr) (n c : Nat) (hl0 : RepL w S l A n c) :
    Calls Try.prog 63 #[.slice A n c] w fun x w' => x = .returned (.bool r) ∧ Below w.heap.size w w' := by
  obtain ⟨hn, -⟩ := id hl0
  unfold clockOk at hr
  rw [← hn] at hr
  by_cases hin : 1 ≤ (n : Int) ∧ (n : Int) ≤ 5
  · have Hd := Lib.hid (decide_eq_true hin)
    rw [decide_eq_true hin, Bool.true_and] at hr
    have Hr := Lib.hid hr
    clear hr hn hin
    go_enter Try.func63, Try.ntmps63
    go_wp2_with fail
    refine (l1In_any _ _ _ _ Hd.out _).mono ?_
    rintro e w1 ⟨rfl, b1⟩
    go_wp2_with fail
    refine (l1All_any _ _ l _ Hr.out w1 S (fun b hb => Nat.lt_of_lt_of_le (hS b hb) b1.size) A n c (hl0.keep (fun p hp => b1.cell (hS _ hp)))).mono ?_
    rintro e w2 ⟨rfl, b2⟩
    go_wp2_with fail
    go_ret
    exact ⟨rfl, bnext b1 b2⟩
  · have Hd := Lib.hid (decide_eq_false hin)
    rw [decide_eq_false hin, Bool.false_and] at hr
    subst hr
    clear hn hin
    go_enter Try.func63, Try.ntmps63
    go_wp2_with fail
    refine (l1In_any _ _ _ _ Hd.out _).mono ?_
    rintro e w1 ⟨rfl, b1⟩
    go_wp2_with fail
    go_ret
    exact ⟨rfl, b1⟩

/-- Two clocks of as many nodes. -/
def okCk (a b : List Int) : Bool := decide (1 ≤ (a.length : Int) ∧ (a.length : Int) ≤ 5) && (decide (a.length = b.length) && (allIn 0 40 a && allIn 0 40 b))
theorem okCk_spec (a b : List Int) : okCk a b = (clockOk a && (clockOk b && decide (a.length = b.length))) := by
  unfold okCk clockOk
  by_cases h : a.length = b.length
  · rw [h]
    generalize decide (1 ≤ (b.length : Int) ∧ (b.length : Int) ≤ 5) = x
    cases x <;> simp
  · rw [decide_eq_false h]
    simp
theorem okCk_len {a b : List Int} (h : okCk a b = true) : a.length = b.length := by
  unfold okCk at h
  simp only [Bool.and_eq_true, decide_eq_true_eq] at h
  exact h.2.1
theorem any_out (a b : List Int) : (a ++ b).any (fun x => !decide (0 ≤ x ∧ x ≤ 40)) = !(allIn 0 40 a && allIn 0 40 b) := by
  unfold allIn
  rw [← List.all_append, List.not_all_eq_any_not]

theorem areClocks1_pred (w : World) : Pred Try.prog 72 #[] (fun x : Int => .int .i64 x) Flat.ok (fun x => !decide (0 ≤ x ∧ x ≤ 40)) w := by
  intro W x _ hW
  have key : ∀ r, decide (0 ≤ x ∧ x ≤ 40) = r → Calls Try.prog 72 #[.int .i64 x] W fun e w' => e = .returned (.bool (!r)) ∧ Below W.heap.size W w' := by
    intro r hr
    have Hr := Lib.hid hr
    clear hr
    go_enter Try.func72, Try.ntmps72
    go_wp2_with fail
    refine (within_any _ _ _ _ Hr.out _).mono ?_
    rintro e w1 ⟨rfl, b1⟩
    go_wp2_with fail
    go_ret
    exact ⟨rfl, b1⟩
  have e : (#[Value.int .i64 x] ++ #[] : Array Value) = #[.int .i64 x] := by simp
  show Calls Try.prog 72 (#[Value.int .i64 x] ++ #[]) W fun e w' => e = .returned (.bool (!decide (0 ≤ x ∧ x ≤ 40))) ∧ Below W.heap.size W w'
  rw [e]
  exact key _ rfl

theorem areClocks_any (a b : List Int) (r : Bool) (hr : okCk a b = r) (w : World) (S : Nat → Prop) (hS : ∀ b, S b → b < w.heap.size) (A A' : Option Addr) (n c n' c' : Nat) (hl0 : RepL w S a A n c) (hl1 : RepL w S b A' n' c') :
    Calls Try.prog 59 #[.slice A n c, .slice A' n' c'] w fun x w' => x = .returned (.bool r) ∧ Below w.heap.size w w' := by
  obtain ⟨hn, -⟩ := id hl0
  obtain ⟨hn', -⟩ := id hl1
  have eg := enters_of Try.func72 (by kernel_rfl) rfl
  unfold okCk at hr
  rw [← hn, ← hn'] at hr
  by_cases hin : 1 ≤ (n : Int) ∧ (n : Int) ≤ 5
  · have Hd := Lib.hid (decide_eq_true hin)
    rw [decide_eq_true hin, Bool.true_and] at hr
    by_cases he : n = n'
    · have hd2 : ((n : Int) == (n' : Int)) = true := by simp [he]
      rw [decide_eq_true he, Bool.true_and] at hr
      have Hr := Lib.hid (show (([a, b].flatten).any fun x => !decide (0 ≤ x ∧ x ≤ 40)) = !r by simp only [List.flatten_cons, List.flatten_nil, List.append_nil]; rw [any_out, hr])
      have Ht := Lib.hid (show total [a, b] ≤ 100 by unfold total; simp; omega)
      clear hr hn hn' hin he
      go_enter Try.func59, Try.ntmps59
      go_wp2_with fail
      refine (within_any _ _ _ _ Hd.out _).mono ?_
      rintro e w1 ⟨rfl, b1⟩
      have h0 := hl0.keep (w' := w1) (fun p hp => b1.cell (hS _ hp))
      have h1 := hl1.keep (w' := w1) (fun p hp => b1.cell (hS _ hp))
      have hS1 : ∀ b, S b → b < w1.heap.size := fun b hb => Nat.lt_of_lt_of_le (hS b hb) b1.size
      obtain ⟨W, hW⟩ : ∃ W, W = w1.alloc (.cells #[.slice A n c, .slice A' n' c'] 30) := ⟨_, rfl⟩
      have bW : Below w1.heap.size w1 W := by rw [hW]; exact (Below.refl _ _).alloc (Nat.le_refl _) _
      have hg : W.heap[w1.heap.size]? = some (.cells #[.slice A n c, .slice A' n' c'] 30 (0, 0)) := by rw [hW]; exact heap_alloc_new w1 _
      have h2 := Lib.hid (RepL.two (h0.keep (w' := W) (fun p hp => bW.cell (hS1 _ hp))) (h1.keep (w' := W) (fun p hp => bW.cell (hS1 _ hp))) hg)
      have hlt : w1.heap.size < W.heap.size := (Array.getElem?_eq_some_iff.1 hg).1
      have HW := Lib.hid hW
      clear hW hg
      go_wp2_with fail
      rw [← HW.out]
      refine (concatInt_any [a, b] W _ (fun x hx => by rcases hx with hx | rfl; (· exact Nat.lt_of_lt_of_le (hS1 _ hx) bW.size); exact hlt) _ _ _ h2.out (by have := Ht.out; omega)).mono ?_
      rintro e w2 ⟨A2, c2, rfl, -, r2, b2⟩
      go_wp2_with fail
      refine (containsFuncInt_any (fun x => !decide (0 ≤ x ∧ x ≤ 40)) 72 #[] eg [a, b].flatten w2 _ (fun x hx => hx.2) A2 _ c2 r2 (areClocks1_pred w2) _ Hr.out).mono ?_
      rintro e w3 ⟨rfl, b3⟩
      go_wp2_with fail
      go_ret
      exact ⟨rfl, bnext b1 (bnext bW (bnext b2 b3))⟩
    · have hd2 : ((n : Int) == (n' : Int)) = false := by simp; omega
      rw [decide_eq_false he, Bool.false_and] at hr
      subst hr
      clear hn hn' hin he
      go_enter Try.func59, Try.ntmps59
      go_wp2_with fail
      refine (within_any _ _ _ _ Hd.out _).mono ?_
      rintro e w1 ⟨rfl, b1⟩
      go_wp2_with fail
      go_ret
      exact ⟨rfl, b1⟩
  · have Hd := Lib.hid (decide_eq_false hin)
    rw [decide_eq_false hin, Bool.false_and] at hr
    subst hr
    clear hn hn' hin
    go_enter Try.func59, Try.ntmps59
    go_wp2_with fail
    refine (within_any _ _ _ _ Hd.out _).mono ?_
    rintro e w1 ⟨rfl, b1⟩
    go_wp2_with fail
    go_ret
    exact ⟨rfl, b1⟩

end Go.Proofs.Ytmkhahiefdcinaa

/-
  slices.Clone at []int.
-/
namespace Go.Proofs.Ytmkhahiefdcinaa
open Go.ChangeShapes Go.WideShapes Go.ChangeAt Go.RowKit Go.BigFrame
set_option linter.unusedVariables false


theorem cloneInt_any (l : List Int) (w : World) (S : Nat → Prop) (hS : ∀ b, S b → b < w.heap.size) (A : Option Addr) (n c : Nat) (hl0 : RepL w S l A n c) (hsm : n ≤ 100000000) :
    Calls Try.prog 65 #[.slice A n c] w fun x w' => ∃ A' c', x = .returned (.slice A' n c') ∧ w'.ownsRow w.heap.size 3 1 (.slice A' n c') n (encs l) ∧ RepL w' (fun b => w.heap.size ≤ b ∧ b < w'.heap.size) l A' n c' ∧ Below w.heap.size w w' := by
  have hinfo : (Try.prog.info? 3).map (fun i => (i.zero, i.size, i.bytes)) = some (some (.int .i64 0), 1, 8) := by kernel_rfl
  obtain ⟨i0, hi, hz0, hz1, hz2⟩ := info_parts hinfo
  have hbd := hl0.bd
  obtain ⟨hn, -⟩ := id hl0
  have Hn := Lib.hid hn
  clear hn
  have heq := fun W : World => Lib.run_eql_slice_nil (P := Try.prog) W 30 3 A n c 0 0 Try.underlying30
  cases A with
  | none =>
    obtain ⟨rfl, rfl⟩ := hl0.none_
    go_enter Try.func65, Try.ntmps65
    go_wp2
    go_ret
    exact ⟨none, 0, rfl, World.ownsRow_nil _ _ _ _, RepL.of_own' (e := 3) (base := w.heap.size) rfl rfl (World.ownsRow_nil _ _ _ _) hl0.ok, Below.refl _ _⟩
  | some ad =>
    have hr := Lib.hid (hl0.keep (w' := w.alloc (.cells #[] 3)) (fun p hp => World.cell?_alloc_lt w _ p (hS _ hp)))
    go_enter Try.func65, Try.ntmps65
    go_wp2_with (at_builtin; refine wpList_append_list (α := Int) _ rfl (.tmp 5) (.tmp 6) _ rfl w.heap.size 3 i0 _ 1 8 Try.underlying30 hi hz0 hz1 hz2 rfl (by omega) rfl (.slice (some ⟨w.heap.size, 0, none⟩) 0 0) [] 0 rfl (World.ownsRow_lit w #[] 0 (Nat.le_refl _) (Nat.zero_le _) rfl) S (some ad) n c l rfl hr.out (by omega) (by omega) (by simp) ?_; intro v1 w1 hown1 hg1 hat1)
    go_ret
    simp only [Nat.zero_add, List.nil_append] at hown1
    obtain ⟨A', c', rfl⟩ := own_slice hown1
    refine ⟨A', c', rfl, hown1, RepL.of_own' rfl Hn.out hown1 hl0.ok, ?_⟩
    exact ((Below.refl _ w).alloc (Nat.le_refl _) (.cells #[] 3)).grown hg1 (by simp) (fun k hk => by simp [Value.ownBlock] at hk; omega)

end Go.Proofs.Ytmkhahiefdcinaa

/-
  Contracts: l11Most of the reference.
-/
namespace Go.Proofs.Ytmkhahiefdcinaa
open Go.ChangeShapes Go.WideShapes Go.ChangeAt Go.RowKit Go.BigFrame
set_option linter.unusedVariables false

/-- The greater of two numbers at each place. -/
def mostL (a b : List Int) : List Int := List.zipWith max a b
/-- .. at the first k places. -/
def mostTo (a b : List Int) (k : Nat) : List Int := List.zipWith max (a.take k) (b.take k) ++ a.drop k
theorem mostTo_zero (a b : List Int) : mostTo a b 0 = a := by simp [mostTo]
theorem mostTo_all {a b : List Int} (h : a.length = b.length) : mostTo a b a.length = mostL a b := by
  unfold mostTo mostL
  rw [List.take_of_length_le (Nat.le_refl _), List.take_of_length_le (by omega), List.drop_length, List.append_nil]
theorem mostTo_len {a b : List Int} {k : Nat} (h : a.length = b.length) : (mostTo a b k).length = a.length := by
  unfold mostTo
  simp
  omega
theorem mostTo_get {a b : List Int} {k : Nat} (h : a.length = b.length) (ha : k < a.length) : (mostTo a b k)[k]? = some a[k] := by
  unfold mostTo
  rw [List.getElem?_append_right (by simp; omega)]
  have : (List.zipWith max (a.take k) (b.take k)).length = k := by simp; omega
  rw [this, Nat.sub_self, List.getElem?_drop]
  simp
theorem mostTo_succ {a b : List Int} {k : Nat} (h : a.length = b.length) (ha : k < a.length) : mostTo a b (k + 1) = (mostTo a b k).set k (max a[k] (b[k]'(by omega))) := by
  unfold mostTo
  have hl : (List.zipWith max (a.take k) (b.take k)).length = k := by simp; omega
  rw [List.set_append_right _ _ (by omega), hl, Nat.sub_self, List.drop_eq_getElem_cons ha, List.set_cons_zero, List.take_succ_eq_append_getElem ha, List.take_succ_eq_append_getElem (show k < b.length by omega),
    List.zipWith_append (by simp; omega)]
  simp
theorem mostTo_same {a b : List Int} {k : Nat} (h : a.length = b.length) (ha : k < a.length) (hle : ¬ a[k] < b[k]'(by omega)) : mostTo a b (k + 1) = mostTo a b k := by
  rw [mostTo_succ h ha, Int.max_eq_left (by omega)]
  have h1 := mostTo_get h ha
  obtain ⟨h2, h3⟩ := List.getElem?_eq_some_iff.1 h1
  rw [← h3, List.set_getElem_self]
theorem ok_max {a b : List Int} (ha : ∀ x ∈ a, (Flat.ok x : Prop)) (hb : ∀ x ∈ b, (Flat.ok x : Prop)) : ∀ x ∈ mostL a b, (Flat.ok x : Prop) := by
  intro x hx
  unfold mostL at hx
  obtain ⟨i, hi, rfl⟩ := List.mem_iff_getElem.1 hx
  simp only [List.length_zipWith] at hi
  rw [List.getElem_zipWith]
  rcases Int.le_total a[i] b[i] with h | h
  · rw [Int.max_eq_right h]; exact hb _ (List.getElem_mem _)
  · rw [Int.max_eq_left h]; exact ha _ (List.getElem_mem _)
theorem set_enc (l : List Int) (k : Nat) (x : Int) (hk : k < l.length) : (encs l).set k (.int .i64 x) = encs (l.set k x) := by
  have e3 := encs_set l k x hk
  have e4 : k * Flat.size Int = k := Nat.mul_one k
  rw [e4] at e3
  exact e3
theorem get_enc (l : List Int) (k : Nat) (x : Int) (hk : l[k]? = some x) : (encs l)[k]? = some (.int .i64 x) := by
  obtain ⟨h1, rfl⟩ := List.getElem?_eq_some_iff.1 hk
  have e3 := encs_get l h1 (j := 0) (by decide)
  have e4 : k * Flat.size Int + 0 = k := by show k * 1 + 0 = k; omega
  rw [e4] at e3
  exact e3

theorem l11Most_any (a b : List Int) (hlen : a.length = b.length) (w : World) (S : Nat → Prop) (hS : ∀ b, S b → b < w.heap.size) (A A' : Option Addr) (n c n' c' : Nat) (hsm : n ≤ 1000000) (hl0 : RepL w S a A n c) (hl1 : RepL w S b A' n' c') :
    Calls Try.prog 66 #[.slice A n c, .slice A' n' c'] w fun x w' => ∃ A2 c2, x = .returned (.slice A2 n c2) ∧ w'.ownsRow w.heap.size 3 1 (.slice A2 n c2) n (encs (mostL a b)) ∧ RepL w' (fun b => w.heap.size ≤ b ∧ b < w'.heap.size) (mostL a b) A2 n c2 ∧ Below w.heap.size w w' := by
  obtain ⟨i0, hi, hz0, hz1, hz2⟩ := info_parts infoInt
  have hbd := hl0.bd
  have hbd' := hl1.bd
  obtain ⟨hn, -⟩ := id hl0
  obtain ⟨hn', -⟩ := id hl1
  have Hn := Lib.hid hn
  have Hn' := Lib.hid hn'
  have Hlen := Lib.hid hlen
  clear hn hn' hlen
  have hr := Lib.hid (hl0.keep (w' := w.alloc (.cells #[] 3)) (fun p hp => World.cell?_alloc_lt w _ p (hS _ hp)))
  go_enter Try.func66, Try.ntmps66
  go_wp2_with (at_builtin; refine wpList_append_list (α := Int) _ rfl (.tmp 8) (.tmp 9) _ rfl w.heap.size 3 i0 _ 1 8 Try.underlying30 hi hz0 hz1 hz2 rfl (by omega) rfl (.slice (some ⟨w.heap.size, 0, none⟩) 0 0) [] 0 rfl (World.ownsRow_lit w #[] 0 (Nat.le_refl _) (Nat.zero_le _) rfl) S A n c a rfl hr.out (by omega) (by omega) (by simp) ?_; intro v1 w1 hown1 hg1 hat1)
  simp only [Nat.zero_add, List.nil_append] at hown1
  obtain ⟨A2, c2, rfl⟩ := own_slice hown1
  have hb1 : Below w.heap.size w w1 := ((Below.refl _ w).alloc (Nat.le_refl _) (.cells #[] 3)).grown hg1 (by simp) (fun k hk => by simp [Value.ownBlock] at hk; omega)
  clear hg1 hat1
  have Hown1 := Lib.hid hown1
  have hc2 : n ≤ 9223372036854775807 := by omega
  clear hown1
  go_loopw [13] (fun i wr => ∃ k : Nat, k ≤ n ∧ i = .int .i64 k ∧ wr.ownsRow w.heap.size 3 1 (.slice A2 n c2) n (encs (mostTo a b k)) ∧ Below w.heap.size w wr) (fun i _ => n - (intOf i).toNat)
  case atStart => exact ⟨0, Nat.zero_le _, by have := Hn.out; have := Hn'.out; have := Hlen.out; rfl, by rw [mostTo_zero]; exact Hown1.out, hb1⟩
  case round =>
    obtain ⟨k, hk, rfl, hown, hbel⟩ := hrel
    have hnn : n' = n := by have := Hn.out; have := Hn'.out; have := Hlen.out; omega
    have Hnn := Lib.hid hnn
    clear hnn
    by_cases hlt : k < n
    · have hlt' : k < n' := by have := Hnn.out; omega
      have hk1 : k < a.length := by have := Hn.out; omega
      have hk2 : k < b.length := by have := Hn'.out; omega
      obtain ⟨bb, off', rfl, hSb', hc', hi1'⟩ := hl1.at1 rfl hk2
      have hd0 : wr.cell? ⟨bb, off' + k, none⟩ = some (.int .i64 b[k]) := (hbel.cell (hS _ hSb')).trans (hc' _ rfl)
      obtain ⟨g, rfl⟩ : ∃ g, A2 = some ⟨g, 0, none⟩ := by
        rcases hown.2 with ⟨_, e⟩ | ⟨g, cap, cur, e, _⟩
        · omega
        · simp only [Value.slice.injEq] at e
          exact ⟨g, e.1⟩
      have hu0 : wr.cell? ⟨g, k, none⟩ = some (.int .i64 a[k]) := by rw [hown.cellAt k (by omega)]; exact get_enc _ _ _ (mostTo_get Hlen.out hk1)
      have hf0 := hown.frozenAt k
      have hgB := (hown.lt g rfl).1
      have Hown := Lib.hid hown
      clear hc' hi1' hown
      by_cases hgt : a[k] < b[k]
      · have hd : decide (a[k] < b[k]) = true := decide_eq_true hgt
        have Hs := Lib.hid (show mostTo a b (k + 1) = (mostTo a b k).set k b[k] by rw [mostTo_succ Hlen.out hk1, Int.max_eq_right (by omega)])
        go_wp2_with fail
        go_roundw
        case rel => exact ⟨k + 1, by omega, by go_num, by rw [Hs.out, ← set_enc _ _ _ (by rw [mostTo_len Hlen.out]; exact hk1)]; exact (Hown.out.stored k _).1, hbel.setCell hgB _⟩
        case measure => simp [intOf]; omega
      · have hd : decide (a[k] < b[k]) = false := decide_eq_false hgt
        have Hs := Lib.hid (mostTo_same Hlen.out hk1 hgt)
        go_wp2_with fail
        go_roundw
        case rel => exact ⟨k + 1, by omega, by go_num, by rw [Hs.out]; exact Hown.out, hbel⟩
        case measure => simp [intOf]; omega
    · have hlt' : ¬ k < n' := by have := Hnn.out; omega
      go_wp2_with fail
      go_ret
      have e1 : k = a.length := by have := Hn.out; omega
      rw [e1, mostTo_all Hlen.out] at hown
      refine ⟨A2, c2, rfl, hown, RepL.of_own' rfl ?_ hown (ok_max hl0.ok hl1.ok), hbel⟩
      unfold mostL
      have := Hn.out
      have := Hlen.out
      simp
      omega

end Go.Proofs.Ytmkhahiefdcinaa

/-
  Values that own their memory: every block they reach is listed, once; what a mark writes into them ('mkLo'), and how much of the budget they weigh.
-/
namespace Go.Proofs.Ytmkhahiefdcinaa
open Go.ChangeShapes Go.WideShapes Go.ChangeAt Go.RowKit Go.BigFrame Go.Deep
set_option linter.unusedVariables false

/-- a value of a's cells that reaches the blocks B, in order. -/
class Own (α : Type) [Rep α] where
  own : World → List Nat → α → List Value → Prop
  rep : ∀ {w : World} {B : List Nat} {a : α} {cs : List Value}, own w B a cs → Rep.rep w (· ∈ B) a cs
  keep : ∀ {w w' : World} {B : List Nat} {a : α} {cs : List Value}, own w B a cs → (∀ b ∈ B, w'.heap[b]? = w.heap[b]?) → own w' B a cs
  lt : ∀ {w : World} {B : List Nat} {a : α} {cs : List Value}, own w B a cs → ∀ b ∈ B, b < w.heap.size
instance {α : Type} [Flat α] : Own α where
  own _ B a cs := B = [] ∧ cs = Flat.enc a ∧ Flat.ok a
  rep h := ⟨h.2.1, h.2.2⟩
  keep h _ := h
  lt h b hb := by rw [h.1] at hb; cases hb

section
variable {α : Type} [Rep α] [Own α]
/-- The elements of a row: their cells one behind the other. -/
def OwnEls (w : World) : List α → List Value → List Nat → Prop
  | [], xs, B => xs = [] ∧ B = []
  | a :: l, xs, B => ∃ cs ys B1 B2, xs = cs ++ ys ∧ B = B1 ++ B2 ∧ Own.own w B1 a cs ∧ OwnEls w l ys B2
theorem OwnEls.keep {w w' : World} : ∀ {l : List α} {xs : List Value} {B : List Nat}, OwnEls w l xs B → (∀ b ∈ B, w'.heap[b]? = w.heap[b]?) → OwnEls w' l xs B
  | [], _, _, h, _ => h
  | _ :: _, _, _, ⟨cs, ys, B1, B2, e1, e2, h1, h2⟩, hk => ⟨cs, ys, B1, B2, e1, e2, Own.keep h1 (fun b hb => hk b (by rw [e2]; exact List.mem_append_left _ hb)), OwnEls.keep h2 (fun b hb => hk b (by rw [e2]; exact List.mem_append_right _ hb))⟩
theorem OwnEls.lt {w : World} : ∀ {l : List α} {xs : List Value} {B : List Nat}, OwnEls w l xs B → ∀ b ∈ B, b < w.heap.size
  | [], _, _, h, b, hb => by rw [h.2] at hb; cases hb
  | _ :: _, _, _, ⟨_, _, _, _, _, e2, h1, h2⟩, b, hb => by
    rw [e2] at hb
    rcases List.mem_append.1 hb with hb | hb
    · exact Own.lt h1 b hb
    · exact OwnEls.lt h2 b hb
theorem OwnEls.len {w : World} : ∀ {l : List α} {xs : List Value} {B : List Nat}, OwnEls w l xs B → xs.length = l.length * Rep.size α
  | [], _, _, h => by rw [h.1]; simp
  | _ :: l, _, _, ⟨_, _, _, _, e1, _, h1, h2⟩ => by
    have h3 := OwnEls.len h2
    have h4 := Rep.len (Own.rep h1)
    rw [e1, List.length_append, h3, h4, List.length_cons, Nat.succ_mul]
    omega
theorem OwnEls.append {w : World} : ∀ {l m : List α} {xs ys : List Value} {B C : List Nat}, OwnEls w l xs B → OwnEls w m ys C → OwnEls w (l ++ m) (xs ++ ys) (B ++ C)
  | [], _, _, _, _, _, h, k => by rw [h.1, h.2]; exact k
  | _ :: _, _, _, _, _, _, ⟨cs, ys, B1, B2, e1, e2, h1, h2⟩, k => ⟨cs, _, B1, _, by rw [e1, List.append_assoc], by rw [e2, List.append_assoc], h1, OwnEls.append h2 k⟩
theorem OwnEls.one {w : World} {a : α} {cs : List Value} {B : List Nat} (h : Own.own w B a cs) : OwnEls w [a] cs B := ⟨cs, [], B, [], by simp, by simp, h, rfl, rfl⟩
theorem OwnEls.snoc {w : World} {l : List α} {a : α} {xs cs : List Value} {B C : List Nat} (h : OwnEls w l xs B) (k : Own.own w C a cs) : OwnEls w (l ++ [a]) (xs ++ cs) (B ++ C) := h.append (OwnEls.one k)
theorem OwnEls.get {w : World} : ∀ {l : List α} {xs : List Value} {B : List Nat}, OwnEls w l xs B → ∀ (i : Nat) (h : i < l.length), ∃ cs Bi, Own.own w Bi l[i] cs ∧ (∀ b ∈ Bi, b ∈ B) ∧ ∀ j u, cs[j]? = some u → xs[i * Rep.size α + j]? = some u
  | [], _, _, _, i, h => absurd h (by simp)
  | a :: l, xs, B, ⟨cs, ys, B1, B2, e1, e2, h1, h2⟩, i, h => by
    have h4 := Rep.len (Own.rep h1)
    cases i with
    | zero =>
      refine ⟨cs, B1, h1, fun b hb => by rw [e2]; exact List.mem_append_left _ hb, fun j u hu => ?_⟩
      have hj : j < cs.length := (List.getElem?_eq_some_iff.1 hu).1
      rw [e1, Nat.zero_mul, Nat.zero_add, List.getElem?_append_left hj]
      exact hu
    | succ i =>
      obtain ⟨cs', Bi, g1, g2, g3⟩ := OwnEls.get h2 i (by simpa using h)
      refine ⟨cs', Bi, g1, fun b hb => by rw [e2]; exact List.mem_append_right _ (g2 b hb), fun j u hu => ?_⟩
      rw [e1, List.getElem?_append_right (by rw [h4, Nat.succ_mul]; omega), h4, ← g3 j u hu]
      congr 1
      rw [Nat.succ_mul]; omega
/-- At a place of the list. -/
theorem OwnEls.at_ {w : World} {l : List α} {xs : List Value} {B : List Nat} {j : Nat} (h : OwnEls w (l.drop j) xs B) (hj : j < l.length) : ∃ cs ys B1 B2, xs = cs ++ ys ∧ B = B1 ++ B2 ∧ Own.own w B1 l[j] cs ∧ OwnEls w (l.drop (j + 1)) ys B2 := by
  rw [List.drop_eq_getElem_cons hj] at h
  exact h
end
theorem ownEls_flat {α : Type} [Flat α] {w : World} : ∀ {l : List α} {xs : List Value} {B : List Nat}, OwnEls w l xs B ↔ xs = encs l ∧ B = [] ∧ ∀ a ∈ l, Flat.ok a
  | [], xs, B => by simp [OwnEls, encs]
  | a :: l, xs, B => by
    constructor
    · rintro ⟨cs, ys, B1, B2, rfl, rfl, ⟨h1, h2, h3⟩, h4⟩
      obtain ⟨k1, k2, k3⟩ := ownEls_flat.1 h4
      subst h1 h2 k1 k2
      refine ⟨by simp [encs], rfl, fun x hx => ?_⟩
      rcases List.mem_cons.1 hx with rfl | hx
      · exact h3
      · exact k3 x hx
    · rintro ⟨rfl, rfl, h⟩
      exact ⟨Flat.enc a, encs l, [], [], by simp [encs], rfl, ⟨rfl, rfl, h a (List.mem_cons_self ..)⟩, ownEls_flat.2 ⟨rfl, rfl, fun x hx => h x (List.mem_cons_of_mem _ hx)⟩⟩

theorem ownsRow_block {w w' : World} {base : Nat} {e : TypeId} {s n : Nat} {v : Value} {xs : List Value} (h : w.ownsRow base e s v n xs) (hg : ∀ k, v.ownBlock = some k → w'.heap[k]? = w.heap[k]?) : w'.ownsRow base e s v n xs := by
  refine ⟨h.1, h.2.imp id ?_⟩
  rintro ⟨g, cap, cur, rfl, hb, hgg, rest⟩
  exact ⟨g, cap, cur, rfl, hb, (hg g rfl).trans hgg, rest⟩
theorem ownsRow_base {w : World} {base base' : Nat} {e : TypeId} {s n : Nat} {v : Value} {xs : List Value} (h : w.ownsRow base e s v n xs) (hg : ∀ k, v.ownBlock = some k → base' ≤ k) : w.ownsRow base' e s v n xs := by
  refine ⟨h.1, h.2.imp id ?_⟩
  rintro ⟨g, cap, cur, rfl, hb, rest⟩
  exact ⟨g, cap, cur, rfl, hg g rfl, rest⟩

instance {α : Type} [Rep α] [Own α] : Own (List α) where
  own w B l cs := ∃ A c xs Bs e, cs = [.slice A l.length c] ∧ w.ownsRow 0 e (Rep.size α) (.slice A l.length c) l.length xs ∧ OwnEls w l xs Bs ∧ B = (Value.slice A l.length c).ownBlock.toList ++ Bs
  rep := by
    rintro w B l cs ⟨A, c, xs, Bs, e, rfl, ho, he, rfl⟩
    rcases ho.2 with ⟨e0, h0⟩ | ⟨g, cap, cur, e0, hb, hg, hnc, hcm, hsz, ht⟩
    · simp only [Value.slice.injEq] at e0
      obtain ⟨rfl, -, rfl⟩ := e0
      exact ⟨none, 0, rfl, by omega, by unfold maxLen; omega, fun _ => rfl, fun i hi => absurd hi (by omega)⟩
    · simp only [Value.slice.injEq] at e0
      obtain ⟨rfl, -, rfl⟩ := e0
      refine ⟨_, c, rfl, hnc, hcm, (fun e => by cases e), fun i hi => ?_⟩
      obtain ⟨cs, Bi, h1, h2, h3⟩ := he.get i hi
      refine ⟨g, 0, cs, rfl, by simp [Value.ownBlock], fun j u hu => ?_, Rep.more (Own.rep h1) (fun b hb => List.mem_append_right _ (h2 b hb))⟩
      have hx := h3 j u hu
      rw [cell_of_row w g _ cur e (0, 0) hg]
      rw [← ht, List.getElem?_take] at hx
      split at hx
      · simpa using hx
      · cases hx
  keep := by
    rintro w w' B l cs ⟨A, c, xs, Bs, e, rfl, ho, he, rfl⟩ hk
    refine ⟨A, c, xs, Bs, e, rfl, ownsRow_block ho (fun k hk' => hk k (List.mem_append_left _ (by rw [hk']; simp))), he.keep (fun b hb => hk b (List.mem_append_right _ hb)), rfl⟩
  lt := by
    rintro w B l cs ⟨A, c, xs, Bs, e, rfl, ho, he, rfl⟩ b hb
    rcases List.mem_append.1 hb with hb | hb
    · exact (ho.lt b (by simpa using hb)).2
    · exact he.lt b hb

theorem len_cons {α : Type} {l : List α} {n : Nat} (h : l.length = n + 1) : ∃ a t, l = a :: t ∧ t.length = n := by
  cases l with
  | nil => simp at h
  | cons a t => exact ⟨a, t, rfl, by simpa using h⟩
/-- The slice value of a list that is owned. -/
def OwnL {α : Type} [Rep α] [Own α] (w : World) (B : List Nat) (l : List α) (A : Option Addr) (n c : Nat) : Prop := n = l.length ∧ Own.own w B l [.slice A n c]
/-- Only B's blocks, and new ones, may have turned. -/
structure Touch (B : List Nat) (w w' : World) : Prop where
  os : w'.os = w.os
  tape : w'.tape = w.tape
  output : w'.output = w.output
  size : w.heap.size ≤ w'.heap.size
  block : ∀ k, k < w.heap.size → k ∉ B → w'.heap[k]? = w.heap[k]?
theorem Touch.refl (B : List Nat) (w : World) : Touch B w w := ⟨rfl, rfl, rfl, Nat.le_refl _, fun _ _ _ => rfl⟩
theorem Touch.trans {B : List Nat} {a b c : World} (h : Touch B a b) (k : Touch B b c) : Touch B a c :=
  ⟨k.os.trans h.os, k.tape.trans h.tape, k.output.trans h.output, Nat.le_trans h.size k.size, fun i hi hn => (k.block i (Nat.lt_of_lt_of_le hi h.size) hn).trans (h.block i hi hn)⟩
theorem Touch.more {B C : List Nat} {a b : World} (h : Touch B a b) (hs : ∀ x ∈ B, x ∈ C) : Touch C a b := ⟨h.os, h.tape, h.output, h.size, fun i hi hn => h.block i hi (fun hb => hn (hs i hb))⟩
theorem Touch.below {B : List Nat} {w w' : World} (h : Below w.heap.size w w') : Touch B w w' := ⟨h.os, h.tape, h.output, h.size, fun k hk _ => h.block k hk⟩
theorem Touch.grown {B : List Nat} {w w' : World} {row : Option Nat} (h : w.grownBy w' row) (hr : ∀ k, row = some k → k ∈ B) : Touch B w w' := ⟨h.os, h.tape, h.output, h.size, fun k hk hn => h.block k hk (fun e => hn (hr k e.symm))⟩
theorem Touch.setCell {B : List Nat} {a w : World} (h : Touch B a w) {p : Addr} (hp : p.block ∈ B) (v : Value) : Touch B a (w.setCell p v) :=
  ⟨h.os, h.tape, h.output, by simpa [World.setCell] using h.size, fun i hi hn => (Below.heap_setCell _ _ _ i (fun e => hn (by rw [e]; exact hp))).trans (h.block i hi hn)⟩
theorem Touch.drew {B : List Nat} {a w : World} (h : Touch B a w) : Touch B a w.drew := ⟨h.os, h.tape, h.output, h.size, h.block⟩
theorem Touch.alloc {B : List Nat} {a w : World} (h : Touch B a w) (o : Obj) : Touch B a (w.alloc o) := h.trans (Touch.below ((Below.refl _ _).alloc (Nat.le_refl _) o))
theorem RepL.touch {α : Type} [Rep α] {w w' : World} {S : Nat → Prop} {l : List α} {A : Option Addr} {n c : Nat} {B : List Nat} (h : RepL w S l A n c) (ht : Touch B w w') (hS : ∀ b, S b → b < w.heap.size ∧ b ∉ B) : RepL w' S l A n c :=
  h.keep fun p hp => World.cell?_of_block (ht.block p.block (hS _ hp).1 (hS _ hp).2)
theorem rep_touch {α : Type} [Rep α] {w w' : World} {S : Nat → Prop} {a : α} {cs : List Value} {B : List Nat} (h : Rep.rep w S a cs) (ht : Touch B w w') (hS : ∀ b, S b → b < w.heap.size ∧ b ∉ B) : Rep.rep w' S a cs :=
  Rep.keep h fun p hp => World.cell?_of_block (ht.block p.block (hS _ hp).1 (hS _ hp).2)
theorem own_touch {α : Type} [Rep α] [Own α] {w w' : World} {a : α} {cs : List Value} {B C : List Nat} (h : Own.own w C a cs) (ht : Touch B w w') (hd : ∀ b ∈ C, b ∉ B) : Own.own w' C a cs :=
  Own.keep h fun b hb => ht.block b (Own.lt h b hb) (hd b hb)
theorem OwnEls.touch {α : Type} [Rep α] [Own α] {w w' : World} {l : List α} {xs : List Value} {B C : List Nat} (h : OwnEls w l xs C) (ht : Touch B w w') (hd : ∀ b ∈ C, b ∉ B) : OwnEls w' l xs C :=
  h.keep fun b hb => ht.block b (h.lt b hb) (hd b hb)
theorem ownsRow_touch {w w' : World} {base : Nat} {e : TypeId} {s n : Nat} {v : Value} {xs : List Value} {B : List Nat} (h : w.ownsRow base e s v n xs) (ht : Touch B w w') (hd : ∀ k, v.ownBlock = some k → k ∉ B) : w'.ownsRow base e s v n xs :=
  ownsRow_block h fun k hk => ht.block k (h.lt k hk).2 (hd k hk)
theorem below_touch {base : Nat} {a w w' : World} {B : List Nat} (h : Below base a w) (ht : Touch B w w') (hB : ∀ b ∈ B, base ≤ b) (hs : base ≤ w.heap.size) : Below base a w' :=
  ⟨ht.os.trans h.os, ht.tape.trans h.tape, ht.output.trans h.output, Nat.le_trans h.size ht.size, fun k hk => (ht.block k (by omega) (fun hb => by have := hB k hb; omega)).trans (h.block k hk)⟩
theorem OwnL.touch {α : Type} [Rep α] [Own α] {w w' : World} {l : List α} {A : Option Addr} {n c : Nat} {B C : List Nat} (h : OwnL w C l A n c) (ht : Touch B w w') (hd : ∀ b ∈ C, b ∉ B) : OwnL w' C l A n c := ⟨h.1, own_touch h.2 ht hd⟩
theorem OwnL.below {α : Type} [Rep α] [Own α] {w w' : World} {l : List α} {A : Option Addr} {n c : Nat} {C : List Nat} (h : OwnL w C l A n c) (hb : Below w.heap.size w w') : OwnL w' C l A n c := ⟨h.1, Own.keep h.2 fun b hb' => hb.block b (Own.lt h.2 b hb')⟩
theorem OwnL.rep {α : Type} [Rep α] [Own α] {w : World} {l : List α} {A : Option Addr} {n c : Nat} {C : List Nat} (h : OwnL w C l A n c) : RepL w (· ∈ C) l A n c := ⟨h.1, Own.rep h.2⟩
theorem OwnL.lt {α : Type} [Rep α] [Own α] {w : World} {l : List α} {A : Option Addr} {n c : Nat} {C : List Nat} (h : OwnL w C l A n c) : ∀ b ∈ C, b < w.heap.size := Own.lt h.2
/-- A row and its elements. -/
theorem OwnL.open_ {α : Type} [Rep α] [Own α] {w : World} {l : List α} {A : Option Addr} {n c : Nat} {C : List Nat} (h : OwnL w C l A n c) : ∃ xs Bs e, w.ownsRow 0 e (Rep.size α) (.slice A n c) n xs ∧ OwnEls w l xs Bs ∧ C = (Value.slice A n c).ownBlock.toList ++ Bs := by
  obtain ⟨rfl, A', c', xs, Bs, e, e1, h1, h2, rfl⟩ := h
  simp only [List.cons.injEq, Value.slice.injEq, and_true] at e1
  obtain ⟨rfl, -, rfl⟩ := e1
  exact ⟨xs, Bs, e, h1, h2, rfl⟩
theorem OwnL.mk_ {α : Type} [Rep α] [Own α] {w : World} {l : List α} {A : Option Addr} {n c : Nat} {Bs : List Nat} {xs : List Value} {e : TypeId} {base : Nat} (hn : n = l.length) (h1 : w.ownsRow base e (Rep.size α) (.slice A n c) n xs) (h2 : OwnEls w l xs Bs) : OwnL w ((Value.slice A n c).ownBlock.toList ++ Bs) l A n c := by
  subst hn
  exact ⟨rfl, A, c, xs, Bs, e, rfl, ownsRow_base h1 (fun _ _ => Nat.zero_le _), h2, rfl⟩
theorem OwnL.flat {α : Type} [Flat α] {w : World} {l : List α} {A : Option Addr} {n c : Nat} {e : TypeId} {base s : Nat} (hs : s = Flat.size α) (hn : n = l.length) (h1 : w.ownsRow base e s (.slice A n c) n (encs l)) (hok : ∀ a ∈ l, Flat.ok a) : OwnL w (Value.slice A n c).ownBlock.toList l A n c := by
  subst hs
  have := OwnL.mk_ (Bs := []) hn h1 (ownEls_flat.2 ⟨rfl, rfl, hok⟩)
  simpa using this
theorem blk_mem {v : Value} {k : Nat} : k ∈ v.ownBlock.toList ↔ v.ownBlock = some k := by simp
theorem OwnL.bd {α : Type} [Rep α] [Own α] {w : World} {l : List α} {A : Option Addr} {n c : Nat} {C : List Nat} (h : OwnL w C l A n c) : n ≤ c ∧ c ≤ 9223372036854775807 := h.rep.bd

theorem nodup_two {B C : List Nat} {p : Nat} (h : B.Nodup) (k : C.Nodup) (hB : ∀ x ∈ B, x < p) (hC : ∀ y ∈ C, p ≤ y) : (B ++ C).Nodup :=
  List.nodup_append.2 ⟨h, k, fun x hx y hy e => by have := hB x hx; have := hC y hy; omega⟩
/-- An element that is owned is appended to a row of owned elements. -/
theorem snoc_own {α : Type} [Rep α] [Own α] {W w9 : World} {l : List α} {a : α} {xs cs : List Value} {B C : List Nat} {v v1 : Value} {H : Nat}
    (hE : OwnEls W l xs B) (ha : Own.own W C a cs) (hnd : (v.ownBlock.toList ++ B).Nodup) (hC : C.Nodup) (hdis : ∀ b ∈ C, b ∉ v.ownBlock.toList ++ B)
    (hT : Touch v.ownBlock.toList W w9) (hat : v1.ownBlock = v.ownBlock ∨ v1.ownBlock = some H) (hH : W.heap.size ≤ H) :
    OwnEls w9 (l ++ [a]) (xs ++ cs) (B ++ C) ∧ (v1.ownBlock.toList ++ (B ++ C)).Nodup := by
  have hnd' := List.nodup_append.1 hnd
  refine ⟨OwnEls.snoc (hE.touch hT fun b hb hm => hnd'.2.2 b hm b hb rfl) (own_touch ha hT fun b hb hm => hdis b hb (List.mem_append_left _ hm)), ?_⟩
  have hBC : (B ++ C).Nodup := List.nodup_append.2 ⟨hnd'.2.1, hC, fun x hx y hy e => hdis y hy (List.mem_append_right _ (e ▸ hx))⟩
  rcases hat with e | e
  · rw [e]
    refine List.nodup_append.2 ⟨hnd'.1, hBC, fun x hx y hy e => ?_⟩
    rcases List.mem_append.1 hy with hy | hy
    · exact hnd'.2.2 x hx y hy e
    · exact hdis y hy (List.mem_append_left _ (e ▸ hx))
  · rw [e]
    simp only [Option.toList_some, List.singleton_append, List.nodup_cons]
    refine ⟨fun hm => ?_, hBC⟩
    rcases List.mem_append.1 hm with hm | hm
    · have := hE.lt H hm; omega
    · have := Own.lt ha H hm; omega

/-! ### Marks -/
class Mark (α : Type) where
  cnt : α → Nat
  mrk : Nat → α → α
section
variable {α : Type} [Mark α]
def mkLo : Nat → List α → List α
  | _, [] => []
  | k, a :: l => Mark.mrk k a :: mkLo (k + Mark.cnt a) l
def mcnt (l : List α) : Nat := (l.map Mark.cnt).sum
instance : Mark (List α) := ⟨mcnt, mkLo⟩
theorem mkLo_len : ∀ (k : Nat) (l : List α), (mkLo k l).length = l.length
  | _, [] => rfl
  | k, a :: l => by simp [mkLo, mkLo_len _ l]
theorem mcnt_take {l : List α} {j : Nat} (h : j < l.length) : mcnt (l.take (j + 1)) = mcnt (l.take j) + Mark.cnt l[j] := by
  unfold mcnt
  rw [List.take_succ_eq_append_getElem h, List.map_append, List.sum_append]
  simp
theorem mcnt_le (l : List α) (j : Nat) : mcnt (l.take j) ≤ mcnt l := by
  unfold mcnt
  conv => rhs; rw [← List.take_append_drop j l]
  rw [List.map_append, List.sum_append]
  omega
theorem mcnt_append (l m : List α) : mcnt (l ++ m) = mcnt l + mcnt m := by unfold mcnt; rw [List.map_append, List.sum_append]
theorem mkLo_append : ∀ (k : Nat) (l m : List α), mkLo k (l ++ m) = mkLo k l ++ mkLo (k + mcnt l) m
  | k, [], m => by simp [mkLo, mcnt]
  | k, a :: l, m => by
    simp only [List.cons_append, mkLo, mkLo_append, mcnt, List.map_cons, List.sum_cons, Nat.add_assoc]
theorem mkLo_snoc {k : Nat} {l : List α} {j : Nat} (h : j < l.length) : mkLo k (l.take (j + 1)) = mkLo k (l.take j) ++ [Mark.mrk (k + mcnt (l.take j)) l[j]] := by
  rw [List.take_succ_eq_append_getElem h, mkLo_append]
  rfl
theorem mkLo_get {k : Nat} {l : List α} {j : Nat} (h : j < l.length) : (mkLo k l)[j]? = some (Mark.mrk (k + mcnt (l.take j)) l[j]) := by
  have e : mkLo k l = mkLo k (l.take (j + 1)) ++ mkLo (k + mcnt (l.take (j + 1))) (l.drop (j + 1)) := by rw [← mkLo_append, List.take_append_drop]
  rw [e, mkLo_snoc h, List.getElem?_append_left (by simp [mkLo_len]; omega), List.getElem?_append_right (by simp [mkLo_len]; omega)]
  simp [mkLo_len, Nat.min_eq_left (Nat.le_of_lt h)]
end

/-! ### Weights -/
class Wt (α : Type) where
  wt : α → Nat
theorem le_sum_of_mem_nat {l : List Nat} {a : Nat} (h : a ∈ l) : a ≤ l.sum := by
  induction l with
  | nil => cases h
  | cons b l ih =>
    rw [List.sum_cons]
    rcases List.mem_cons.1 h with rfl | h
    · omega
    · have := ih h; omega
instance : Wt Int := ⟨fun _ => 0⟩
instance : Wt Bool := ⟨fun _ => 0⟩
instance : Wt ByteArray := ⟨fun s => s.size⟩
instance : Wt P2 := ⟨fun _ => 0⟩
instance : Wt IS := ⟨fun e => e.s.size⟩
section
variable {α : Type} [Wt α]
def wtL (l : List α) : Nat := l.length + (l.map Wt.wt).sum
instance : Wt (List α) := ⟨wtL⟩
theorem wtL_get {l : List α} {j : Nat} (h : j < l.length) : Wt.wt l[j] ≤ wtL l := by
  unfold wtL
  have h1 : Wt.wt l[j] ∈ l.map Wt.wt := List.mem_map_of_mem (List.getElem_mem h)
  have h2 := le_sum_of_mem_nat h1
  omega
theorem wtL_len (l : List α) : l.length ≤ wtL l := Nat.le_add_right _ _
theorem wtS_take {l : List α} {j : Nat} (h : j < l.length) : ((l.take (j + 1)).map Wt.wt).sum = ((l.take j).map Wt.wt).sum + Wt.wt l[j] := by
  rw [List.take_succ_eq_append_getElem h, List.map_append, List.sum_append]
  simp
end
end Go.Proofs.Ytmkhahiefdcinaa

/-
  Lists that are owned: flat ones; what a call has made.
-/
namespace Go.Proofs.Ytmkhahiefdcinaa
open Go.ChangeShapes Go.WideShapes Go.ChangeAt Go.RowKit Go.BigFrame Go.Deep
set_option linter.unusedVariables false

/-- Of a flat list that is owned. -/
theorem OwnL.flat_open {α : Type} [Flat α] {w : World} {l : List α} {A : Option Addr} {n c : Nat} {C : List Nat} (h : OwnL w C l A n c) : ∃ e, w.ownsRow 0 e (Flat.size α) (.slice A n c) n (encs l) ∧ C = (Value.slice A n c).ownBlock.toList ∧ ∀ a ∈ l, Flat.ok a := by
  obtain ⟨xs, Bs, e, h1, h2, h3⟩ := h.open_
  obtain ⟨k1, k2, k3⟩ := ownEls_flat.1 h2
  subst k1 k2
  exact ⟨e, h1, by rw [h3, List.append_nil], k3⟩
theorem OwnL.ok {α : Type} [Flat α] {w : World} {C : List Nat} {l : List α} {A : Option Addr} {n c : Nat} (h : OwnL w C l A n c) : ∀ a ∈ l, Flat.ok a := h.flat_open.choose_spec.2.2
/-- What a call has made out of zeros. -/
theorem OwnL.made {α : Type} [Flat α] {w' : World} {T : TypeId} {s : Nat} {l : List α} {A : Option Addr} {n c base : Nat} (hs : s = Flat.size α) (h : w'.ownsRow base T s (.slice A n c) n (encs l)) (hn : n = l.length) (hok : ∀ a ∈ l, Flat.ok a) : OwnL w' (Value.slice A n c).ownBlock.toList l A n c ∧ ((Value.slice A n c).ownBlock.toList).Nodup ∧ ∀ b ∈ (Value.slice A n c).ownBlock.toList, base ≤ b := by
  refine ⟨OwnL.flat hs hn h hok, ?_, fun b hb => (h.lt b (by simpa using hb)).1⟩
  cases (Value.slice A n c).ownBlock <;> simp
/-- A row of rows that are owned. -/
theorem OwnEls.rowOf {α : Type} [Rep α] [Own α] {w : World} {ls : List (List α)} {xs : List Value} {B : List Nat} (h : OwnEls w ls xs B) {q : Nat} {r : List α} (hr : ls[q]? = some r) : ∃ Aq cq, xs[q]? = some (.slice Aq r.length cq) ∧ RepL w (· < w.heap.size) r Aq r.length cq := by
  obtain ⟨hq, rfl⟩ := List.getElem?_eq_some_iff.1 hr
  obtain ⟨cs, Bi, h1, h2, h3⟩ := h.get q hq
  obtain ⟨Aq, cq, xr, Br, er, rfl, -⟩ := id h1
  have e3 := h3 0 _ rfl
  have hR : Rep.size (List α) = 1 := rfl
  rw [hR, Nat.mul_one, Nat.add_zero] at e3
  have h5 : OwnL w Bi ls[q] Aq ls[q].length cq := ⟨rfl, h1⟩
  exact ⟨Aq, cq, e3, h5.rep.more fun b hb => h5.lt b hb⟩
theorem OwnEls.rowOfB {α : Type} [Rep α] [Own α] {w : World} {ls : List (List α)} {xs : List Value} {B : List Nat} (h : OwnEls w ls xs B) {q : Nat} {r : List α} (hr : ls[q]? = some r) : ∃ Aq cq, xs[q]? = some (.slice Aq r.length cq) ∧ RepL w (· ∈ B) r Aq r.length cq := by
  obtain ⟨hq, rfl⟩ := List.getElem?_eq_some_iff.1 hr
  obtain ⟨cs, Bi, h1, h2, h3⟩ := h.get q hq
  obtain ⟨Aq, cq, xr, Br, er, rfl, -⟩ := id h1
  have e3 := h3 0 _ rfl
  have hR : Rep.size (List α) = 1 := rfl
  rw [hR, Nat.mul_one, Nat.add_zero] at e3
  have h5 : OwnL w Bi ls[q] Aq ls[q].length cq := ⟨rfl, h1⟩
  exact ⟨Aq, cq, e3, h5.rep.more fun b hb => h2 b hb⟩
theorem ownsRow_addr {w : World} {base : Nat} {e : TypeId} {s n c : Nat} {A : Option Addr} {xs : List Value} (h : w.ownsRow base e s (.slice A n c) n xs) (hn : 0 < n) : ∃ g, A = some ⟨g, 0, none⟩ ∧ base ≤ g ∧ g < w.heap.size := by
  rcases h.2 with ⟨_, e⟩ | ⟨g, cap, cur, e, hb, hg, _⟩
  · omega
  · simp only [Value.slice.injEq] at e
    exact ⟨g, e.1, hb, (Array.getElem?_eq_some_iff.1 hg).1⟩

theorem rep_flat_get (L : List Value) (n i j : Nat) (hi : i < n) (hj : j < L.length) : ((List.replicate n L).flatten)[i * L.length + j]? = L[j]? := by
  induction n generalizing i with
  | zero => omega
  | succ n ih =>
    rw [List.replicate_succ, List.flatten_cons]
    cases i with
    | zero => rw [Nat.zero_mul, Nat.zero_add, List.getElem?_append_left hj]
    | succ i =>
      rw [List.getElem?_append_right (by rw [Nat.succ_mul]; omega), ← ih i (by omega)]
      congr 1
      rw [Nat.succ_mul]; omega
theorem rep_flat_len (L : List Value) (n : Nat) : ((List.replicate n L).flatten).length = n * L.length := by
  induction n with
  | zero => simp
  | succ n ih => rw [List.replicate_succ, List.flatten_cons, List.length_append, ih, Nat.succ_mul]; omega
/-- make([]T, n): zeros. -/
theorem own_make (w : World) (z : Array Value) (e : TypeId) (n s : Nat) (hz : z.size = s) (hs : 0 < s) (hn : n ≤ 100000000) :
    (w.alloc (.cells (madeCells z (n * s)) e)).ownsRow w.heap.size e s (.slice (some ⟨w.heap.size, 0, none⟩) n n) n (List.replicate n z.toList).flatten := by
  have hzl : z.toList.length = s := by rw [Array.length_toList, hz]
  have hl := rep_flat_len z.toList n
  rw [hzl] at hl
  refine ⟨hl, .inr ⟨_, n, _, rfl, Nat.le_refl _, heap_alloc_new w _, Nat.le_refl _, by unfold maxLen; omega, by rw [size_madeCells], ?_⟩⟩
  apply List.ext_getElem?
  intro j
  by_cases hj : j < n * s
  · rw [List.getElem?_take, if_pos hj]
    have hq : j / s < n := (Nat.div_lt_iff_lt_mul hs).2 hj
    have hr : j % s < s := Nat.mod_lt _ hs
    have e1 : j = j / s * s + j % s := (Nat.div_add_mod' j _).symm
    have h2 := rep_flat_get z.toList n (j / s) (j % s) hq (by rw [hzl]; exact hr)
    rw [hzl, ← e1] at h2
    rw [h2]
    subst hz
    simp [madeCells, hj, hr]
  · rw [List.getElem?_take, if_neg hj, List.getElem?_eq_none (by omega)]
theorem rep_split (L : List Value) (n k : Nat) (hk : k < n) : (List.replicate (n - k) L).flatten = L ++ (List.replicate (n - (k + 1)) L).flatten := by
  obtain ⟨m, hm⟩ : ∃ m, n - k = m + 1 := ⟨n - k - 1, by omega⟩
  rw [hm, List.replicate_succ, List.flatten_cons, show n - (k + 1) = m by omega]
/-- A cell of an element in the midst of a row. -/
theorem own_get {w : World} {base : Nat} {e : TypeId} {s n c g : Nat} {xs cs ys : List Value} (h : w.ownsRow base e s (.slice (some ⟨g, 0, none⟩) n c) n (xs ++ (cs ++ ys))) {p i : Nat} {u : Value} (hp : p = xs.length + i) (hu : cs[i]? = some u) : w.cell? ⟨g, p, none⟩ = some u := by
  have hi : i < cs.length := (List.getElem?_eq_some_iff.1 hu).1
  have hl := h.1
  simp only [List.length_append] at hl
  rw [h.cellAt p (by omega), hp, List.getElem?_append_right (by omega), Nat.add_sub_cancel_left, List.getElem?_append_left hi]
  exact hu
theorem own_set {w : World} {base : Nat} {e : TypeId} {s n c g : Nat} {xs cs ys cs' : List Value} (h : w.ownsRow base e s (.slice (some ⟨g, 0, none⟩) n c) n (xs ++ (cs ++ ys))) {p i : Nat} {u : Value} (hp : p = xs.length + i) (hi : i < cs.length) (hc : cs' = cs.set i u) : (w.setCell ⟨g, p, none⟩ u).ownsRow base e s (.slice (some ⟨g, 0, none⟩) n c) n (xs ++ (cs' ++ ys)) := by
  have h2 := (h.stored p u).1
  rw [hp, List.set_append_right _ _ (by omega), Nat.add_sub_cancel_left, List.set_append_left _ _ hi, ← hc] at h2
  rw [hp]
  exact h2
end Go.Proofs.Ytmkhahiefdcinaa

/-
  Marks on lists of integers, in the form of XOwn.
-/
namespace Go.Proofs.Ytmkhahiefdcinaa
open Go.ChangeShapes Go.WideShapes Go.ChangeAt Go.RowKit Go.BigFrame Go.Deep
set_option linter.unusedVariables false

instance : Mark Int := ⟨fun _ => 1, fun k _ => (k : Int)⟩
theorem mcnt_int (l : List Int) : mcnt l = l.length := by
  unfold mcnt
  induction l with
  | nil => rfl
  | cons a l ih => rw [List.map_cons, List.sum_cons, ih, List.length_cons]; show 1 + _ = _; omega
theorem mkLo_int (k : Nat) (l : List Int) : mkLo k l = ups (k : Int) l.length := by
  apply List.ext_getElem?
  intro i
  by_cases h : i < l.length
  · rw [mkLo_get h, List.getElem?_eq_getElem (by rw [ups_len]; exact h), ups_get, mcnt_int, List.length_take, Nat.min_eq_left (by omega)]
    show some (((k + i : Nat)) : Int) = _
    rw [Int.natCast_add]
  · rw [List.getElem?_eq_none (by rw [mkLo_len]; omega), List.getElem?_eq_none (by rw [ups_len]; omega)]
theorem markIntS_u (l : List Int) (k : Nat) (h0 : 0 < k) (h1 : k + mcnt l ≤ 100000000) (w : World) (C : List Nat) (hC : C.Nodup) (A : Option Addr) (n c : Nat) (h : OwnL w C l A n c) :
    Calls Try.prog 19 #[.slice A n c, .int .i64 k] w fun e w' => e = .returned (.int .i64 ((k + mcnt l : Nat) : Int)) ∧ OwnL w' C (mkLo k l) A n c ∧ Touch C w w' := by
  obtain ⟨e, ho, hCe, hok⟩ := h.flat_open
  have hn := h.1
  rw [mcnt_int] at h1 ⊢
  have key := markIntS_anyE l k e (by omega) (by omega) w 0 A n c hn (by omega) ho
  refine key.mono ?_
  rintro e' w' ⟨rfl, q, gr, hs⟩
  refine ⟨by rw [hn]; rfl, ?_, Touch.grown gr (fun k hk => by rw [hCe, hk]; simp)⟩
  rw [mkLo_int, hCe]
  rw [hn] at q ⊢
  exact OwnL.flat rfl (by rw [ups_len]) q (ups_ok _ _ (by omega) (by omega))
theorem heldIntS_u (l : List Int) (k : Nat) (h0 : 0 < k) (h1 : k + mcnt l ≤ 100000000) (w : World) (S : Nat → Prop) (hS : ∀ b, S b → b < w.heap.size) (A : Option Addr) (n c : Nat) (h : RepL w S (mkLo k l) A n c) :
    Calls Try.prog 20 #[.slice A n c, .int .i64 k] w fun e w' => e = .returned (.int .i64 ((k + mcnt l : Nat) : Int)) ∧ Below w.heap.size w w' := by
  have hn := h.1
  rw [mkLo_len] at hn
  rw [mcnt_int] at h1 ⊢
  rw [mkLo_int, ← hn] at h
  refine (heldIntS_any k (by omega) (by omega) w S hS A n c (by omega) h).mono ?_
  rintro e w' ⟨rfl, b⟩
  exact ⟨by rw [hn]; rfl, b⟩
end Go.Proofs.Ytmkhahiefdcinaa

/-
  Reading and writing a list of integers that is owned.
-/
namespace Go.Proofs.Ytmkhahiefdcinaa
open Go.ChangeShapes Go.WideShapes Go.ChangeAt Go.RowKit Go.BigFrame Go.Deep
set_option linter.unusedVariables false

theorem OwnL.intAt {w : World} {C : List Nat} {l : List Int} {A : Option Addr} {n c : Nat} (h : OwnL w C l A n c) {j : Nat} (hj : j < l.length) :
    ∃ g, A = some ⟨g, 0, none⟩ ∧ C = [g] ∧ g < w.heap.size ∧ w.cell? ⟨g, j, none⟩ = some (.int .i64 l[j]) ∧ w.frozen? ⟨g, j, none⟩ = false ∧ I64 l[j] ∧
      ∀ v, I64 v → OwnL (w.setCell ⟨g, j, none⟩ (.int .i64 v)) C (l.set j v) A n c ∧ Touch C w (w.setCell ⟨g, j, none⟩ (.int .i64 v)) := by
  obtain ⟨e, ho, hC, hok⟩ := h.flat_open
  have hn := h.1
  obtain ⟨g, rfl⟩ : ∃ g, A = some ⟨g, 0, none⟩ := by
    rcases ho.2 with ⟨_, e⟩ | ⟨g, cap, cur, e, _⟩
    · omega
    · simp only [Value.slice.injEq] at e
      exact ⟨g, e.1⟩
  have hs1 : Flat.size Int = 1 := rfl
  rw [hs1] at ho
  have hC' : C = [g] := by rw [hC]; rfl
  have hget : (encs l)[j]? = some (.int .i64 l[j]) := by
    have := encs_get l hj (j := 0) (by rw [hs1]; omega)
    rw [hs1, Nat.mul_one, Nat.add_zero] at this
    rw [this]
    rfl
  refine ⟨g, rfl, hC', (ho.lt g rfl).2, by rw [ho.cellAt j (by omega), hget], ho.frozenAt j, hok _ (List.getElem_mem hj), fun v hv => ⟨?_, ?_⟩⟩
  · have h2 := (ho.stored j (.int .i64 v)).1
    have e1 := encs_set l j v hj
    rw [hs1, Nat.mul_one] at e1
    have e2 : setAll (encs l) j (Flat.enc v) = (encs l).set j (.int .i64 v) := rfl
    rw [← e2, e1] at h2
    have hok' : ∀ a ∈ l.set j v, (Flat.ok a : Prop) := fun a ha => by
      rcases List.mem_or_eq_of_mem_set ha with ha | rfl
      · exact hok a ha
      · exact hv
    have := OwnL.flat (s := 1) rfl (by rw [List.length_set]; exact hn) h2 hok'
    rw [hC]
    exact this
  · exact (Touch.refl C w).setCell (p := ⟨g, j, none⟩) (by rw [hC']; simp) _
end Go.Proofs.Ytmkhahiefdcinaa

/-
  The plain law of vector clocks.
-/
namespace Go.Proofs.Ytmkhahiefdcinaa
open Go.ChangeShapes Go.WideShapes Go.ChangeAt Go.RowKit Go.BigFrame Go.Deep
set_option linter.unusedVariables false

/-- N zeros. -/
def zs (N : Nat) : List Int := List.replicate N 0
/-- The clock at a place, zeros where there is none. -/
def rowAt (N : Nat) (out : List (List Int)) (p : Int) : List Int := if 0 ≤ p then out.getD p.toNat (zs N) else zs N
/-- One more at place j. -/
def incAt (c : List Int) (j : Int) : List Int := c.set j.toNat (c.getD j.toNat 0 + 1)
/-- The clock of event k, given those ahead, still without its own count. -/
def ckB (N : Nat) (l : List P2) (k : Nat) (out : List (List Int)) (e : P2) : List Int := if 0 ≤ e.b then mostL (rowAt N out (lastAt l k e.a)) (rowAt N out e.b) else rowAt N out (lastAt l k e.a)
def ckV (N : Nat) (l : List P2) (k : Nat) (out : List (List Int)) (e : P2) : List Int := incAt (ckB N l k out e) e.a
def ckTo (N : Nat) (l : List P2) : Nat → List (List Int)
  | 0 => []
  | k + 1 => ckTo N l k ++ [match l[k]? with | some e => ckV N l k (ckTo N l k) e | none => zs N]
theorem ckTo_len (N : Nat) (l : List P2) (k : Nat) : (ckTo N l k).length = k := by
  induction k with
  | zero => rfl
  | succ k ih => simp [ckTo, ih]
theorem ckTo_succ {N : Nat} {l : List P2} {k : Nat} {e : P2} (h : l[k]? = some e) : ckTo N l (k + 1) = ckTo N l k ++ [ckV N l k (ckTo N l k) e] := by
  show ckTo N l k ++ [match l[k]? with | some e => ckV N l k (ckTo N l k) e | none => zs N] = _
  rw [h]
/-- A clock of N nodes; no number above B. -/
def ckIs (N : Nat) (B : Int) (c : List Int) : Prop := c.length = N ∧ ∀ x ∈ c, 0 ≤ x ∧ x ≤ B
theorem zs_is (N : Nat) {B : Int} (hB : 0 ≤ B) : ckIs N B (zs N) := ⟨by simp [zs], fun x hx => by rw [List.eq_of_mem_replicate hx]; exact ⟨Int.le_refl _, hB⟩⟩
theorem rowAt_is {N : Nat} {out : List (List Int)} {B : Int} (hB : 0 ≤ B) (h : ∀ c ∈ out, ckIs N B c) (p : Int) : ckIs N B (rowAt N out p) := by
  unfold rowAt
  split
  · rw [List.getD_eq_getElem?_getD]
    cases hx : out[p.toNat]? with
    | none => exact zs_is N hB
    | some c => exact h c (List.mem_of_getElem? hx)
  · exact zs_is N hB
theorem mostL_is {N : Nat} {B : Int} {a b : List Int} (ha : ckIs N B a) (hb : ckIs N B b) : ckIs N B (mostL a b) := by
  refine ⟨by unfold mostL; rw [List.length_zipWith, ha.1, hb.1]; omega, fun x hx => ?_⟩
  unfold mostL at hx
  obtain ⟨i, hi, rfl⟩ := List.mem_iff_getElem.1 hx
  rw [List.length_zipWith] at hi
  rw [List.getElem_zipWith]
  have h1 := ha.2 _ (List.getElem_mem (by omega : i < a.length))
  have h2 := hb.2 _ (List.getElem_mem (by omega : i < b.length))
  omega
theorem mostL_zs {N : Nat} {B : Int} {b : List Int} (hb : ckIs N B b) : mostL (zs N) b = b := by
  apply List.ext_getElem
  · unfold mostL; rw [List.length_zipWith, hb.1]; simp [zs]
  · intro i h1 h2
    have := hb.2 _ (List.getElem_mem h2)
    simp only [mostL, List.getElem_zipWith, zs, List.getElem_replicate]
    omega
theorem ckB_is {N : Nat} {l : List P2} {k : Nat} {out : List (List Int)} {e : P2} {B : Int} (hB : 0 ≤ B) (h : ∀ c ∈ out, ckIs N B c) : ckIs N B (ckB N l k out e) := by
  unfold ckB
  split
  · exact mostL_is (rowAt_is hB h _) (rowAt_is hB h _)
  · exact rowAt_is hB h _
theorem incAt_is {N : Nat} {B : Int} {c : List Int} (h : ckIs N B c) (hB : 0 ≤ B) (j : Int) : ckIs N (B + 1) (incAt c j) := by
  refine ⟨by unfold incAt; rw [List.length_set]; exact h.1, fun x hx => ?_⟩
  unfold incAt at hx
  have hg : 0 ≤ c.getD j.toNat 0 ∧ c.getD j.toNat 0 ≤ B := by
    rw [List.getD_eq_getElem?_getD]
    cases hx : c[j.toNat]? with
    | none => exact ⟨Int.le_refl _, hB⟩
    | some y => exact h.2 y (List.mem_of_getElem? hx)
  rcases List.mem_or_eq_of_mem_set hx with hx | rfl
  · have := h.2 x hx; omega
  · omega
theorem ckIs.up {N : Nat} {B B' : Int} {c : List Int} (h : ckIs N B c) (hB : B ≤ B') : ckIs N B' c := ⟨h.1, fun x hx => by have := h.2 x hx; omega⟩
theorem ckTo_is (N : Nat) (l : List P2) (k : Nat) : ∀ c ∈ ckTo N l k, ckIs N (k : Int) c := by
  induction k with
  | zero => intro c hc; cases hc
  | succ k ih =>
    intro c hc
    simp only [ckTo, List.mem_append, List.mem_singleton] at hc
    rcases hc with hc | rfl
    · exact (ih c hc).up (by omega)
    · cases he : l[k]? with
      | none => exact zs_is N (by omega)
      | some e =>
        have := incAt_is (ckB_is (l := l) (k := k) (e := e) (by omega) ih) (by omega : (0 : Int) ≤ (k : Int)) e.a
        exact this.up (by omega)
theorem ckTo_take (N : Nat) (l : List P2) : ∀ {j k : Nat}, j ≤ k → (ckTo N l k).take j = ckTo N l j := by
  intro j k
  induction k with
  | zero => intro h; have e : j = 0 := by omega
            rw [e]; rfl
  | succ k ih =>
    intro h
    by_cases e : j = k + 1
    · subst e; rw [List.take_of_length_le (by rw [ckTo_len]; omega)]
    · simp only [ckTo]
      rw [List.take_append_of_le_length (by rw [ckTo_len]; omega)]
      exact ih (by omega)
theorem incAt_nat (c : List Int) (j : Nat) (h : j < c.length) : incAt c (j : Int) = c.set j (c[j] + 1) := by
  unfold incAt
  rw [Int.toNat_natCast, List.getD_eq_getElem?_getD, List.getElem?_eq_getElem h]
  rfl
theorem rowAt_nat {N : Nat} (out : List (List Int)) (j : Nat) (h : j < out.length) : rowAt N out (j : Int) = out[j] := by
  unfold rowAt
  rw [if_pos (by omega), Int.toNat_natCast, List.getD_eq_getElem?_getD, List.getElem?_eq_getElem h]
  rfl
theorem rowAt_neg {N : Nat} (out : List (List Int)) {p : Int} (h : ¬ 0 ≤ p) : rowAt N out p = zs N := by unfold rowAt; rw [if_neg h]
theorem ckIs.ok {N : Nat} {B : Int} {c : List Int} (h : ckIs N B c) (hB : B ≤ 1000000) : ∀ x ∈ c, (Flat.ok x : Prop) := fun x hx => by
  have := h.2 x hx
  show I64 x
  unfold I64
  omega
end Go.Proofs.Ytmkhahiefdcinaa

/-
  Contracts: l11Clocks, ClocksOf of the reference.
-/
namespace Go.Proofs.Ytmkhahiefdcinaa
open Go.ChangeShapes Go.WideShapes Go.ChangeAt Go.RowKit Go.BigFrame Go.Deep
set_option linter.unusedVariables false

set_option maxHeartbeats 4000000
theorem own_zs (w : World) (N : Nat) (hN : N ≤ 1000000) : (w.alloc (.cells (madeCells #[.int .i64 0] N) 3)).ownsRow w.heap.size 3 1 (.slice (some ⟨w.heap.size, 0, none⟩) N N) N (encs (zs N)) := by
  have := own_made w #[.int .i64 0] 3 (List.replicate N (0 : Int)) (n := N) (s := 1) rfl rfl (by simp) (by omega)
  rw [Nat.mul_one, fill_zero, List.length_replicate] at this
  exact this
theorem news_one_own {w : World} {v : Value} {e : TypeId} {g : Nat} (hg : g = w.heap.size) : ∀ j u, [v][j]? = some u → (w.alloc (.cells #[v] e)).cell? ((⟨g, 0, none⟩ : Addr).add j) = some u := by
  subst hg
  intro j u hj
  match j, hj with
  | 0, hj => simp at hj; subst hj; simp [Addr.add]
/-- What was so below the heap's end is so behind a call. -/
theorem OwnL.lift {w w' : World} {l : List Int} {A : Option Addr} {n c : Nat} {C : List Nat} (h : OwnL w C l A n c) (hb : Below w.heap.size w w') : OwnL w' C l A n c := h.below hb
theorem l11Clocks_any (N : Nat) (hN1 : 1 ≤ N) (hN2 : N ≤ 5) (l : List P2) (hl : ∀ i, i < l.length → ∀ e, l[i]? = some e → 0 ≤ e.a ∧ e.a ≤ (N : Int) - 1 ∧ -1 ≤ e.b ∧ e.b ≤ (i : Int) - 1) (hlen : l.length ≤ 40) (w : World) (S : Nat → Prop) (hS : ∀ b, S b → b < w.heap.size) (A : Option Addr) (n c : Nat) (hl0 : RepL w S l A n c) :
    Calls Try.prog 56 #[.int .i64 N, .slice A n c] w fun x w' => ∃ A2 c2 B, x = .returned (.slice A2 n c2) ∧ OwnL w' B (ckTo N l n) A2 n c2 ∧ B.Nodup ∧ (∀ b ∈ B, w.heap.size ≤ b) ∧ Below w.heap.size w w' := by
  obtain ⟨i0, hi, hz0, hz1, hz2⟩ := info_parts infoInt
  have hinfo : (Try.prog.info? 30).map (fun i => (i.zero, i.size, i.bytes)) = some (some (.slice none 0 0), 1, 24) := by kernel_rfl
  obtain ⟨i1, hi', hz0', hz1', hz2'⟩ := info_parts hinfo
  have hmk : ∀ W, (Instr.makeSlice 30 (.int .i64 (N : Int)) (.int .i64 (N : Int))).run Try.prog W = .ok (.slice (some ⟨W.heap.size, 0, none⟩) N N) (W.alloc (.cells (madeCells #[.int .i64 0] N) 3)) := fun W => by
    have := run_make_rowN (P := Try.prog) 30 3 i0 _ Try.underlying30 hi hz0 .i64 .i64 N N (Nat.le_refl _) (by rw [hz2]; omega) (by omega) W
    rw [hz1, Nat.mul_one] at this
    exact this
  have hbd := hl0.bd
  have hn := hl0.1
  have hn40 : n ≤ 40 := by omega
  have Hn := Lib.hid hn
  have Hl := Lib.hid hl
  clear hn hl
  go_enter Try.func56, Try.ntmps56
  go_wp2_with fail
  go_loopw [5, 12] (fun o i wr => ∃ (k : Nat) (xs : List Value) (B : List Nat), k ≤ n ∧ i = .int .i64 k ∧ OwnEls wr (ckTo N l k) xs B ∧ wr.ownsRow w.heap.size 30 1 o k xs ∧ (o.ownBlock.toList ++ B).Nodup ∧ (∀ b ∈ B, w.heap.size ≤ b) ∧ Below w.heap.size w wr) (fun _ i _ => n - (intOf i).toNat)
  case atStart => exact ⟨0, [], [], Nat.zero_le _, rfl, ⟨rfl, rfl⟩, World.ownsRow_nil _ _ _ _, by simp [Value.ownBlock], fun b hb => (nomatch hb), Below.refl _ _⟩
  case round =>
    obtain ⟨k, xs, B, hk, rfl, hels, hown, hnd, hge, hbel⟩ := hrel
    obtain ⟨A2, c2, rfl⟩ := own_slice hown
    by_cases hlt : k < n
    · have hl1 : k < l.length := by have := Hn.out; omega
      obtain ⟨b, off, xs', rfl, hSb, hc, rfl, hi1, hi2⟩ := hl0.at_ hl1
      have hc0 := hc 0 _ rfl
      have hc1 := hc 1 _ rfl
      clear hc
      generalize hek : l[k] = ek at hc0 hc1 hi1 hi2
      obtain ⟨x, y⟩ := ek
      have hek' : l[k]? = some ⟨x, y⟩ := by rw [List.getElem?_eq_getElem hl1, hek]
      obtain ⟨hx1, hx2, hy1, hy2⟩ := Hl.out k hl1 _ hek'
      obtain ⟨j, rfl⟩ := Int.eq_ofNat_of_zero_le hx1
      have hjN : j < N := by have : (j : Int) ≤ (N : Int) - 1 := hx2; omega
      have hc0' : wr.cell? ⟨b, off + k * 2, none⟩ = some (.int .i64 j) := (hbel.cell (hS _ hSb)).trans hc0
      have hc1' : wr.cell? ⟨b, off + k * 2 + 1, none⟩ = some (.int .i64 y) := (hbel.cell (hS _ hSb)).trans hc1
      have Hek := Lib.hid hek'
      have hy1' : -1 ≤ y := hy1
      have hy2' : y ≤ (k : Int) - 1 := hy2
      -- the world behind the two allocs
      obtain ⟨ge, hge'⟩ : ∃ g, wr.heap.size = g := ⟨_, rfl⟩
      obtain ⟨W, hW⟩ : ∃ W, W = (wr.alloc (.cells #[.int .i64 j, .int .i64 y] 64)).alloc (.cells (madeCells #[.int .i64 0] N) 3) := ⟨_, rfl⟩
      have bW : Below wr.heap.size wr W := by rw [hW]; exact ((Below.refl _ _).alloc (Nat.le_refl _) _).alloc (by simp) _
      have f0 : W.cell? ⟨ge, 0, none⟩ = some (.int .i64 j) := by rw [hW, ← hge']; simp
      have f1 : W.cell? ⟨ge, 1, none⟩ = some (.int .i64 y) := by rw [hW, ← hge']; simp
      have hWs : W.heap.size = ge + 2 := by rw [hW, ← hge']; simp
      have ho0 : OwnL W [ge + 1] (zs N) (some ⟨ge + 1, 0, none⟩) N N := by
        have := own_zs (wr.alloc (.cells #[.int .i64 j, .int .i64 y] 64)) N (by omega)
        rw [← hW] at this
        have e : (wr.alloc (.cells #[.int .i64 j, .int .i64 y] 64)).heap.size = ge + 1 := by rw [← hge']; simp
        rw [e] at this
        exact OwnL.flat (s := 1) rfl (by simp [zs]) this ((zs_is N (Int.le_refl 0)).ok (by omega))
      have hBlt : ∀ b ∈ B, b < ge := fun b hb => by have := hels.lt b hb; omega
      have hA2 : ∀ kk, (Value.slice A2 k c2).ownBlock = some kk → w.heap.size ≤ kk ∧ kk < ge := fun kk hkk => by have := hown.lt kk hkk; omega
      have helsW := hels.keep fun b hb => bW.block b (hels.lt b hb)
      have hownW := own_below hown bW
      have HW := Lib.hid hW
      have hckis := ckTo_is N l k
      have hlb := lastAt_bd l k (j : Int)
      obtain ⟨p, hp⟩ : ∃ p, lastAt l k (j : Int) = p := ⟨_, rfl⟩
      rw [hp] at hlb
      have CPr := Lib.hid (fun W S hS h => l11Prior_any l k j y hek' W S hS (some ⟨b, off, none⟩) n c h)
      rw [hp] at CPr
      have Hp := Lib.hid hp
      have Hckis := Lib.hid hckis
      clear hp hckis
      have HbW := Lib.hid bW
      clear hc0 hc1 hek hek' hi1 hi2 hW hels hown hx1 hx2 hy1 hy2
      go_wp2_with fail
      try simp only [hge']
      rw [← HW.out]
      refine (CPr.out W S (fun b hb => Nat.lt_of_lt_of_le (hS b hb) (Nat.le_trans hbel.size bW.size)) (hl0.keep (w' := W) (fun q hq => (bnext hbel bW).cell (hS _ hq)))).mono ?_
      rintro e w1 ⟨rfl, b1⟩
      have z1 := b1.size
      have zW := bW.size
      have g0 : w1.cell? ⟨ge, 0, none⟩ = some (.int .i64 j) := (b1.cell (p := ⟨ge, 0, none⟩) (by show ge < W.heap.size; omega)).trans f0
      have g1 : w1.cell? ⟨ge, 1, none⟩ = some (.int .i64 y) := (b1.cell (p := ⟨ge, 1, none⟩) (by show ge < W.heap.size; omega)).trans f1
      have o1 := ho0.below b1
      have hels1 := helsW.keep fun b hb => b1.block b (helsW.lt b hb)
      have hown1 := own_below hownW b1
      have bT1 := bnext hbel (bnext bW b1)
      clear helsW hownW ho0 f0 f1
      have hplt : p < (k : Int) := hlb.2
      have HBlt := Lib.hid hBlt
      have HA2 := Lib.hid hA2
      clear hBlt hA2
      have bg1 : ∀ b ∈ [ge + 1], ge < b := fun b hb => by simp at hb; omega
      have nd1 : [ge + 1].Nodup := by simp
      have hgeW : ge < w1.heap.size := by omega
      by_cases hp0 : 0 ≤ p
      · obtain ⟨q, rfl⟩ := Int.eq_ofNat_of_zero_le hp0
        have hq : q < k := by omega
        obtain ⟨g2, rfl, hg2, -⟩ := ownsRow_addr hown1 (by omega)
        have hri := rowAt_is (Int.natCast_nonneg k) Hckis.out (q : Int)
        obtain ⟨Aq, cq, e3, k2⟩ := hels1.rowOf (q := q) (r := rowAt N (ckTo N l k) (q : Int)) (by rw [rowAt_nat _ _ (by rw [ckTo_len]; exact hq)]; exact List.getElem?_eq_getElem (by rw [ckTo_len]; exact hq))
        rw [hri.1] at e3 k2
        have k1 : w1.cell? ⟨g2, q, none⟩ = some (.slice Aq N cq) := by rw [hown1.cellAt q (by omega)]; exact e3
        have hqI : (q : Int) < (k : Int) := by omega
        have CM := Lib.hid (l11Most_any (zs N) (rowAt N (ckTo N l k) (q : Int)) (by rw [hri.1]; simp [zs]) w1 _ (fun x hx => hx) _ _ N N N cq (by omega) (o1.rep.more fun b hb => o1.lt b hb) k2)
        rw [mostL_zs hri] at CM
        have Hri := Lib.hid hri
        have HP := Lib.hid (show rowAt N (ckTo N l k) (lastAt l k (j : Int)) = rowAt N (ckTo N l k) (q : Int) by rw [Hp.out])
        clear k2 hri e3
        go_wp2_with fail
        refine (CM.out).mono ?_
        rintro e w2 ⟨A3, c3, rfl, ho3, -, b2⟩
        have z2 := b2.size
        obtain ⟨o2, nd2, hF2⟩ := OwnL.made rfl ho3 Hri.out.1.symm (Hri.out.ok (by omega))
        obtain ⟨C2, hC2⟩ : ∃ C, (Value.slice A3 N c3).ownBlock.toList = C := ⟨_, rfl⟩
        rw [hC2] at o2 nd2 hF2
        have HbC := Lib.hid (show ∀ b ∈ C2, b ∉ B from fun b hb hm => by have := HBlt.out b hm; have := hF2 b hb; omega)
        have bg2 : ∀ b ∈ C2, ge < b := fun b hb => by have := hF2 b hb; omega
        have h0 : w2.cell? ⟨ge, 0, none⟩ = some (.int .i64 j) := (b2.cell (p := ⟨ge, 0, none⟩) hgeW).trans g0
        have h1 : w2.cell? ⟨ge, 1, none⟩ = some (.int .i64 y) := (b2.cell (p := ⟨ge, 1, none⟩) hgeW).trans g1
        have hels2 := hels1.keep fun b hb => b2.block b (hels1.lt b hb)
        have hown2 := own_below hown1 b2
        have bT2 := bnext bT1 b2
        have HC2 := Lib.hid hC2
        rw [← HP.out] at o2
        clear hels1 hown1 g0 g1 o1 ho3 hF2 hC2 CM HP Hri k1 hqI b2 hq
        by_cases hy0 : 0 ≤ y
        · obtain ⟨f, rfl⟩ := Int.eq_ofNat_of_zero_le hy0
          have hf : f < k := by omega
          obtain ⟨g2, e2, hg2, -⟩ := ownsRow_addr hown2 (by omega)
          simp only [Option.some.injEq, Addr.mk.injEq, and_true] at e2
          subst e2
          have hri := rowAt_is (Int.natCast_nonneg k) Hckis.out (f : Int)
          have hrb := rowAt_is (Int.natCast_nonneg k) Hckis.out (lastAt l k (j : Int))
          obtain ⟨Aq, cq, e3, k2⟩ := hels2.rowOf (q := f) (r := rowAt N (ckTo N l k) (f : Int)) (by rw [rowAt_nat _ _ (by rw [ckTo_len]; exact hf)]; exact List.getElem?_eq_getElem (by rw [ckTo_len]; exact hf))
          rw [hri.1] at e3 k2
          have k1 : w2.cell? ⟨g2, f, none⟩ = some (.slice Aq N cq) := by rw [hown2.cellAt f (by omega)]; exact e3
          have hfI : (f : Int) < (k : Int) := by omega
          have CM := Lib.hid (l11Most_any (rowAt N (ckTo N l k) (lastAt l k (j : Int))) (rowAt N (ckTo N l k) (f : Int)) (by rw [hri.1, hrb.1]) w2 _ (fun x hx => hx) _ _ N _ N cq (by omega) (o2.rep.more fun b hb => o2.lt b hb) k2)
          have HkB := Lib.hid (show ckB N l k (ckTo N l k) ⟨j, f⟩ = mostL (rowAt N (ckTo N l k) (lastAt l k (j : Int))) (rowAt N (ckTo N l k) (f : Int)) by unfold ckB; rw [if_pos (show (0 : Int) ≤ (f : Int) by omega)])
          have Hmi := Lib.hid (mostL_is hrb hri)
          clear k2 hri hrb e3
          go_wp2_with fail
          refine (CM.out).mono ?_
          rintro e w3 ⟨A4, c4, rfl, ho4, -, b3⟩
          have z3 := b3.size
          obtain ⟨o3, nd3, hF3⟩ := OwnL.made rfl ho4 Hmi.out.1.symm (Hmi.out.ok (by omega))
          obtain ⟨C3, hC3⟩ : ∃ C, (Value.slice A4 N c4).ownBlock.toList = C := ⟨_, rfl⟩
          rw [hC3] at o3 nd3 hF3
          have bg3 : ∀ b ∈ C3, ge < b ∧ b ∉ B := fun b hb => ⟨by have := hF3 b hb; omega, fun hm => by have := hels2.lt b hm; have := hF3 b hb; omega⟩
          have h2 : w3.cell? ⟨ge, 0, none⟩ = some (.int .i64 j) := (b3.cell (p := ⟨ge, 0, none⟩) (by show ge < w2.heap.size; omega)).trans h0
          have hels3 := hels2.keep fun b hb => b3.block b (hels2.lt b hb)
          have hown3 := own_below hown2 b3
          have bT3 := bnext bT2 b3
          rw [← HkB.out] at o3
          have HC3 := Lib.hid hC3
          clear hels2 hown2 h0 h1 o2 ho4 hF3 hC3 CM HkB Hmi k1 hfI b3 hf
          have hbi := ckB_is (N := N) (l := l) (k := k) (e := ⟨j, f⟩) (Int.natCast_nonneg k) Hckis.out
          have hjl : j < (ckB N l k (ckTo N l k) ⟨j, f⟩).length := by rw [hbi.1]; exact hjN
          obtain ⟨gc, eA, hCg, hgcl, hcc, hcf, hci, hst⟩ := o3.intAt hjl
          subst eA
          have hjb := hbi.2 _ (List.getElem_mem hjl)
          have Hck := Lib.hid (show ckTo N l (k + 1) = ckTo N l k ++ [(ckB N l k (ckTo N l k) ⟨j, f⟩).set j ((ckB N l k (ckTo N l k) ⟨j, f⟩)[j] + 1)] by rw [ckTo_succ Hek.out]; unfold ckV; rw [incAt_nat _ _ hjl])
          generalize hvj : (ckB N l k (ckTo N l k) ⟨j, f⟩)[j] = vj at *
          have hw : IntKind.i64.wrap (vj + 1) = vj + 1 := by rw [IntKind.wrap_i64]; omega
          obtain ⟨hO, hT⟩ := hst (vj + 1) ⟨by omega, by omega⟩
          have hjI : (j : Int) < (N : Int) := by omega
          have hj0 : (0 : Int) ≤ (j : Int) := by omega
          have hgcB : gc ∉ B ∧ ge < gc := by have := bg3 gc (by rw [hCg]; simp); exact ⟨this.2, this.1⟩
          have helsF := hels3.touch hT fun b hb hm => by rw [hCg] at hm; simp at hm; subst hm; exact hgcB.1 hb
          have hownF := ownsRow_touch hown3 hT fun kk hkk hm => by
            rw [hCg] at hm; simp at hm; subst hm
            have := HA2.out _ hkk
            omega
          have bTF := below_touch bT3 hT (fun b hb => by rw [hCg] at hb; simp at hb; subst hb; have := hbel.size; omega) bT3.size
          have zF := hT.size
          have HbTF := Lib.hid bTF
          have HownF := Lib.hid hownF
          have hgl := hO.lt gc (by rw [hCg]; simp)
          clear hvj hst hbi hjl hels3 hown3
          go_wp2_with (at_builtin; refine Go.wpList_append_own_at _ rfl (.tmp 47) (.tmp 49) _ rfl w.heap.size 30 i1 _ 1 24 Try.underlying40 hi' hz0' hz1' hz2' rfl (by omega) (.slice (some ⟨g2, 0, none⟩) k c2) k xs rfl (HownF.out.alloc _) ⟨w3.heap.size, 0, none⟩ 1 1 [.slice (some ⟨gc, 0, none⟩) N _] rfl rfl (news_one_own (by simp)) (by intro u' hu'; simp at hu'; subst hu'; rfl) (by unfold maxLen; omega) (by omega) (by have := HbTF.out.size; simp at this ⊢; omega) ?_; intro v1 w9 hown9 hg9 hnil9 hat9)
          go_roundw
          case rel =>
            have hT9 : Touch (Value.slice (some ⟨g2, 0, none⟩) k c2).ownBlock.toList _ w9 := ((Touch.refl _ _).alloc _).trans (Touch.grown hg9 fun kk hkk => by rw [hkk]; simp)
            have hnk := snoc_own helsF hO.2 hnd (by rw [hCg]; simp) (fun b hb hm => by
              rw [hCg] at hb; simp at hb; subst hb
              rcases List.mem_append.1 hm with hm | hm
              · have := HA2.out b (by simpa using hm); omega
              · exact hgcB.1 hm) hT9 hat9 (by simp)
            refine ⟨k + 1, xs ++ [_], B ++ C3, by omega, by go_num, by rw [Hck.out]; exact hnk.1, hown9, hnk.2, fun b hb => ?_, own_base (HownF.out.alloc _) (HbTF.out.alloc HbTF.out.size _) (Nat.le_refl _) hg9 (by have := HbTF.out.size; simp at this ⊢; omega)⟩
            rcases List.mem_append.1 hb with hb | hb
            · exact hge b hb
            · have := bg3 b hb; have := hbel.size; omega
          case measure => simp [intOf]; omega
        · have HkB := Lib.hid (show ckB N l k (ckTo N l k) ⟨j, y⟩ = rowAt N (ckTo N l k) (lastAt l k (j : Int)) by unfold ckB; rw [if_neg hy0])
          have dy0 : decide (0 ≤ y) = false := decide_eq_false hy0
          rw [← HkB.out] at o2
          have bg3 : ∀ b ∈ C2, ge < b ∧ b ∉ B := fun b hb => ⟨bg2 b hb, fun hm => HbC.out b hb hm⟩
          clear HkB
          have hbi := ckB_is (N := N) (l := l) (k := k) (e := ⟨j, y⟩) (Int.natCast_nonneg k) Hckis.out
          have hjl : j < (ckB N l k (ckTo N l k) ⟨j, y⟩).length := by rw [hbi.1]; exact hjN
          obtain ⟨gc, eA, hCg, hgcl, hcc, hcf, hci, hst⟩ := o2.intAt hjl
          subst eA
          have hjb := hbi.2 _ (List.getElem_mem hjl)
          have Hck := Lib.hid (show ckTo N l (k + 1) = ckTo N l k ++ [(ckB N l k (ckTo N l k) ⟨j, y⟩).set j ((ckB N l k (ckTo N l k) ⟨j, y⟩)[j] + 1)] by rw [ckTo_succ Hek.out]; unfold ckV; rw [incAt_nat _ _ hjl])
          generalize hvj : (ckB N l k (ckTo N l k) ⟨j, y⟩)[j] = vj at *
          have hw : IntKind.i64.wrap (vj + 1) = vj + 1 := by rw [IntKind.wrap_i64]; omega
          obtain ⟨hO, hT⟩ := hst (vj + 1) ⟨by omega, by omega⟩
          have hjI : (j : Int) < (N : Int) := by omega
          have hj0 : (0 : Int) ≤ (j : Int) := by omega
          have hgcB : gc ∉ B ∧ ge < gc := by have := bg3 gc (by rw [hCg]; simp); exact ⟨this.2, this.1⟩
          have helsF := hels2.touch hT fun b hb hm => by rw [hCg] at hm; simp at hm; subst hm; exact hgcB.1 hb
          have hownF := ownsRow_touch hown2 hT fun kk hkk hm => by
            rw [hCg] at hm; simp at hm; subst hm
            have := HA2.out _ hkk
            omega
          have bTF := below_touch bT2 hT (fun b hb => by rw [hCg] at hb; simp at hb; subst hb; have := hbel.size; omega) bT2.size
          have zF := hT.size
          have HbTF := Lib.hid bTF
          have HownF := Lib.hid hownF
          have hgl := hO.lt gc (by rw [hCg]; simp)
          clear hvj hst hbi hjl hels2 hown2
          go_wp2_with (at_builtin; refine Go.wpList_append_own_at _ rfl (.tmp 47) (.tmp 49) _ rfl w.heap.size 30 i1 _ 1 24 Try.underlying40 hi' hz0' hz1' hz2' rfl (by omega) (.slice (some ⟨g2, 0, none⟩) k c2) k xs rfl (HownF.out.alloc _) ⟨w2.heap.size, 0, none⟩ 1 1 [.slice (some ⟨gc, 0, none⟩) N _] rfl rfl (news_one_own (by simp)) (by intro u' hu'; simp at hu'; subst hu'; rfl) (by unfold maxLen; omega) (by omega) (by have := HbTF.out.size; simp at this ⊢; omega) ?_; intro v1 w9 hown9 hg9 hnil9 hat9)
          go_roundw
          case rel =>
            have hT9 : Touch (Value.slice (some ⟨g2, 0, none⟩) k c2).ownBlock.toList _ w9 := ((Touch.refl _ _).alloc _).trans (Touch.grown hg9 fun kk hkk => by rw [hkk]; simp)
            have hnk := snoc_own helsF hO.2 hnd (by rw [hCg]; simp) (fun b hb hm => by
              rw [hCg] at hb; simp at hb; subst hb
              rcases List.mem_append.1 hm with hm | hm
              · have := HA2.out b (by simpa using hm); omega
              · exact hgcB.1 hm) hT9 hat9 (by simp)
            refine ⟨k + 1, xs ++ [_], B ++ C2, by omega, by go_num, by rw [Hck.out]; exact hnk.1, hown9, hnk.2, fun b hb => ?_, own_base (HownF.out.alloc _) (HbTF.out.alloc HbTF.out.size _) (Nat.le_refl _) hg9 (by have := HbTF.out.size; simp at this ⊢; omega)⟩
            rcases List.mem_append.1 hb with hb | hb
            · exact hge b hb
            · have := bg3 b hb; have := hbel.size; omega
          case measure => simp [intOf]; omega
      · have HP := Lib.hid (show rowAt N (ckTo N l k) (lastAt l k (j : Int)) = zs N by rw [Hp.out, rowAt_neg _ hp0])
        have dp0 : decide (0 ≤ p) = false := decide_eq_false hp0
        rw [← HP.out] at o1
        clear HP
        by_cases hy0 : 0 ≤ y
        · obtain ⟨f, rfl⟩ := Int.eq_ofNat_of_zero_le hy0
          have hf : f < k := by omega
          obtain ⟨g2, e2, hg2, -⟩ := ownsRow_addr hown1 (by omega)
          subst e2
          have hri := rowAt_is (Int.natCast_nonneg k) Hckis.out (f : Int)
          have hrb := rowAt_is (Int.natCast_nonneg k) Hckis.out (lastAt l k (j : Int))
          obtain ⟨Aq, cq, e3, k2⟩ := hels1.rowOf (q := f) (r := rowAt N (ckTo N l k) (f : Int)) (by rw [rowAt_nat _ _ (by rw [ckTo_len]; exact hf)]; exact List.getElem?_eq_getElem (by rw [ckTo_len]; exact hf))
          rw [hri.1] at e3 k2
          have k1 : w1.cell? ⟨g2, f, none⟩ = some (.slice Aq N cq) := by rw [hown1.cellAt f (by omega)]; exact e3
          have hfI : (f : Int) < (k : Int) := by omega
          have CM := Lib.hid (l11Most_any (rowAt N (ckTo N l k) (lastAt l k (j : Int))) (rowAt N (ckTo N l k) (f : Int)) (by rw [hri.1, hrb.1]) w1 _ (fun x hx => hx) _ _ N _ N cq (by omega) (o1.rep.more fun b hb => o1.lt b hb) k2)
          have HkB := Lib.hid (show ckB N l k (ckTo N l k) ⟨j, f⟩ = mostL (rowAt N (ckTo N l k) (lastAt l k (j : Int))) (rowAt N (ckTo N l k) (f : Int)) by unfold ckB; rw [if_pos (show (0 : Int) ≤ (f : Int) by omega)])
          have Hmi := Lib.hid (mostL_is hrb hri)
          clear k2 hri hrb e3
          go_wp2_with fail
          refine (CM.out).mono ?_
          rintro e w3 ⟨A4, c4, rfl, ho4, -, b3⟩
          have z3 := b3.size
          obtain ⟨o3, nd3, hF3⟩ := OwnL.made rfl ho4 Hmi.out.1.symm (Hmi.out.ok (by omega))
          obtain ⟨C3, hC3⟩ : ∃ C, (Value.slice A4 N c4).ownBlock.toList = C := ⟨_, rfl⟩
          rw [hC3] at o3 nd3 hF3
          have bg3 : ∀ b ∈ C3, ge < b ∧ b ∉ B := fun b hb => ⟨by have := hF3 b hb; omega, fun hm => by have := hels1.lt b hm; have := hF3 b hb; omega⟩
          have h2 : w3.cell? ⟨ge, 0, none⟩ = some (.int .i64 j) := (b3.cell (p := ⟨ge, 0, none⟩) (by show ge < w1.heap.size; omega)).trans g0
          have hels3 := hels1.keep fun b hb => b3.block b (hels1.lt b hb)
          have hown3 := own_below hown1 b3
          have bT3 := bnext bT1 b3
          rw [← HkB.out] at o3
          have HC3 := Lib.hid hC3
          clear hels1 hown1 g0 g1 o1 ho4 hF3 hC3 CM HkB Hmi k1 hfI b3 hf
          have hbi := ckB_is (N := N) (l := l) (k := k) (e := ⟨j, f⟩) (Int.natCast_nonneg k) Hckis.out
          have hjl : j < (ckB N l k (ckTo N l k) ⟨j, f⟩).length := by rw [hbi.1]; exact hjN
          obtain ⟨gc, eA, hCg, hgcl, hcc, hcf, hci, hst⟩ := o3.intAt hjl
          subst eA
          have hjb := hbi.2 _ (List.getElem_mem hjl)
          have Hck := Lib.hid (show ckTo N l (k + 1) = ckTo N l k ++ [(ckB N l k (ckTo N l k) ⟨j, f⟩).set j ((ckB N l k (ckTo N l k) ⟨j, f⟩)[j] + 1)] by rw [ckTo_succ Hek.out]; unfold ckV; rw [incAt_nat _ _ hjl])
          generalize hvj : (ckB N l k (ckTo N l k) ⟨j, f⟩)[j] = vj at *
          have hw : IntKind.i64.wrap (vj + 1) = vj + 1 := by rw [IntKind.wrap_i64]; omega
          obtain ⟨hO, hT⟩ := hst (vj + 1) ⟨by omega, by omega⟩
          have hjI : (j : Int) < (N : Int) := by omega
          have hj0 : (0 : Int) ≤ (j : Int) := by omega
          have hgcB : gc ∉ B ∧ ge < gc := by have := bg3 gc (by rw [hCg]; simp); exact ⟨this.2, this.1⟩
          have helsF := hels3.touch hT fun b hb hm => by rw [hCg] at hm; simp at hm; subst hm; exact hgcB.1 hb
          have hownF := ownsRow_touch hown3 hT fun kk hkk hm => by
            rw [hCg] at hm; simp at hm; subst hm
            have := HA2.out _ hkk
            omega
          have bTF := below_touch bT3 hT (fun b hb => by rw [hCg] at hb; simp at hb; subst hb; have := hbel.size; omega) bT3.size
          have zF := hT.size
          have HbTF := Lib.hid bTF
          have HownF := Lib.hid hownF
          have hgl := hO.lt gc (by rw [hCg]; simp)
          clear hvj hst hbi hjl hels3 hown3
          go_wp2_with (at_builtin; refine Go.wpList_append_own_at _ rfl (.tmp 47) (.tmp 49) _ rfl w.heap.size 30 i1 _ 1 24 Try.underlying40 hi' hz0' hz1' hz2' rfl (by omega) (.slice (some ⟨g2, 0, none⟩) k c2) k xs rfl (HownF.out.alloc _) ⟨w3.heap.size, 0, none⟩ 1 1 [.slice (some ⟨gc, 0, none⟩) N _] rfl rfl (news_one_own (by simp)) (by intro u' hu'; simp at hu'; subst hu'; rfl) (by unfold maxLen; omega) (by omega) (by have := HbTF.out.size; simp at this ⊢; omega) ?_; intro v1 w9 hown9 hg9 hnil9 hat9)
          go_roundw
          case rel =>
            have hT9 : Touch (Value.slice (some ⟨g2, 0, none⟩) k c2).ownBlock.toList _ w9 := ((Touch.refl _ _).alloc _).trans (Touch.grown hg9 fun kk hkk => by rw [hkk]; simp)
            have hnk := snoc_own helsF hO.2 hnd (by rw [hCg]; simp) (fun b hb hm => by
              rw [hCg] at hb; simp at hb; subst hb
              rcases List.mem_append.1 hm with hm | hm
              · have := HA2.out b (by simpa using hm); omega
              · exact hgcB.1 hm) hT9 hat9 (by simp)
            refine ⟨k + 1, xs ++ [_], B ++ C3, by omega, by go_num, by rw [Hck.out]; exact hnk.1, hown9, hnk.2, fun b hb => ?_, own_base (HownF.out.alloc _) (HbTF.out.alloc HbTF.out.size _) (Nat.le_refl _) hg9 (by have := HbTF.out.size; simp at this ⊢; omega)⟩
            rcases List.mem_append.1 hb with hb | hb
            · exact hge b hb
            · have := bg3 b hb; have := hbel.size; omega
          case measure => simp [intOf]; omega
        · have HkB := Lib.hid (show ckB N l k (ckTo N l k) ⟨j, y⟩ = rowAt N (ckTo N l k) (lastAt l k (j : Int)) by unfold ckB; rw [if_neg hy0])
          have dy0 : decide (0 ≤ y) = false := decide_eq_false hy0
          rw [← HkB.out] at o1
          have bg3 : ∀ b ∈ [ge + 1], ge < b ∧ b ∉ B := fun b hb => ⟨bg1 b hb, fun hm => by have := HBlt.out b hm; simp at hb; omega⟩
          clear HkB
          have hbi := ckB_is (N := N) (l := l) (k := k) (e := ⟨j, y⟩) (Int.natCast_nonneg k) Hckis.out
          have hjl : j < (ckB N l k (ckTo N l k) ⟨j, y⟩).length := by rw [hbi.1]; exact hjN
          obtain ⟨gc, eA, hCg, hgcl, hcc, hcf, hci, hst⟩ := o1.intAt hjl
          simp only [Option.some.injEq, Addr.mk.injEq, and_true] at eA
          rw [eA]
          have hjb := hbi.2 _ (List.getElem_mem hjl)
          have Hck := Lib.hid (show ckTo N l (k + 1) = ckTo N l k ++ [(ckB N l k (ckTo N l k) ⟨j, y⟩).set j ((ckB N l k (ckTo N l k) ⟨j, y⟩)[j] + 1)] by rw [ckTo_succ Hek.out]; unfold ckV; rw [incAt_nat _ _ hjl])
          generalize hvj : (ckB N l k (ckTo N l k) ⟨j, y⟩)[j] = vj at *
          have hw : IntKind.i64.wrap (vj + 1) = vj + 1 := by rw [IntKind.wrap_i64]; omega
          obtain ⟨hO, hT⟩ := hst (vj + 1) ⟨by omega, by omega⟩
          have hjI : (j : Int) < (N : Int) := by omega
          have hj0 : (0 : Int) ≤ (j : Int) := by omega
          have hgcB : gc ∉ B ∧ ge < gc := by have := bg3 gc (by rw [hCg]; simp); exact ⟨this.2, this.1⟩
          have helsF := hels1.touch hT fun b hb hm => by rw [hCg] at hm; simp at hm; subst hm; exact hgcB.1 hb
          have hownF := ownsRow_touch hown1 hT fun kk hkk hm => by
            rw [hCg] at hm; simp at hm; subst hm
            have := HA2.out _ hkk
            omega
          have bTF := below_touch bT1 hT (fun b hb => by rw [hCg] at hb; simp at hb; subst hb; have := hbel.size; omega) bT1.size
          have zF := hT.size
          have HbTF := Lib.hid bTF
          have HownF := Lib.hid hownF
          have hgl := hO.lt gc (by rw [hCg]; simp)
          clear hvj hst hbi hjl hels1 hown1
          go_wp2_with (at_builtin; refine Go.wpList_append_own_at _ rfl (.tmp 47) (.tmp 49) _ rfl w.heap.size 30 i1 _ 1 24 Try.underlying40 hi' hz0' hz1' hz2' rfl (by omega) (.slice A2 k c2) k xs rfl (HownF.out.alloc _) ⟨w1.heap.size, 0, none⟩ 1 1 [.slice (some ⟨gc, 0, none⟩) N _] rfl rfl (news_one_own (by simp)) (by intro u' hu'; simp at hu'; subst hu'; rfl) (by unfold maxLen; omega) (by omega) (by have := HbTF.out.size; simp at this ⊢; omega) ?_; intro v1 w9 hown9 hg9 hnil9 hat9)
          go_roundw
          case rel =>
            have hT9 : Touch (Value.slice A2 k c2).ownBlock.toList _ w9 := ((Touch.refl _ _).alloc _).trans (Touch.grown hg9 fun kk hkk => by rw [hkk]; simp)
            have hnk := snoc_own helsF hO.2 hnd (by rw [hCg]; simp) (fun b hb hm => by
              rw [hCg] at hb; simp at hb; subst hb
              rcases List.mem_append.1 hm with hm | hm
              · have := HA2.out b (by simpa using hm); omega
              · exact hgcB.1 hm) hT9 hat9 (by simp)
            refine ⟨k + 1, xs ++ [_], B ++ [ge + 1], by omega, by go_num, by rw [Hck.out, ← eA]; exact hnk.1, hown9, hnk.2, fun b hb => ?_, own_base (HownF.out.alloc _) (HbTF.out.alloc HbTF.out.size _) (Nat.le_refl _) hg9 (by have := HbTF.out.size; simp at this ⊢; omega)⟩
            rcases List.mem_append.1 hb with hb | hb
            · exact hge b hb
            · have := bg3 b hb; have := hbel.size; omega
          case measure => simp [intOf]; omega
    · obtain rfl : k = n := by omega
      go_wp2_with fail
      go_ret
      refine ⟨A2, c2, _, rfl, OwnL.mk_ (by rw [ckTo_len]) hown hels, hnd, fun b hb => ?_, hbel⟩
      rcases List.mem_append.1 hb with hb | hb
      · exact (hown.lt b (by simpa using hb)).1
      · exact hge b hb

/-- What ClocksOf answers. -/
noncomputable def ckOf (nodes : Int) (l : List P2) : List (List Int) := if goodEv nodes l then ckTo nodes.toNat l l.length else []
end Go.Proofs.Ytmkhahiefdcinaa

/-
  Contract: clocksOf of the program.
-/
namespace Go.Proofs.Ytmkhahiefdcinaa
open Go.ChangeShapes Go.WideShapes Go.ChangeAt Go.RowKit Go.BigFrame Go.Deep
set_option linter.unusedVariables false

set_option maxHeartbeats 1000000
theorem own_of_heap {α : Type} [Flat α] {w : World} {g : Nat} {L : List α} {T : TypeId} {n : Nat} (hn : n = L.length) (h : w.heap[g]? = some (.cells (encs L).toArray T (0, 0))) (hok : ∀ a ∈ L, Flat.ok a) (hsm : n ≤ 1000000) : OwnL w [g] L (some ⟨g, 0, none⟩) n n := by
  have : w.ownsRow 0 T (Flat.size α) (.slice (some ⟨g, 0, none⟩) n n) n (encs L) := by
    refine ⟨by rw [encs_len, hn], .inr ⟨g, n, _, rfl, Nat.zero_le _, h, Nat.le_refl _, by unfold maxLen; omega, by simp [encs_len, hn], ?_⟩⟩
    exact List.take_of_length_le (by simp [encs_len, hn])
  exact OwnL.flat rfl hn this hok
/-- The last clock at each node, nil for none. -/
def lastRow (l : List P2) (k N : Nat) (xs ys : List Value) : Prop := ys.length = N ∧ ∀ j, j < N → ys[j]? = if 0 ≤ lastAt l k (j : Int) then xs[(lastAt l k (j : Int)).toNat]? else some (.slice none 0 0)
theorem lastRow_step {l : List P2} {k N j : Nat} {y : Int} {xs ys : List Value} {v : Value} (h : lastRow l k N xs ys) (he : l[k]? = some ⟨j, y⟩) (hj : j < N) (hx : xs.length = k) : lastRow l (k + 1) N (xs ++ [v]) (ys.set j v) := by
  refine ⟨by rw [List.length_set]; exact h.1, fun i hi => ?_⟩
  by_cases e : j = i
  · subst e
    rw [List.getElem?_set_self (by rw [h.1]; exact hi), lastAt_hit he rfl, if_pos (by omega), Int.toNat_natCast, List.getElem?_append_right (by omega), hx, Nat.sub_self]
    rfl
  · rw [List.getElem?_set_ne e, lastAt_miss he (by show ¬ ((j : Int) = (i : Int)); omega), h.2 i hi]
    have hb := lastAt_bd l k (i : Int)
    split
    · rw [List.getElem?_append_left (by omega)]
    · rfl
theorem splice_all {α : Type} (a b : List α) (h : a.length = b.length) : splice a 0 b = b := by
  unfold splice
  rw [List.take_zero, List.nil_append, Nat.zero_add, List.drop_of_length_le (by omega), List.append_nil]
theorem splice_nil {α : Type} (a : List α) : splice a 0 [] = a := by simp [splice]
/-- One more at a place of an own row. -/
theorem incFacts {w : World} {g N j : Nat} {L : List Int} {k : Nat} (h : OwnL w [g] L (some ⟨g, 0, none⟩) N N) (hj : j < L.length) (hi : ckIs N (k : Int) L) :
    ∃ v, w.cell? ⟨g, j, none⟩ = some (.int .i64 v) ∧ w.frozen? ⟨g, j, none⟩ = false ∧ (0 ≤ v ∧ v ≤ (k : Int)) ∧ RowKit.Hid (incAt L (j : Int) = L.set j (v + 1)) ∧ RowKit.Hid (∀ u, I64 u → OwnL (w.setCell ⟨g, j, none⟩ (.int .i64 u)) [g] (L.set j u) (some ⟨g, 0, none⟩) N N ∧ Touch [g] w (w.setCell ⟨g, j, none⟩ (.int .i64 u))) := by
  obtain ⟨gc, eA, hCg, hgcl, hcc, hcf, hci, hst⟩ := h.intAt hj
  simp only [Option.some.injEq, Addr.mk.injEq, and_true] at eA
  subst eA
  exact ⟨L[j], hcc, hcf, hi.2 _ (List.getElem_mem hj), Lib.hid (incAt_nat _ _ hj), Lib.hid hst⟩
theorem clocksOf_any (N : Nat) (hN1 : 1 ≤ N) (hN2 : N ≤ 5) (l : List P2) (hl : ∀ i, i < l.length → ∀ e, l[i]? = some e → 0 ≤ e.a ∧ e.a ≤ (N : Int) - 1 ∧ -1 ≤ e.b ∧ e.b ≤ (i : Int) - 1) (hlen : l.length ≤ 40) (w : World) (S : Nat → Prop) (hS : ∀ b, S b → b < w.heap.size) (A : Option Addr) (n c : Nat) (hl0 : RepL w S l A n c) :
    Calls Try.prog 50 #[.int .i64 N, .slice A n c] w fun x w' => ∃ A2 c2 B, x = .returned (.slice A2 n c2) ∧ OwnL w' B (ckTo N l n) A2 n c2 ∧ B.Nodup ∧ (∀ b ∈ B, w.heap.size ≤ b) ∧ Below w.heap.size w w' := by
  obtain ⟨i0, hi, hz0, hz1, hz2⟩ := info_parts infoInt
  have hinfo : (Try.prog.info? 30).map (fun i => (i.zero, i.size, i.bytes)) = some (some (.slice none 0 0), 1, 24) := by kernel_rfl
  obtain ⟨i1, hi', hz0', hz1', hz2'⟩ := info_parts hinfo
  have hsz1 : (Try.prog.info? 3).map (·.size) = some 1 := by rw [hi]; simp [hz1]
  have hmk : ∀ W, (Instr.makeSlice 30 (.int .i64 (N : Int)) (.int .i64 (N : Int))).run Try.prog W = .ok (.slice (some ⟨W.heap.size, 0, none⟩) N N) (W.alloc (.cells (madeCells #[.int .i64 0] N) 3)) := fun W => by
    have := run_make_rowN (P := Try.prog) 30 3 i0 _ Try.underlying30 hi hz0 .i64 .i64 N N (Nat.le_refl _) (by rw [hz2]; omega) (by omega) W
    rw [hz1, Nat.mul_one] at this
    exact this
  have hmkR : ∀ (m : Nat) W, m ≤ 40 → (Instr.makeSlice 40 (.int .i64 (m : Int)) (.int .i64 (m : Int))).run Try.prog W = .ok (.slice (some ⟨W.heap.size, 0, none⟩) m m) (W.alloc (.cells (madeCells #[.slice none 0 0] m) 30)) := fun m W hm => by
    have := run_make_rowN (P := Try.prog) 40 30 i1 _ Try.underlying40 hi' hz0' .i64 .i64 m m (Nat.le_refl _) (by rw [hz2']; omega) (by omega) W
    rw [hz1', Nat.mul_one] at this
    exact this
  have ownR : ∀ (m : Nat) (W : World), m ≤ 40 → (W.alloc (.cells (madeCells #[.slice none 0 0] m) 30)).ownsRow W.heap.size 30 1 (.slice (some ⟨W.heap.size, 0, none⟩) m m) m (List.replicate m (.slice none 0 0)) := fun m W hm => by
    refine ⟨by simp, .inr ⟨_, m, _, rfl, Nat.le_refl _, heap_alloc_new W _, Nat.le_refl _, by unfold maxLen; omega, by simp [madeCells], ?_⟩⟩
    apply List.ext_getElem?
    intro j
    by_cases hj : j < m
    · simp [madeCells, hj, Nat.mod_one]
    · rw [List.getElem?_eq_none (by simp [madeCells]; omega), List.getElem?_eq_none (by simp; omega)]
  have hbd := hl0.bd
  have hn := hl0.1
  have hn40 : n ≤ 40 := by omega
  have hmk1 := fun W => hmkR n W hn40
  have hmk2 := fun W => hmkR N W (by omega)
  have Hn := Lib.hid hn
  have Hl := Lib.hid hl
  clear hn hl
  obtain ⟨g0, hg0⟩ : ∃ g, w.heap.size = g := ⟨_, rfl⟩
  have oc0 := (ownR n w hn40).alloc (.cells (madeCells #[.slice none 0 0] N) 30)
  have ol0 := ownR N (w.alloc (.cells (madeCells #[.slice none 0 0] n) 30)) (by omega)
  have e1 : (w.alloc (.cells (madeCells #[.slice none 0 0] n) 30)).heap.size = g0 + 1 := by simp [hg0]
  rw [e1] at ol0
  rw [hg0] at oc0
  have hb0 := ((Below.refl w.heap.size w).alloc (Nat.le_refl _) (.cells (madeCells #[.slice none 0 0] n) 30)).alloc (by simp) (.cells (madeCells #[.slice none 0 0] N) 30)
  have Oc0 := Lib.hid oc0
  have Ol0 := Lib.hid ol0
  have Hb0 := Lib.hid hb0
  clear oc0 ol0 hb0
  clear hmkR ownR e1
  go_enter Try.func50, Try.ntmps50
  go_wp2_with fail
  try simp only [hg0]
  go_loopw [19] (fun i wr => ∃ (k : Nat) (xs ys : List Value) (B : List Nat), k ≤ n ∧ i = .int .i64 k ∧ OwnEls wr (ckTo N l k) xs B ∧ wr.ownsRow g0 30 1 (.slice (some ⟨g0, 0, none⟩) n n) n (xs ++ List.replicate (n - k) (.slice none 0 0)) ∧ wr.ownsRow (g0 + 1) 30 1 (.slice (some ⟨g0 + 1, 0, none⟩) N N) N ys ∧ lastRow l k N xs ys ∧ B.Nodup ∧ (∀ b ∈ B, g0 + 1 < b) ∧ Below w.heap.size w wr) (fun i _ => n - (intOf i).toNat)
  case atStart => exact ⟨0, [], List.replicate N (.slice none 0 0), [], Nat.zero_le _, rfl, ⟨rfl, rfl⟩, Oc0.out, Ol0.out, ⟨by simp, fun j hj => by simp [lastAt, hj]⟩, List.nodup_nil, fun b hb => (nomatch hb), Hb0.out⟩
  case round =>
    obtain ⟨k, xs, ys, B, hk, rfl, hels, hcl, hla, hlr, hnd, hge, hbel⟩ := hrel
    by_cases hlt : k < n
    · have hl1 : k < l.length := by have := Hn.out; omega
      obtain ⟨b, off, xs', rfl, hSb, hc, rfl, hi1, hi2⟩ := hl0.at_ hl1
      have hc0 := hc 0 _ rfl
      have hc1 := hc 1 _ rfl
      clear hc
      generalize hek : l[k] = ek at hc0 hc1 hi1 hi2
      obtain ⟨x, y⟩ := ek
      have hek' : l[k]? = some ⟨x, y⟩ := by rw [List.getElem?_eq_getElem hl1, hek]
      obtain ⟨hx1, hx2, hy1, hy2⟩ := Hl.out k hl1 _ hek'
      obtain ⟨j, rfl⟩ := Int.eq_ofNat_of_zero_le hx1
      have hjN : j < N := by have : (j : Int) ≤ (N : Int) - 1 := hx2; omega
      have hc0' : wr.cell? ⟨b, off + k * 2, none⟩ = some (.int .i64 j) := (hbel.cell (hS _ hSb)).trans hc0
      have hc1' : wr.cell? ⟨b, off + k * 2 + 1, none⟩ = some (.int .i64 y) := (hbel.cell (hS _ hSb)).trans hc1
      have Hek := Lib.hid hek'
      have hy1' : -1 ≤ y := hy1
      have hy2' : y ≤ (k : Int) - 1 := hy2
      obtain ⟨ge, hge'⟩ : ∃ g, wr.heap.size = g := ⟨_, rfl⟩
      obtain ⟨W, hW⟩ : ∃ W, W = (wr.alloc (.cells #[.int .i64 j, .int .i64 y] 64)).alloc (.cells (madeCells #[.int .i64 0] N) 3) := ⟨_, rfl⟩
      have bW : Below wr.heap.size wr W := by rw [hW]; exact ((Below.refl _ _).alloc (Nat.le_refl _) _).alloc (by simp) _
      have f0 : W.cell? ⟨ge, 0, none⟩ = some (.int .i64 j) := by rw [hW, ← hge']; simp
      have f1 : W.cell? ⟨ge, 1, none⟩ = some (.int .i64 y) := by rw [hW, ← hge']; simp
      have hWs : W.heap.size = ge + 2 := by rw [hW, ← hge']; simp
      have hWg : W.heap[ge + 1]? = some (.cells (encs (zs N)).toArray 3 (0, 0)) := by
        have e : (wr.alloc (.cells #[.int .i64 j, .int .i64 y] 64)).heap.size = ge + 1 := by rw [← hge']; simp
        rw [hW, ← e, heap_alloc_new]
        have e2 := madeCells_flat (α := Int) #[.int .i64 0] N 1 rfl rfl
        rw [Nat.mul_one] at e2
        have e3 : madeCells #[.int .i64 0] N = (encs (zs N)).toArray := by
          have e4 : encs (zs N) = encs (List.replicate N (Flat.zero : Int)) := rfl
          rw [e4, ← e2]
        rw [e3]
      have helsW := hels.keep fun b hb => bW.block b (hels.lt b hb)
      have hclW := own_below hcl bW
      have hlaW := own_below hla bW
      have hg01 : g0 + 1 < ge := by rw [← hge']; exact (hla.lt _ rfl).2
      have hckis := ckTo_is N l k
      have hlb := lastAt_bd l k (j : Int)
      have hxl : xs.length = k := by have := hels.len; rw [ckTo_len] at this; rw [this]; exact Nat.mul_one k
      have hlj := hlr.2 j hjN
      have HBlt := Lib.hid (show ∀ b ∈ B, b < ge from fun b hb => by have := hels.lt b hb; omega)
      have HW := Lib.hid hW
      have bTW := bnext hbel bW
      have hjI : (j : Int) < (N : Int) := by omega
      have hj0 : (0 : Int) ≤ (j : Int) := by omega
      have Hckis := Lib.hid hckis
      have Hlr := Lib.hid hlr
      have Hxl := Lib.hid hxl
      have HWg := Lib.hid hWg
      have Hnd := Lib.hid hnd
      have Hge := Lib.hid hge
      clear hckis hlr hxl hWg hnd hge
      clear hc0 hc1 hek hek' hi1 hi2 hW hels hcl hla hx1 hx2 hy1 hy2
      obtain ⟨p, hp⟩ : ∃ p, lastAt l k (j : Int) = p := ⟨_, rfl⟩
      rw [hp] at hlb hlj
      have Hp := Lib.hid hp
      clear hp
      have F1 := Lib.hid f1
      have F0 := Lib.hid f0
      rw [HW.out] at f0 f1
      by_cases hy0 : 0 ≤ y
      · obtain ⟨f, rfl⟩ := Int.eq_ofNat_of_zero_le hy0
        have hf : f < k := by omega
        have hrf := rowAt_is (Int.natCast_nonneg k) Hckis.out (f : Int)
        obtain ⟨Af, cf, e3, k2⟩ := helsW.rowOfB (q := f) (r := rowAt N (ckTo N l k) (f : Int)) (by rw [rowAt_nat _ _ (by rw [ckTo_len]; exact hf)]; exact List.getElem?_eq_getElem (by rw [ckTo_len]; exact hf))
        rw [hrf.1] at e3 k2
        have KF := Lib.hid (show W.cell? ⟨g0, f, none⟩ = some (.slice Af N cf) by
          rw [hclW.cellAt f (by omega), List.getElem?_append_left (by rw [Hxl.out]; exact hf)]
          exact e3)
        obtain ⟨rf, hrfe⟩ : ∃ r, rowAt N (ckTo N l k) (f : Int) = r := ⟨_, rfl⟩
        rw [hrfe] at hrf k2
        have KR := Lib.hid k2
        have Hrf := Lib.hid hrf
        have Hrfe := Lib.hid hrfe
        have hfI : (f : Int) < (n : Int) := by omega
        have hf0 : (0 : Int) ≤ (f : Int) := by omega
        clear e3 k2 hrf hrfe
        by_cases hp0 : 0 ≤ p
        · obtain ⟨q, rfl⟩ := Int.eq_ofNat_of_zero_le hp0
          have hq : q < k := by omega
          have hlj' : ys[j]? = xs[q]? := by rw [hlj, if_pos hp0, Int.toNat_natCast]
          have hri := rowAt_is (Int.natCast_nonneg k) Hckis.out (q : Int)
          obtain ⟨Aq, cq, e3, k2⟩ := helsW.rowOf (q := q) (r := rowAt N (ckTo N l k) (q : Int)) (by rw [rowAt_nat _ _ (by rw [ckTo_len]; exact hq)]; exact List.getElem?_eq_getElem (by rw [ckTo_len]; exact hq))
          rw [hri.1] at e3 k2
          have k1 : W.cell? ⟨g0 + 1, j, none⟩ = some (.slice Aq N cq) := by rw [hlaW.cellAt j (by omega), hlj']; exact e3
          obtain ⟨rb, hrb⟩ : ∃ r, rowAt N (ckTo N l k) (lastAt l k (j : Int)) = r := ⟨_, rfl⟩
          have hrq : rowAt N (ckTo N l k) (q : Int) = rb := by rw [← hrb, Hp.out]
          rw [hrq] at hri k2
          obtain ⟨aq, rfl⟩ : ∃ a, Aq = some a := by
            cases Aq with
            | none => have := k2.none_.1; omega
            | some a => exact ⟨a, rfl⟩
          have Hcs := Lib.hid k2.cells
          have Hri := Lib.hid hri
          have Hrb := Lib.hid hrb
          rw [HW.out] at k1
          clear e3 k2 hri hlj hlj' hrb hrq hq
          go_wp2_with ((try simp only [hge']); rw [← HW.out]; refine Go.wpList_copy_splice rfl (.tmp 26) (.tmp 31) 30 30 rfl 3 Try.underlying30 hsz1 (some ⟨ge + 1, 0, none⟩) (some aq) N N N cq rfl rfl (ge + 1) 0 (encs (zs N)) 3 HWg.out (encs rb) (by rw [encs_len, Hri.out.1]; show N * 1 = _; simp) (fun _ => ⟨rfl, aq, rfl, Hcs.out⟩) (by rw [encs_len, encs_len, Hri.out.1]; simp [zs]) (encs_one _) (ge + 1) W (Below.refl _ _) (Nat.le_refl _) ?_; intro w2 hw2 b2; (have h0 : w2.cell? ⟨ge, 0, none⟩ = some (.int .i64 j) := (b2.cell (p := ⟨ge, 0, none⟩) (Nat.lt_succ_self ge)).trans F0.out); (have h1 : w2.cell? ⟨ge, 1, none⟩ = some (.int .i64 f) := (b2.cell (p := ⟨ge, 1, none⟩) (Nat.lt_succ_self ge)).trans F1.out); (have o2 := own_of_heap (L := rb) Hri.out.1.symm (by rw [hw2.out, show splice (encs (zs N)) 0 (encs rb) = encs rb from splice_all _ _ (by rw [encs_len, encs_len, Hri.out.1]; simp [zs])]) (Hri.out.ok (by omega)) (by omega)); (have k3 : w2.cell? ⟨g0, f, none⟩ = some (.slice Af N cf) := (b2.cell (p := ⟨g0, f, none⟩) (show g0 < ge + 1 by omega)).trans KF.out))
          have T2 : Touch [ge + 1] W w2 := ⟨b2.os, b2.tape, b2.output, b2.size, fun i hi hn => b2.block i (by simp at hn; omega)⟩
          have hels2 := helsW.touch T2 fun b hb hm => by have := HBlt.out b hb; simp at hm; omega
          have hcl2 := ownsRow_touch hclW T2 fun kk hkk hm => by simp [Value.ownBlock] at hkk hm; omega
          have hla2 := ownsRow_touch hlaW T2 fun kk hkk hm => by simp [Value.ownBlock] at hkk hm; omega
          have bT2 := below_touch bTW T2 (fun b hb => by simp at hb; have := hbel.size; omega) bTW.size
          have z2 := T2.size
          have Ho2 := Lib.hid o2
          go_loopw [42] (fun i wr => ∃ q : Nat, q ≤ N ∧ i = .int .i64 q ∧ OwnL wr [ge + 1] (mostTo rb rf q) (some ⟨ge + 1, 0, none⟩) N N ∧ Touch [ge + 1] w2 wr) (fun i _ => N - (intOf i).toNat)
          case atStart => exact ⟨0, Nat.zero_le _, rfl, by rw [mostTo_zero]; exact Ho2.out, Touch.refl _ _⟩
          case round =>
            obtain ⟨q, hqN, rfl, hOq, hTq⟩ := hrel
            have hrfl : rb.length = rf.length := by rw [Hri.out.1, Hrf.out.1]
            have h0' : wr.cell? ⟨ge, 0, none⟩ = some (.int .i64 j) := (World.cell?_of_block (hTq.block ge (show ge < w2.heap.size by omega) (by simp))).trans h0
            by_cases hlt2 : q < N
            · have hqb : q < rb.length := by rw [Hri.out.1]; exact hlt2
              have hqf : q < rf.length := by rw [Hrf.out.1]; exact hlt2
              have hmq : q < (mostTo rb rf q).length := by rw [mostTo_len hrfl]; exact hqb
              obtain ⟨gc, eA, hCg, hgcl, hcc, hcf, hci, hst⟩ := hOq.intAt hmq
              simp only [Option.some.injEq, Addr.mk.injEq, and_true] at eA
              subst eA
              have hmg := mostTo_get hrfl hqb
              rw [List.getElem?_eq_getElem hmq] at hmg
              have hmg' := Option.some.inj hmg
              rw [hmg'] at hcc
              have KRw := KR.out.keep (w' := wr) (fun p hp => by
                have h1 := HBlt.out p.block hp
                exact World.cell?_of_block ((hTq.block p.block (by omega) (by simp; omega)).trans (T2.block p.block (by omega) (by simp; omega))))
              obtain ⟨bf, off2, rfl, hSf, hcell, -⟩ := KRw.at1 rfl hqf
              have hcl := hcell _ rfl
              have hb1 := Hri.out.2 _ (List.getElem_mem hqb)
              have hb2 := Hrf.out.2 _ (List.getElem_mem hqf)
              have Hsc := Lib.hid (mostTo_succ hrfl hqb)
              have Hst := Lib.hid hst
              have hqI : (q : Int) < (N : Int) := by omega
              generalize rb[q] = vb at *
              generalize rf[q] = vf at *
              clear hst hmg hmg' hci hcell
              by_cases hmx : vb < vf
              · have Hmx := Lib.hid (show max vb vf = vf by omega)
                go_wp2_with fail
                go_roundw
                case rel =>
                  obtain ⟨hO, hT⟩ := Hst.out vf ⟨by omega, by omega⟩
                  exact ⟨q + 1, by omega, by go_num, by rw [Hsc.out, Hmx.out]; exact hO, hTq.trans hT⟩
                case measure => simp [intOf]; omega
              · have Hmx := Lib.hid (show max vb vf = vb by omega)
                go_wp2_with fail
                go_roundw
                case rel =>
                  obtain ⟨hO, hT⟩ := Hst.out vb ⟨by omega, by omega⟩
                  exact ⟨q + 1, by omega, by go_num, by rw [Hsc.out, Hmx.out]; exact hO, hTq.trans hT⟩
                case measure => simp [intOf]; omega
            · have hqe : N = q := by omega
              rw [← hqe] at hOq
              have hma : mostTo rb rf N = mostL rb rf := by have := mostTo_all hrfl; rw [Hri.out.1] at this; exact this
              rw [hma] at hOq
              have hmi := mostL_is Hri.out Hrf.out
              have HkB := Lib.hid (show ckB N l k (ckTo N l k) ⟨j, f⟩ = mostL rb rf by unfold ckB; rw [if_pos (show (0 : Int) ≤ (f : Int) by omega), Hrb.out, Hrfe.out])
              obtain ⟨vj, hcc, hcf, hjb, Hvj, Hst⟩ := incFacts hOq (by rw [hmi.1]; exact hjN) hmi
              have hw : IntKind.i64.wrap (vj + 1) = vj + 1 := by rw [IntKind.wrap_i64]; omega
              have helsR := hels2.touch hTq fun b hb hm => by have := HBlt.out b hb; simp at hm; omega
              have hclR := ownsRow_touch hcl2 hTq fun kk hkk hm => by simp [Value.ownBlock] at hkk hm; omega
              have hlaR := ownsRow_touch hla2 hTq fun kk hkk hm => by simp [Value.ownBlock] at hkk hm; omega
              have bTR := below_touch bT2 hTq (fun b hb => by simp at hb; have := hbel.size; omega) bT2.size
              have hltN : decide (q < N) = false := decide_eq_false (by omega)
              clear hma hmi hqe
              obtain ⟨hO, hT⟩ := Hst.out (vj + 1) ⟨by omega, by omega⟩
              have helsF := helsR.touch hT fun b hb hm => by have := HBlt.out b hb; simp at hm; omega
              have hclF := ownsRow_touch hclR hT fun kk hkk hm => by simp [Value.ownBlock] at hkk hm; omega
              have hlaF := ownsRow_touch hlaR hT fun kk hkk hm => by simp [Value.ownBlock] at hkk hm; omega
              have bTF := below_touch bTR hT (fun b hb => by simp at hb; have := hbel.size; omega) bTR.size
              have u0 : (wr.setCell ⟨ge + 1, j, none⟩ (.int .i64 (vj + 1))).cell? ⟨g0, k, none⟩ = some (.slice none 0 0) := by
                rw [hclF.cellAt k (by omega), List.getElem?_append_right (by rw [Hxl.out]; exact Nat.le_refl _), Hxl.out, Nat.sub_self, List.getElem?_replicate, if_pos (by omega)]
              obtain ⟨u1v, u1⟩ := own_cell hlaF (j := j) (by omega)
              have x0 : (wr.setCell ⟨ge + 1, j, none⟩ (.int .i64 (vj + 1))).cell? ⟨ge, 0, none⟩ = some (.int .i64 j) := by
                rw [World.cell?_setCell_other (h := fun e => by have := congrArg Addr.block e; simp at this)]
                exact h0'
              have s0 := hclF.frozenAt k
              have s1 := hlaF.frozenAt j
              have r0 := (hclF.stored k (.slice (some ⟨ge + 1, 0, none⟩) N N)).1
              have tA : Touch [g0, g0 + 1] (wr.setCell ⟨ge + 1, j, none⟩ (.int .i64 (vj + 1))) ((wr.setCell ⟨ge + 1, j, none⟩ (.int .i64 (vj + 1))).setCell ⟨g0, k, none⟩ (.slice (some ⟨ge + 1, 0, none⟩) N N)) := (Touch.refl _ _).setCell (p := ⟨g0, k, none⟩) (by simp) _
              have l0 := ownsRow_block (w' := (wr.setCell ⟨ge + 1, j, none⟩ (.int .i64 (vj + 1))).setCell ⟨g0, k, none⟩ (.slice (some ⟨ge + 1, 0, none⟩) N N)) hlaF fun kk hkk => Below.heap_setCell _ _ _ kk (fun e => by simp [Value.ownBlock] at hkk; simp at e; omega)
              have r1 := (l0.stored j (.slice (some ⟨ge + 1, 0, none⟩) N N)).1
              have r0' := ownsRow_block (w' := ((wr.setCell ⟨ge + 1, j, none⟩ (.int .i64 (vj + 1))).setCell ⟨g0, k, none⟩ (.slice (some ⟨ge + 1, 0, none⟩) N N)).setCell ⟨g0 + 1, j, none⟩ (.slice (some ⟨ge + 1, 0, none⟩) N N)) r0 fun kk hkk => Below.heap_setCell _ _ _ kk (fun e => by simp [Value.ownBlock] at hkk; simp at e; omega)
              have tB : Touch [g0, g0 + 1] (wr.setCell ⟨ge + 1, j, none⟩ (.int .i64 (vj + 1))) ((((wr.setCell ⟨ge + 1, j, none⟩ (.int .i64 (vj + 1))).setCell ⟨g0, k, none⟩ (.slice (some ⟨ge + 1, 0, none⟩) N N)).setCell ⟨g0 + 1, j, none⟩ (.slice (some ⟨ge + 1, 0, none⟩) N N)).drew) := (tA.setCell (p := ⟨g0 + 1, j, none⟩) (by simp) _).drew
              have helsZ := helsF.touch tB fun b hb hm => by have := Hge.out b hb; simp at hm; omega
              have hOZ := hO.touch tB fun b hb hm => by simp at hb hm; omega
              have bTZ := below_touch bTF tB (fun b hb => by simp at hb; have := hg0; omega) bTF.size
              have eset : (xs ++ List.replicate (n - k) (Value.slice none 0 0)).set k (.slice (some ⟨ge + 1, 0, none⟩) N N) = (xs ++ [.slice (some ⟨ge + 1, 0, none⟩) N N]) ++ List.replicate (n - (k + 1)) (Value.slice none 0 0) := by
                obtain ⟨m, hm⟩ : ∃ m, n - k = m + 1 := ⟨n - k - 1, by omega⟩
                have hxl := Hxl.out
                rw [List.set_append_right _ _ (by omega), hxl, Nat.sub_self, hm, List.replicate_succ, List.set_cons_zero, show n - (k + 1) = m by omega, List.append_assoc]
                rfl
              rw [eset] at r0'
              have R0 := Lib.hid r0'.drew
              have R1 := Lib.hid r1.drew
              have HZ := Lib.hid helsZ
              have HOZ := Lib.hid hOZ
              have BTZ := Lib.hid bTZ
              have hkI : (k : Int) < (n : Int) := by omega
              have hk0 : (0 : Int) ≤ (k : Int) := by omega
              have ne1 : g0 ≠ g0 + 1 := by omega
              have ne2 : g0 ≠ ge := by omega
              have ne3 : g0 + 1 ≠ ge := by omega
              have ne4 : g0 ≠ ge + 1 := by omega
              have ne5 : g0 + 1 ≠ ge + 1 := by omega
              clear hO hT helsF hclF hlaF bTF r0 r1 r0' l0 tA tB helsZ hOZ bTZ eset
              go_wp2_with fail
              go_region
              all_goals
                go_wp2_with fail
                go_roundw
                case rel =>
                  refine ⟨k + 1, xs ++ [.slice (some ⟨ge + 1, 0, none⟩) N N], ys.set j (.slice (some ⟨ge + 1, 0, none⟩) N N), B ++ [ge + 1], by omega, by go_num, ?_, R0.out, R1.out, lastRow_step Hlr.out Hek.out hjN Hxl.out, ?_, ?_, BTZ.out⟩
                  · rw [ckTo_succ Hek.out]
                    have e : ckV N l k (ckTo N l k) ⟨j, f⟩ = incAt (mostL rb rf) j := by
                      unfold ckV
                      rw [HkB.out]
                    rw [e, Hvj.out]
                    exact OwnEls.snoc HZ.out HOZ.out.2
                  · refine List.nodup_append.2 ⟨Hnd.out, by simp, fun x hx z hz e => ?_⟩
                    simp at hz
                    have := HBlt.out x hx
                    omega
                  · intro b hb
                    rcases List.mem_append.1 hb with hb | hb
                    · exact Hge.out b hb
                    · simp at hb; omega
                case measure => simp [intOf]; omega
        · have hlj' : ys[j]? = some (.slice none 0 0) := by rw [hlj, if_neg hp0]
          have k1 : W.cell? ⟨g0 + 1, j, none⟩ = some (.slice none 0 0) := by rw [hlaW.cellAt j (by omega)]; exact hlj'
          obtain ⟨rb, hrb⟩ : ∃ r, rowAt N (ckTo N l k) (lastAt l k (j : Int)) = r := ⟨_, rfl⟩
          have hrz : rb = zs N := by rw [← hrb, Hp.out, rowAt_neg _ hp0]
          have Hri := Lib.hid (show ckIs N (k : Int) rb by rw [hrz]; exact zs_is N (by omega))
          have Hrz := Lib.hid hrz
          have Hrb := Lib.hid hrb
          rw [HW.out] at k1
          clear hlj hlj' hrb hrz
          go_wp2_with ((try simp only [hge']); rw [← HW.out]; refine Go.wpList_copy_splice rfl (.tmp 26) (.tmp 31) 30 30 rfl 3 Try.underlying30 hsz1 (some ⟨ge + 1, 0, none⟩) none N N 0 0 rfl rfl (ge + 1) 0 (encs (zs N)) 3 HWg.out [] (by simp) (fun h => absurd h (by simp)) (by simp) (fun _ h => (nomatch h)) (ge + 1) W (Below.refl _ _) (Nat.le_refl _) ?_; intro w2 hw2 b2; (have h0 : w2.cell? ⟨ge, 0, none⟩ = some (.int .i64 j) := (b2.cell (p := ⟨ge, 0, none⟩) (Nat.lt_succ_self ge)).trans F0.out); (have h1 : w2.cell? ⟨ge, 1, none⟩ = some (.int .i64 f) := (b2.cell (p := ⟨ge, 1, none⟩) (Nat.lt_succ_self ge)).trans F1.out); (have o2 := own_of_heap (L := rb) Hri.out.1.symm (by rw [hw2.out, show splice (encs (zs N)) 0 [] = encs rb from by rw [splice_nil, Hrz.out]]) (Hri.out.ok (by omega)) (by omega)); (have k3 : w2.cell? ⟨g0, f, none⟩ = some (.slice Af N cf) := (b2.cell (p := ⟨g0, f, none⟩) (show g0 < ge + 1 by omega)).trans KF.out))
          have T2 : Touch [ge + 1] W w2 := ⟨b2.os, b2.tape, b2.output, b2.size, fun i hi hn => b2.block i (by simp at hn; omega)⟩
          have hels2 := helsW.touch T2 fun b hb hm => by have := HBlt.out b hb; simp at hm; omega
          have hcl2 := ownsRow_touch hclW T2 fun kk hkk hm => by simp [Value.ownBlock] at hkk hm; omega
          have hla2 := ownsRow_touch hlaW T2 fun kk hkk hm => by simp [Value.ownBlock] at hkk hm; omega
          have bT2 := below_touch bTW T2 (fun b hb => by simp at hb; have := hbel.size; omega) bTW.size
          have z2 := T2.size
          have Ho2 := Lib.hid o2
          go_loopw [42] (fun i wr => ∃ q : Nat, q ≤ N ∧ i = .int .i64 q ∧ OwnL wr [ge + 1] (mostTo rb rf q) (some ⟨ge + 1, 0, none⟩) N N ∧ Touch [ge + 1] w2 wr) (fun i _ => N - (intOf i).toNat)
          case atStart => exact ⟨0, Nat.zero_le _, rfl, by rw [mostTo_zero]; exact Ho2.out, Touch.refl _ _⟩
          case round =>
            obtain ⟨q, hqN, rfl, hOq, hTq⟩ := hrel
            have hrfl : rb.length = rf.length := by rw [Hri.out.1, Hrf.out.1]
            have h0' : wr.cell? ⟨ge, 0, none⟩ = some (.int .i64 j) := (World.cell?_of_block (hTq.block ge (show ge < w2.heap.size by omega) (by simp))).trans h0
            by_cases hlt2 : q < N
            · have hqb : q < rb.length := by rw [Hri.out.1]; exact hlt2
              have hqf : q < rf.length := by rw [Hrf.out.1]; exact hlt2
              have hmq : q < (mostTo rb rf q).length := by rw [mostTo_len hrfl]; exact hqb
              obtain ⟨gc, eA, hCg, hgcl, hcc, hcf, hci, hst⟩ := hOq.intAt hmq
              simp only [Option.some.injEq, Addr.mk.injEq, and_true] at eA
              subst eA
              have hmg := mostTo_get hrfl hqb
              rw [List.getElem?_eq_getElem hmq] at hmg
              have hmg' := Option.some.inj hmg
              rw [hmg'] at hcc
              have KRw := KR.out.keep (w' := wr) (fun p hp => by
                have h1 := HBlt.out p.block hp
                exact World.cell?_of_block ((hTq.block p.block (by omega) (by simp; omega)).trans (T2.block p.block (by omega) (by simp; omega))))
              obtain ⟨bf, off2, rfl, hSf, hcell, -⟩ := KRw.at1 rfl hqf
              have hcl := hcell _ rfl
              have hb1 := Hri.out.2 _ (List.getElem_mem hqb)
              have hb2 := Hrf.out.2 _ (List.getElem_mem hqf)
              have Hsc := Lib.hid (mostTo_succ hrfl hqb)
              have Hst := Lib.hid hst
              have hqI : (q : Int) < (N : Int) := by omega
              generalize rb[q] = vb at *
              generalize rf[q] = vf at *
              clear hst hmg hmg' hci hcell
              by_cases hmx : vb < vf
              · have Hmx := Lib.hid (show max vb vf = vf by omega)
                go_wp2_with fail
                go_roundw
                case rel =>
                  obtain ⟨hO, hT⟩ := Hst.out vf ⟨by omega, by omega⟩
                  exact ⟨q + 1, by omega, by go_num, by rw [Hsc.out, Hmx.out]; exact hO, hTq.trans hT⟩
                case measure => simp [intOf]; omega
              · have Hmx := Lib.hid (show max vb vf = vb by omega)
                go_wp2_with fail
                go_roundw
                case rel =>
                  obtain ⟨hO, hT⟩ := Hst.out vb ⟨by omega, by omega⟩
                  exact ⟨q + 1, by omega, by go_num, by rw [Hsc.out, Hmx.out]; exact hO, hTq.trans hT⟩
                case measure => simp [intOf]; omega
            · have hqe : N = q := by omega
              rw [← hqe] at hOq
              have hma : mostTo rb rf N = mostL rb rf := by have := mostTo_all hrfl; rw [Hri.out.1] at this; exact this
              rw [hma] at hOq
              have hmi := mostL_is Hri.out Hrf.out
              have HkB := Lib.hid (show ckB N l k (ckTo N l k) ⟨j, f⟩ = mostL rb rf by unfold ckB; rw [if_pos (show (0 : Int) ≤ (f : Int) by omega), Hrb.out, Hrfe.out])
              obtain ⟨vj, hcc, hcf, hjb, Hvj, Hst⟩ := incFacts hOq (by rw [hmi.1]; exact hjN) hmi
              have hw : IntKind.i64.wrap (vj + 1) = vj + 1 := by rw [IntKind.wrap_i64]; omega
              have helsR := hels2.touch hTq fun b hb hm => by have := HBlt.out b hb; simp at hm; omega
              have hclR := ownsRow_touch hcl2 hTq fun kk hkk hm => by simp [Value.ownBlock] at hkk hm; omega
              have hlaR := ownsRow_touch hla2 hTq fun kk hkk hm => by simp [Value.ownBlock] at hkk hm; omega
              have bTR := below_touch bT2 hTq (fun b hb => by simp at hb; have := hbel.size; omega) bT2.size
              have hltN : decide (q < N) = false := decide_eq_false (by omega)
              clear hma hmi hqe
              obtain ⟨hO, hT⟩ := Hst.out (vj + 1) ⟨by omega, by omega⟩
              have helsF := helsR.touch hT fun b hb hm => by have := HBlt.out b hb; simp at hm; omega
              have hclF := ownsRow_touch hclR hT fun kk hkk hm => by simp [Value.ownBlock] at hkk hm; omega
              have hlaF := ownsRow_touch hlaR hT fun kk hkk hm => by simp [Value.ownBlock] at hkk hm; omega
              have bTF := below_touch bTR hT (fun b hb => by simp at hb; have := hbel.size; omega) bTR.size
              have u0 : (wr.setCell ⟨ge + 1, j, none⟩ (.int .i64 (vj + 1))).cell? ⟨g0, k, none⟩ = some (.slice none 0 0) := by
                rw [hclF.cellAt k (by omega), List.getElem?_append_right (by rw [Hxl.out]; exact Nat.le_refl _), Hxl.out, Nat.sub_self, List.getElem?_replicate, if_pos (by omega)]
              obtain ⟨u1v, u1⟩ := own_cell hlaF (j := j) (by omega)
              have x0 : (wr.setCell ⟨ge + 1, j, none⟩ (.int .i64 (vj + 1))).cell? ⟨ge, 0, none⟩ = some (.int .i64 j) := by
                rw [World.cell?_setCell_other (h := fun e => by have := congrArg Addr.block e; simp at this)]
                exact h0'
              have s0 := hclF.frozenAt k
              have s1 := hlaF.frozenAt j
              have r0 := (hclF.stored k (.slice (some ⟨ge + 1, 0, none⟩) N N)).1
              have tA : Touch [g0, g0 + 1] (wr.setCell ⟨ge + 1, j, none⟩ (.int .i64 (vj + 1))) ((wr.setCell ⟨ge + 1, j, none⟩ (.int .i64 (vj + 1))).setCell ⟨g0, k, none⟩ (.slice (some ⟨ge + 1, 0, none⟩) N N)) := (Touch.refl _ _).setCell (p := ⟨g0, k, none⟩) (by simp) _
              have l0 := ownsRow_block (w' := (wr.setCell ⟨ge + 1, j, none⟩ (.int .i64 (vj + 1))).setCell ⟨g0, k, none⟩ (.slice (some ⟨ge + 1, 0, none⟩) N N)) hlaF fun kk hkk => Below.heap_setCell _ _ _ kk (fun e => by simp [Value.ownBlock] at hkk; simp at e; omega)
              have r1 := (l0.stored j (.slice (some ⟨ge + 1, 0, none⟩) N N)).1
              have r0' := ownsRow_block (w' := ((wr.setCell ⟨ge + 1, j, none⟩ (.int .i64 (vj + 1))).setCell ⟨g0, k, none⟩ (.slice (some ⟨ge + 1, 0, none⟩) N N)).setCell ⟨g0 + 1, j, none⟩ (.slice (some ⟨ge + 1, 0, none⟩) N N)) r0 fun kk hkk => Below.heap_setCell _ _ _ kk (fun e => by simp [Value.ownBlock] at hkk; simp at e; omega)
              have tB : Touch [g0, g0 + 1] (wr.setCell ⟨ge + 1, j, none⟩ (.int .i64 (vj + 1))) ((((wr.setCell ⟨ge + 1, j, none⟩ (.int .i64 (vj + 1))).setCell ⟨g0, k, none⟩ (.slice (some ⟨ge + 1, 0, none⟩) N N)).setCell ⟨g0 + 1, j, none⟩ (.slice (some ⟨ge + 1, 0, none⟩) N N)).drew) := (tA.setCell (p := ⟨g0 + 1, j, none⟩) (by simp) _).drew
              have helsZ := helsF.touch tB fun b hb hm => by have := Hge.out b hb; simp at hm; omega
              have hOZ := hO.touch tB fun b hb hm => by simp at hb hm; omega
              have bTZ := below_touch bTF tB (fun b hb => by simp at hb; have := hg0; omega) bTF.size
              have eset : (xs ++ List.replicate (n - k) (Value.slice none 0 0)).set k (.slice (some ⟨ge + 1, 0, none⟩) N N) = (xs ++ [.slice (some ⟨ge + 1, 0, none⟩) N N]) ++ List.replicate (n - (k + 1)) (Value.slice none 0 0) := by
                obtain ⟨m, hm⟩ : ∃ m, n - k = m + 1 := ⟨n - k - 1, by omega⟩
                have hxl := Hxl.out
                rw [List.set_append_right _ _ (by omega), hxl, Nat.sub_self, hm, List.replicate_succ, List.set_cons_zero, show n - (k + 1) = m by omega, List.append_assoc]
                rfl
              rw [eset] at r0'
              have R0 := Lib.hid r0'.drew
              have R1 := Lib.hid r1.drew
              have HZ := Lib.hid helsZ
              have HOZ := Lib.hid hOZ
              have BTZ := Lib.hid bTZ
              have hkI : (k : Int) < (n : Int) := by omega
              have hk0 : (0 : Int) ≤ (k : Int) := by omega
              have ne1 : g0 ≠ g0 + 1 := by omega
              have ne2 : g0 ≠ ge := by omega
              have ne3 : g0 + 1 ≠ ge := by omega
              have ne4 : g0 ≠ ge + 1 := by omega
              have ne5 : g0 + 1 ≠ ge + 1 := by omega
              clear hO hT helsF hclF hlaF bTF r0 r1 r0' l0 tA tB helsZ hOZ bTZ eset
              go_wp2_with fail
              go_region
              all_goals
                go_wp2_with fail
                go_roundw
                case rel =>
                  refine ⟨k + 1, xs ++ [.slice (some ⟨ge + 1, 0, none⟩) N N], ys.set j (.slice (some ⟨ge + 1, 0, none⟩) N N), B ++ [ge + 1], by omega, by go_num, ?_, R0.out, R1.out, lastRow_step Hlr.out Hek.out hjN Hxl.out, ?_, ?_, BTZ.out⟩
                  · rw [ckTo_succ Hek.out]
                    have e : ckV N l k (ckTo N l k) ⟨j, f⟩ = incAt (mostL rb rf) j := by
                      unfold ckV
                      rw [HkB.out]
                    rw [e, Hvj.out]
                    exact OwnEls.snoc HZ.out HOZ.out.2
                  · refine List.nodup_append.2 ⟨Hnd.out, by simp, fun x hx z hz e => ?_⟩
                    simp at hz
                    have := HBlt.out x hx
                    omega
                  · intro b hb
                    rcases List.mem_append.1 hb with hb | hb
                    · exact Hge.out b hb
                    · simp at hb; omega
                case measure => simp [intOf]; omega
      · have dy0 : decide (0 ≤ y) = false := decide_eq_false hy0
        by_cases hp0 : 0 ≤ p
        · obtain ⟨q, rfl⟩ := Int.eq_ofNat_of_zero_le hp0
          have hq : q < k := by omega
          have hlj' : ys[j]? = xs[q]? := by rw [hlj, if_pos hp0, Int.toNat_natCast]
          have hri := rowAt_is (Int.natCast_nonneg k) Hckis.out (q : Int)
          obtain ⟨Aq, cq, e3, k2⟩ := helsW.rowOf (q := q) (r := rowAt N (ckTo N l k) (q : Int)) (by rw [rowAt_nat _ _ (by rw [ckTo_len]; exact hq)]; exact List.getElem?_eq_getElem (by rw [ckTo_len]; exact hq))
          rw [hri.1] at e3 k2
          have k1 : W.cell? ⟨g0 + 1, j, none⟩ = some (.slice Aq N cq) := by rw [hlaW.cellAt j (by omega), hlj']; exact e3
          obtain ⟨rb, hrb⟩ : ∃ r, rowAt N (ckTo N l k) (lastAt l k (j : Int)) = r := ⟨_, rfl⟩
          have hrq : rowAt N (ckTo N l k) (q : Int) = rb := by rw [← hrb, Hp.out]
          rw [hrq] at hri k2
          obtain ⟨aq, rfl⟩ : ∃ a, Aq = some a := by
            cases Aq with
            | none => have := k2.none_.1; omega
            | some a => exact ⟨a, rfl⟩
          have Hcs := Lib.hid k2.cells
          have Hri := Lib.hid hri
          have Hrb := Lib.hid hrb
          rw [HW.out] at k1
          clear e3 k2 hri hlj hlj' hrb hrq hq
          go_wp2_with ((try simp only [hge']); rw [← HW.out]; refine Go.wpList_copy_splice rfl (.tmp 26) (.tmp 31) 30 30 rfl 3 Try.underlying30 hsz1 (some ⟨ge + 1, 0, none⟩) (some aq) N N N cq rfl rfl (ge + 1) 0 (encs (zs N)) 3 HWg.out (encs rb) (by rw [encs_len, Hri.out.1]; show N * 1 = _; simp) (fun _ => ⟨rfl, aq, rfl, Hcs.out⟩) (by rw [encs_len, encs_len, Hri.out.1]; simp [zs]) (encs_one _) (ge + 1) W (Below.refl _ _) (Nat.le_refl _) ?_; intro w2 hw2 b2; (have h0 : w2.cell? ⟨ge, 0, none⟩ = some (.int .i64 j) := (b2.cell (p := ⟨ge, 0, none⟩) (Nat.lt_succ_self ge)).trans F0.out); (have h1 : w2.cell? ⟨ge, 1, none⟩ = some (.int .i64 y) := (b2.cell (p := ⟨ge, 1, none⟩) (Nat.lt_succ_self ge)).trans F1.out); (have o2 := own_of_heap (L := rb) Hri.out.1.symm (by rw [hw2.out, show splice (encs (zs N)) 0 (encs rb) = encs rb from splice_all _ _ (by rw [encs_len, encs_len, Hri.out.1]; simp [zs])]) (Hri.out.ok (by omega)) (by omega)); (obtain ⟨vj, hcc, hcf, hjb, Hvj, Hst⟩ := incFacts o2 (by rw [Hri.out.1]; exact hjN) Hri.out))
          have T2 : Touch [ge + 1] W w2 := ⟨b2.os, b2.tape, b2.output, b2.size, fun i hi hn => b2.block i (by simp at hn; omega)⟩
          have hels2 := helsW.touch T2 fun b hb hm => by have := HBlt.out b hb; simp at hm; omega
          have hcl2 := ownsRow_touch hclW T2 fun kk hkk hm => by simp [Value.ownBlock] at hkk hm; omega
          have hla2 := ownsRow_touch hlaW T2 fun kk hkk hm => by simp [Value.ownBlock] at hkk hm; omega
          have bT2 := below_touch bTW T2 (fun b hb => by simp at hb; have := hbel.size; omega) bTW.size
          have z2 := T2.size
          have HkB := Lib.hid (show ckB N l k (ckTo N l k) ⟨j, y⟩ = rb by unfold ckB; rw [if_neg (show ¬ (0 : Int) ≤ y by omega), Hrb.out])
          obtain ⟨hO, hT⟩ := Hst.out (vj + 1) ⟨by omega, by omega⟩
          have helsF := hels2.touch hT fun b hb hm => by have := HBlt.out b hb; simp at hm; omega
          have hclF := ownsRow_touch hcl2 hT fun kk hkk hm => by simp [Value.ownBlock] at hkk hm; omega
          have hlaF := ownsRow_touch hla2 hT fun kk hkk hm => by simp [Value.ownBlock] at hkk hm; omega
          have bTF := below_touch bT2 hT (fun b hb => by simp at hb; have := hbel.size; omega) bT2.size
          have u0 : (w2.setCell ⟨ge + 1, j, none⟩ (.int .i64 (vj + 1))).cell? ⟨g0, k, none⟩ = some (.slice none 0 0) := by
            rw [hclF.cellAt k (by omega), List.getElem?_append_right (by rw [Hxl.out]; exact Nat.le_refl _), Hxl.out, Nat.sub_self, List.getElem?_replicate, if_pos (by omega)]
          obtain ⟨u1v, u1⟩ := own_cell hlaF (j := j) (by omega)
          have x0 : (w2.setCell ⟨ge + 1, j, none⟩ (.int .i64 (vj + 1))).cell? ⟨ge, 0, none⟩ = some (.int .i64 j) := by
            rw [World.cell?_setCell_other (h := fun e => by have := congrArg Addr.block e; simp at this)]
            exact h0
          have s0 := hclF.frozenAt k
          have s1 := hlaF.frozenAt j
          have r0 := (hclF.stored k (.slice (some ⟨ge + 1, 0, none⟩) N N)).1
          have tA : Touch [g0, g0 + 1] (w2.setCell ⟨ge + 1, j, none⟩ (.int .i64 (vj + 1))) ((w2.setCell ⟨ge + 1, j, none⟩ (.int .i64 (vj + 1))).setCell ⟨g0, k, none⟩ (.slice (some ⟨ge + 1, 0, none⟩) N N)) := (Touch.refl _ _).setCell (p := ⟨g0, k, none⟩) (by simp) _
          have l0 := ownsRow_block (w' := (w2.setCell ⟨ge + 1, j, none⟩ (.int .i64 (vj + 1))).setCell ⟨g0, k, none⟩ (.slice (some ⟨ge + 1, 0, none⟩) N N)) hlaF fun kk hkk => Below.heap_setCell _ _ _ kk (fun e => by simp [Value.ownBlock] at hkk; simp at e; omega)
          have r1 := (l0.stored j (.slice (some ⟨ge + 1, 0, none⟩) N N)).1
          have r0' := ownsRow_block (w' := ((w2.setCell ⟨ge + 1, j, none⟩ (.int .i64 (vj + 1))).setCell ⟨g0, k, none⟩ (.slice (some ⟨ge + 1, 0, none⟩) N N)).setCell ⟨g0 + 1, j, none⟩ (.slice (some ⟨ge + 1, 0, none⟩) N N)) r0 fun kk hkk => Below.heap_setCell _ _ _ kk (fun e => by simp [Value.ownBlock] at hkk; simp at e; omega)
          have tB : Touch [g0, g0 + 1] (w2.setCell ⟨ge + 1, j, none⟩ (.int .i64 (vj + 1))) ((((w2.setCell ⟨ge + 1, j, none⟩ (.int .i64 (vj + 1))).setCell ⟨g0, k, none⟩ (.slice (some ⟨ge + 1, 0, none⟩) N N)).setCell ⟨g0 + 1, j, none⟩ (.slice (some ⟨ge + 1, 0, none⟩) N N)).drew) := (tA.setCell (p := ⟨g0 + 1, j, none⟩) (by simp) _).drew
          have helsZ := helsF.touch tB fun b hb hm => by have := Hge.out b hb; simp at hm; omega
          have hOZ := hO.touch tB fun b hb hm => by simp at hb hm; omega
          have bTZ := below_touch bTF tB (fun b hb => by simp at hb; have := hg0; omega) bTF.size
          have eset : (xs ++ List.replicate (n - k) (Value.slice none 0 0)).set k (.slice (some ⟨ge + 1, 0, none⟩) N N) = (xs ++ [.slice (some ⟨ge + 1, 0, none⟩) N N]) ++ List.replicate (n - (k + 1)) (Value.slice none 0 0) := by
            obtain ⟨m, hm⟩ : ∃ m, n - k = m + 1 := ⟨n - k - 1, by omega⟩
            have hxl := Hxl.out
            rw [List.set_append_right _ _ (by omega), hxl, Nat.sub_self, hm, List.replicate_succ, List.set_cons_zero, show n - (k + 1) = m by omega, List.append_assoc]
            rfl
          rw [eset] at r0'
          have R0 := Lib.hid r0'.drew
          have R1 := Lib.hid r1.drew
          have HZ := Lib.hid helsZ
          have HOZ := Lib.hid hOZ
          have BTZ := Lib.hid bTZ
          have hkI : (k : Int) < (n : Int) := by omega
          have hk0 : (0 : Int) ≤ (k : Int) := by omega
          have ne1 : g0 ≠ g0 + 1 := by omega
          have ne2 : g0 ≠ ge := by omega
          have ne3 : g0 + 1 ≠ ge := by omega
          have ne4 : g0 ≠ ge + 1 := by omega
          have ne5 : g0 + 1 ≠ ge + 1 := by omega
          clear hO hT helsF hclF hlaF bTF r0 r1 r0' l0 tA tB helsZ hOZ bTZ eset
          go_region
          all_goals
            go_wp2_with fail
            go_roundw
            case rel =>
              refine ⟨k + 1, xs ++ [.slice (some ⟨ge + 1, 0, none⟩) N N], ys.set j (.slice (some ⟨ge + 1, 0, none⟩) N N), B ++ [ge + 1], by omega, by go_num, ?_, R0.out, R1.out, lastRow_step Hlr.out Hek.out hjN Hxl.out, ?_, ?_, BTZ.out⟩
              · rw [ckTo_succ Hek.out]
                have e : ckV N l k (ckTo N l k) ⟨j, y⟩ = incAt (rb) j := by
                  unfold ckV
                  rw [HkB.out]
                rw [e, Hvj.out]
                exact OwnEls.snoc HZ.out HOZ.out.2
              · refine List.nodup_append.2 ⟨Hnd.out, by simp, fun x hx z hz e => ?_⟩
                simp at hz
                have := HBlt.out x hx
                omega
              · intro b hb
                rcases List.mem_append.1 hb with hb | hb
                · exact Hge.out b hb
                · simp at hb; omega
            case measure => simp [intOf]; omega
        · have hlj' : ys[j]? = some (.slice none 0 0) := by rw [hlj, if_neg hp0]
          have k1 : W.cell? ⟨g0 + 1, j, none⟩ = some (.slice none 0 0) := by rw [hlaW.cellAt j (by omega)]; exact hlj'
          obtain ⟨rb, hrb⟩ : ∃ r, rowAt N (ckTo N l k) (lastAt l k (j : Int)) = r := ⟨_, rfl⟩
          have hrz : rb = zs N := by rw [← hrb, Hp.out, rowAt_neg _ hp0]
          have Hri := Lib.hid (show ckIs N (k : Int) rb by rw [hrz]; exact zs_is N (by omega))
          have Hrz := Lib.hid hrz
          have Hrb := Lib.hid hrb
          rw [HW.out] at k1
          clear hlj hlj' hrb hrz
          go_wp2_with ((try simp only [hge']); rw [← HW.out]; refine Go.wpList_copy_splice rfl (.tmp 26) (.tmp 31) 30 30 rfl 3 Try.underlying30 hsz1 (some ⟨ge + 1, 0, none⟩) none N N 0 0 rfl rfl (ge + 1) 0 (encs (zs N)) 3 HWg.out [] (by simp) (fun h => absurd h (by simp)) (by simp) (fun _ h => (nomatch h)) (ge + 1) W (Below.refl _ _) (Nat.le_refl _) ?_; intro w2 hw2 b2; (have h0 : w2.cell? ⟨ge, 0, none⟩ = some (.int .i64 j) := (b2.cell (p := ⟨ge, 0, none⟩) (Nat.lt_succ_self ge)).trans F0.out); (have h1 : w2.cell? ⟨ge, 1, none⟩ = some (.int .i64 y) := (b2.cell (p := ⟨ge, 1, none⟩) (Nat.lt_succ_self ge)).trans F1.out); (have o2 := own_of_heap (L := rb) Hri.out.1.symm (by rw [hw2.out, show splice (encs (zs N)) 0 [] = encs rb from by rw [splice_nil, Hrz.out]]) (Hri.out.ok (by omega)) (by omega)); (obtain ⟨vj, hcc, hcf, hjb, Hvj, Hst⟩ := incFacts o2 (by rw [Hri.out.1]; exact hjN) Hri.out))
          have T2 : Touch [ge + 1] W w2 := ⟨b2.os, b2.tape, b2.output, b2.size, fun i hi hn => b2.block i (by simp at hn; omega)⟩
          have hels2 := helsW.touch T2 fun b hb hm => by have := HBlt.out b hb; simp at hm; omega
          have hcl2 := ownsRow_touch hclW T2 fun kk hkk hm => by simp [Value.ownBlock] at hkk hm; omega
          have hla2 := ownsRow_touch hlaW T2 fun kk hkk hm => by simp [Value.ownBlock] at hkk hm; omega
          have bT2 := below_touch bTW T2 (fun b hb => by simp at hb; have := hbel.size; omega) bTW.size
          have z2 := T2.size
          have HkB := Lib.hid (show ckB N l k (ckTo N l k) ⟨j, y⟩ = rb by unfold ckB; rw [if_neg (show ¬ (0 : Int) ≤ y by omega), Hrb.out])
          obtain ⟨hO, hT⟩ := Hst.out (vj + 1) ⟨by omega, by omega⟩
          have helsF := hels2.touch hT fun b hb hm => by have := HBlt.out b hb; simp at hm; omega
          have hclF := ownsRow_touch hcl2 hT fun kk hkk hm => by simp [Value.ownBlock] at hkk hm; omega
          have hlaF := ownsRow_touch hla2 hT fun kk hkk hm => by simp [Value.ownBlock] at hkk hm; omega
          have bTF := below_touch bT2 hT (fun b hb => by simp at hb; have := hbel.size; omega) bT2.size
          have u0 : (w2.setCell ⟨ge + 1, j, none⟩ (.int .i64 (vj + 1))).cell? ⟨g0, k, none⟩ = some (.slice none 0 0) := by
            rw [hclF.cellAt k (by omega), List.getElem?_append_right (by rw [Hxl.out]; exact Nat.le_refl _), Hxl.out, Nat.sub_self, List.getElem?_replicate, if_pos (by omega)]
          obtain ⟨u1v, u1⟩ := own_cell hlaF (j := j) (by omega)
          have x0 : (w2.setCell ⟨ge + 1, j, none⟩ (.int .i64 (vj + 1))).cell? ⟨ge, 0, none⟩ = some (.int .i64 j) := by
            rw [World.cell?_setCell_other (h := fun e => by have := congrArg Addr.block e; simp at this)]
            exact h0
          have s0 := hclF.frozenAt k
          have s1 := hlaF.frozenAt j
          have r0 := (hclF.stored k (.slice (some ⟨ge + 1, 0, none⟩) N N)).1
          have tA : Touch [g0, g0 + 1] (w2.setCell ⟨ge + 1, j, none⟩ (.int .i64 (vj + 1))) ((w2.setCell ⟨ge + 1, j, none⟩ (.int .i64 (vj + 1))).setCell ⟨g0, k, none⟩ (.slice (some ⟨ge + 1, 0, none⟩) N N)) := (Touch.refl _ _).setCell (p := ⟨g0, k, none⟩) (by simp) _
          have l0 := ownsRow_block (w' := (w2.setCell ⟨ge + 1, j, none⟩ (.int .i64 (vj + 1))).setCell ⟨g0, k, none⟩ (.slice (some ⟨ge + 1, 0, none⟩) N N)) hlaF fun kk hkk => Below.heap_setCell _ _ _ kk (fun e => by simp [Value.ownBlock] at hkk; simp at e; omega)
          have r1 := (l0.stored j (.slice (some ⟨ge + 1, 0, none⟩) N N)).1
          have r0' := ownsRow_block (w' := ((w2.setCell ⟨ge + 1, j, none⟩ (.int .i64 (vj + 1))).setCell ⟨g0, k, none⟩ (.slice (some ⟨ge + 1, 0, none⟩) N N)).setCell ⟨g0 + 1, j, none⟩ (.slice (some ⟨ge + 1, 0, none⟩) N N)) r0 fun kk hkk => Below.heap_setCell _ _ _ kk (fun e => by simp [Value.ownBlock] at hkk; simp at e; omega)
          have tB : Touch [g0, g0 + 1] (w2.setCell ⟨ge + 1, j, none⟩ (.int .i64 (vj + 1))) ((((w2.setCell ⟨ge + 1, j, none⟩ (.int .i64 (vj + 1))).setCell ⟨g0, k, none⟩ (.slice (some ⟨ge + 1, 0, none⟩) N N)).setCell ⟨g0 + 1, j, none⟩ (.slice (some ⟨ge + 1, 0, none⟩) N N)).drew) := (tA.setCell (p := ⟨g0 + 1, j, none⟩) (by simp) _).drew
          have helsZ := helsF.touch tB fun b hb hm => by have := Hge.out b hb; simp at hm; omega
          have hOZ := hO.touch tB fun b hb hm => by simp at hb hm; omega
          have bTZ := below_touch bTF tB (fun b hb => by simp at hb; have := hg0; omega) bTF.size
          have eset : (xs ++ List.replicate (n - k) (Value.slice none 0 0)).set k (.slice (some ⟨ge + 1, 0, none⟩) N N) = (xs ++ [.slice (some ⟨ge + 1, 0, none⟩) N N]) ++ List.replicate (n - (k + 1)) (Value.slice none 0 0) := by
            obtain ⟨m, hm⟩ : ∃ m, n - k = m + 1 := ⟨n - k - 1, by omega⟩
            have hxl := Hxl.out
            rw [List.set_append_right _ _ (by omega), hxl, Nat.sub_self, hm, List.replicate_succ, List.set_cons_zero, show n - (k + 1) = m by omega, List.append_assoc]
            rfl
          rw [eset] at r0'
          have R0 := Lib.hid r0'.drew
          have R1 := Lib.hid r1.drew
          have HZ := Lib.hid helsZ
          have HOZ := Lib.hid hOZ
          have BTZ := Lib.hid bTZ
          have hkI : (k : Int) < (n : Int) := by omega
          have hk0 : (0 : Int) ≤ (k : Int) := by omega
          have ne1 : g0 ≠ g0 + 1 := by omega
          have ne2 : g0 ≠ ge := by omega
          have ne3 : g0 + 1 ≠ ge := by omega
          have ne4 : g0 ≠ ge + 1 := by omega
          have ne5 : g0 + 1 ≠ ge + 1 := by omega
          clear hO hT helsF hclF hlaF bTF r0 r1 r0' l0 tA tB helsZ hOZ bTZ eset
          go_region
          all_goals
            go_wp2_with fail
            go_roundw
            case rel =>
              refine ⟨k + 1, xs ++ [.slice (some ⟨ge + 1, 0, none⟩) N N], ys.set j (.slice (some ⟨ge + 1, 0, none⟩) N N), B ++ [ge + 1], by omega, by go_num, ?_, R0.out, R1.out, lastRow_step Hlr.out Hek.out hjN Hxl.out, ?_, ?_, BTZ.out⟩
              · rw [ckTo_succ Hek.out]
                have e : ckV N l k (ckTo N l k) ⟨j, y⟩ = incAt (rb) j := by
                  unfold ckV
                  rw [HkB.out]
                rw [e, Hvj.out]
                exact OwnEls.snoc HZ.out HOZ.out.2
              · refine List.nodup_append.2 ⟨Hnd.out, by simp, fun x hx z hz e => ?_⟩
                simp at hz
                have := HBlt.out x hx
                omega
              · intro b hb
                rcases List.mem_append.1 hb with hb | hb
                · exact Hge.out b hb
                · simp at hb; omega
            case measure => simp [intOf]; omega
    · obtain rfl : k = n := by omega
      go_wp2_with fail
      go_ret
      rw [Nat.sub_self, List.replicate_zero, List.append_nil] at hcl
      refine ⟨_, _, _, rfl, OwnL.mk_ (by rw [ckTo_len]) hcl hels, ?_, ?_, hbel⟩
      · simp only [Value.ownBlock, Option.toList_some, List.singleton_append, List.nodup_cons]
        exact ⟨fun hm => by have := hge _ hm; omega, hnd⟩
      · intro b hb
        simp only [Value.ownBlock, Option.toList_some, List.singleton_append, List.mem_cons] at hb
        rcases hb with rfl | hb
        · omega
        · have := hge b hb; omega
end Go.Proofs.Ytmkhahiefdcinaa

/-
  Contract: l11At of the reference.
-/
namespace Go.Proofs.Ytmkhahiefdcinaa
open Go.ChangeShapes Go.WideShapes Go.ChangeAt Go.RowKit Go.BigFrame
set_option linter.unusedVariables false


/-- The number of event i among those of its node. -/
def atV (l : List P2) (i : Nat) : Int := match l[i]? with | some e => (cnt l (i + 1) e.a : Int) | none => 0
def atL (l : List P2) (k : Nat) : List Int := (List.range k).map (atV l)
theorem atL_len (l : List P2) (k : Nat) : (atL l k).length = k := by simp [atL]
theorem atL_get (l : List P2) {k i : Nat} (h : i < k) : (atL l k)[i]? = some (atV l i) := by simp [atL, h]
theorem atL_succ (l : List P2) (k : Nat) : atL l (k + 1) = atL l k ++ [atV l k] := by simp [atL, List.range_succ]
theorem atV_eq {l : List P2} {k : Nat} {e : P2} (h : l[k]? = some e) : atV l k = (cnt l k e.a : Int) + 1 := by
  unfold atV
  rw [h]
  show ((cnt l (k + 1) e.a : Nat) : Int) = _
  rw [cnt_succ h]
  simp
theorem atV_bd (l : List P2) (i : Nat) : 0 ≤ atV l i ∧ atV l i ≤ (i : Int) + 1 := by
  unfold atV
  cases l[i]? with
  | none => exact ⟨Int.le_refl _, by show (0 : Int) ≤ _; omega⟩
  | some e =>
    have := cnt_le l (i + 1) e.a
    exact ⟨by show (0 : Int) ≤ (cnt l (i + 1) e.a : Int); omega, by show (cnt l (i + 1) e.a : Int) ≤ _; omega⟩
theorem atL_ok {l : List P2} {k : Nat} (hk : k ≤ 1000000) : ∀ x ∈ atL l k, (Flat.ok x : Prop) := by
  intro x hx
  simp only [atL, List.mem_map, List.mem_range] at hx
  obtain ⟨j, hj, rfl⟩ := hx
  have := atV_bd l j
  exact ⟨by omega, by omega⟩

theorem news_oneT {w : World} {x : Value} {e : TypeId} {g : Nat} (hg : g = w.heap.size) : ∀ j u, [x][j]? = some u → (w.alloc (.cells #[x] e)).cell? ((⟨g, 0, none⟩ : Addr).add j) = some u := by
  subst hg
  intro j u hj
  match j, hj with
  | 0, hj => simp at hj; subst hj; simp [Addr.add]

theorem l11At_any (N : Nat) (hN1 : 1 ≤ N) (hN2 : N ≤ 5) (l : List P2) (hev : ∀ i, i < l.length → evOk ((N : Int) - 1) l i) (hlen : l.length ≤ 40) (w : World) (S : Nat → Prop) (hS : ∀ b, S b → b < w.heap.size) (A : Option Addr) (n c : Nat) (hl0 : RepL w S l A n c) :
    Calls Try.prog 54 #[.int .i64 N, .slice A n c] w fun x w' => ∃ A2 c2, x = .returned (.slice A2 n c2) ∧ RepL w' (fun b => w.heap.size ≤ b ∧ b < w'.heap.size) (atL l l.length) A2 n c2 ∧ Below w.heap.size w w' := by
  obtain ⟨i0, hi, hz0, hz1, hz2⟩ := info_parts infoInt
  have hbd := hl0.bd
  obtain ⟨hn, -⟩ := id hl0
  have Hn := Lib.hid hn
  have Hev := Lib.hid hev
  have hn40 : n ≤ 40 := by omega
  clear hn hev
  have hmk : ∀ W, (Instr.makeSlice 30 (.int .i64 (N : Int)) (.int .i64 (N : Int))).run Try.prog W = .ok (.slice (some ⟨W.heap.size, 0, none⟩) N N) (W.alloc (.cells (madeCells #[.int .i64 0] N) 3)) := fun W => by
    have := run_make_rowN (P := Try.prog) 30 3 i0 _ Try.underlying30 hi hz0 .i64 .i64 N N (Nat.le_refl _) (by rw [hz2]; omega) (by omega) W
    rw [hz1, Nat.mul_one] at this
    exact this
  go_enter Try.func54, Try.ntmps54
  go_wp2_with fail
  go_loopw [6, 13] (fun o i wr => ∃ (k : Nat) (v : Value), k ≤ n ∧ o = v ∧ i = .int .i64 k ∧ wr.ownsRow (w.heap.size + 1) 3 1 v k (encs (atL l k)) ∧ wr.ownsRow w.heap.size 3 1 (.slice (some ⟨w.heap.size, 0, none⟩) N N) N (encs (cntL N l k)) ∧ Below w.heap.size w wr) (fun _ i _ => n - (intOf i).toNat)
  case atStart => exact ⟨0, _, Nat.zero_le _, rfl, rfl, World.ownsRow_nil _ _ _ _, by rw [cntL_zero]; exact own_zeros w 3 N (by omega), (Below.refl _ _).alloc (Nat.le_refl _) _⟩
  case round =>
    obtain ⟨k, v, hk, rfl, rfl, hout, hown, hbel⟩ := hrel
    by_cases hlt : k < n
    · have hl1' : k < l.length := by have := Hn.out; omega
      obtain ⟨b, off, xs, rfl, hSb, hc, rfl, hi1, hi2⟩ := hl0.at_ hl1'
      have hc0 := hc 0 _ rfl
      have hc1 := hc 1 _ rfl
      clear hc
      generalize hek : l[k] = ek at hc0 hc1 hi1 hi2
      obtain ⟨x, y⟩ := ek
      have hek' : l[k]? = some ⟨x, y⟩ := by rw [List.getElem?_eq_getElem hl1', hek]
      obtain ⟨hx1, hx2, -⟩ := Hev.out k hl1' _ hek'
      obtain ⟨j, rfl⟩ := Int.eq_ofNat_of_zero_le hx1
      have hj : j < N := by have : (j : Int) ≤ (N : Int) - 1 := hx2; omega
      have hc0' : wr.cell? ⟨b, off + k * 2, none⟩ = some (.int .i64 j) := (hbel.cell (hS _ hSb)).trans hc0
      have hc1' : wr.cell? ⟨b, off + k * 2 + 1, none⟩ = some (.int .i64 y) := (hbel.cell (hS _ hSb)).trans hc1
      have hcl := cnt_le l k j
      obtain ⟨q, hq⟩ : ∃ q, cnt l k j = q := ⟨_, rfl⟩
      have hlt0 : w.heap.size < wr.heap.size := (hown.lt _ rfl).2
      have hownW := hown.alloc (.cells #[.int .i64 j, .int .i64 y] 64)
      have hoM0 := (hown.stored j (.int .i64 ((q : Int) + 1))).1
      have hoM := hoM0.alloc (.cells #[.int .i64 j, .int .i64 y] 64)
      have hoW0 := own_other (v2 := .slice (some ⟨w.heap.size, 0, none⟩) N N) hout (hown.stored j (.int .i64 ((q : Int) + 1))).2 (fun kk hkk e => by
        have h1 := (hout.lt kk hkk).1
        have h2 : w.heap.size = kk := Option.some.inj e
        omega)
      have hoW2 := hoW0.alloc (.cells #[.int .i64 j, .int .i64 y] 64)
      have hu0 : (wr.alloc (.cells #[.int .i64 j, .int .i64 y] 64)).cell? ⟨w.heap.size, j, none⟩ = some (.int .i64 q) := by rw [hownW.cellAt j (by omega), getI _ _ _ (cntL_get l k hj), hq]
      have hu1 : (wr.setCell ⟨w.heap.size, j, none⟩ (.int .i64 ((q : Int) + 1))).cell? ⟨w.heap.size, j, none⟩ = some (.int .i64 ((q : Int) + 1)) := by
        rw [hoM0.cellAt j (by omega), List.getElem?_set_self (by rw [encs_intlen, cntL_len]; exact hj)]
      have hf0 := hownW.frozenAt j
      have hww : IntKind.i64.wrap ((q : Int) + 1) = (q : Int) + 1 := by rw [IntKind.wrap_i64]; omega
      have hjI : (j : Int) < (N : Int) := by omega
      have Hs := Lib.hid (show cntL N l (k + 1) = (cntL N l k).set j ((q : Int) + 1) by rw [cntL_succ hek' hj, hq])
      have Ha := Lib.hid (show atL l (k + 1) = atL l k ++ [(q : Int) + 1] by rw [atL_succ, atV_eq hek', hq])
      have HO := Lib.hid hoM
      have HU := Lib.hid hoW2
      have Hb := Lib.hid ((hbel.setCell (p := ⟨w.heap.size, j, none⟩) (Nat.le_refl _) (.int .i64 ((q : Int) + 1))).alloc (by simp; omega) (.cells #[.int .i64 j, .int .i64 y] 64))
      clear hc0 hc1 hi1 hi2 hek hek' hx2 hq hcl hownW hown hoW0 hoW2 hoM0 hoM hout
      go_wp2_with (at_builtin; refine wpList_append_own _ rfl (.tmp 24) (.tmp 30) _ rfl (w.heap.size + 1) 3 i0 (.int .i64 0) 1 8 Try.underlying30 hi hz0 hz1 hz2 rfl (by decide) _ _ _ rfl (HU.out.alloc _) ⟨wr.heap.size + 1, 0, none⟩ 1 1 [.int .i64 ((q : Int) + 1)] rfl rfl (news_oneT (by simp)) (by intro u' hu'; simp at hu'; subst hu'; rfl) (by unfold maxLen; omega) (by omega) (by simp; omega) ?_; intro v1 w1 hown1 hg1 hat1)
      go_roundw
      case rel =>
        refine ⟨k + 1, v1, by omega, rfl, by go_num, by rw [Ha.out, encs_append]; exact hown1, ?_, ?_⟩
        · rw [Hs.out, ← setI _ _ _ (by rw [cntL_len]; exact hj)]
          exact own_other (v2 := _) (HO.out.alloc _) hg1 (fun kk hkk e => by
            have h1 := (HU.out.lt kk e).1
            have h2 : w.heap.size = kk := Option.some.inj hkk
            omega)
        · exact own_base (HU.out.alloc _) (Hb.out.alloc (by simp; omega) _) (by omega) hg1 (by simp; omega)
      case measure => simp [intOf]; omega
    · obtain rfl : k = n := by omega
      go_wp2_with fail
      go_ret
      obtain ⟨A2, c2, rfl⟩ := own_slice hout
      have e := Hn.out
      rw [e] at hout ⊢
      exact ⟨A2, c2, rfl, (RepL.of_own' rfl (atL_len _ _).symm hout (atL_ok (by omega))).more (fun b hb => ⟨by omega, hb.2⟩), hbel⟩

end Go.Proofs.Ytmkhahiefdcinaa

/-
  From the earlier kit's contracts over events to the calculus: l11Prior, l11At, clocksOf.
-/
namespace Go.Proofs.Ytmkhahiefdcinaa
open Go.ChangeShapes Go.WideShapes Go.ChangeAt Go.RowKit Go.BigFrame Go.Deep
set_option linter.unusedVariables false

set_option linter.unusedSimpArgs false
abbrev evsAV (l : List GEvent) : AV := .lst 2 l.length fun i0 j0 => ([.int .i64 (l.getD i0 (default : GEvent)).a, .int .i64 (l.getD i0 (default : GEvent)).b] : List AV).getD j0 (.con undef)
theorem evs_rep {w : World} {S : Nat → Prop} {l : List P2} {v : Value} (h : D w S (evsAV l) v) (hok : ∀ e ∈ l, I64 e.a ∧ I64 e.b) : ∃ A c, v = .slice A l.length c ∧ RepL w S l A l.length c := by
  obtain ⟨A, c, e, h1, h2, h3, h4⟩ := h
  refine ⟨A, c, e, rfl, A, c, rfl, h1, h2, h3, fun i hi => ?_⟩
  obtain ⟨b, off, hA, hS, hc⟩ := h4 i hi
  have eg : l.getD i (default : GEvent) = l[i] := by rw [List.getD_eq_getElem?_getD, List.getElem?_eq_getElem hi]; rfl
  obtain ⟨u0, hu0, hd0⟩ := hc 0 (by omega)
  obtain ⟨u1, hu1, hd1⟩ := hc 1 (by omega)
  have hd0 : u0 = .int .i64 (l.getD i (default : GEvent)).a := hd0
  have hd1 : u1 = .int .i64 (l.getD i (default : GEvent)).b := hd1
  rw [eg] at hd0 hd1
  subst hd0 hd1
  refine ⟨b, off, [.int .i64 l[i].a, .int .i64 l[i].b], hA, hS, fun j u' hj => ?_, ⟨rfl, hok _ (List.getElem_mem hi)⟩⟩
  match j, hj with
  | 0, hj => simp at hj; rw [← hj]; exact hu0
  | 1, hj => simp at hj; rw [← hj]; exact hu1
theorem goodEvs_get {n : Int} {l : List P2} (h : goodEvs n l = true) : 1 ≤ n ∧ n ≤ 5 ∧ l.length ≤ 40 ∧ ∀ i, i < l.length → evOk (n - 1) l i := by
  unfold goodEvs at h
  rw [Bool.and_eq_true] at h
  obtain ⟨h1, h2⟩ := h
  have h3 : inB 1 5 n = true ∧ decide ((l.length : Int) ≤ 40) = true := by
    revert h2; generalize inB 1 5 n = a1; generalize decide ((l.length : Int) ≤ 40) = a2; revert a1 a2; decide
  have h4 := of_decide_eq_true h3.1
  have h5 := of_decide_eq_true h3.2
  refine ⟨h4.1, h4.2, by omega, fun i hi e he => ?_⟩
  have h6 := List.all_eq_true.1 h1 i (List.mem_range.2 hi)
  rw [Bool.not_eq_true'] at h6
  have eg : l.getD i (default : GEvent) = e := by rw [List.getD_eq_getElem?_getD, he]; rfl
  unfold evBad at h6
  rw [eg, wrap_id (by omega) (by omega)] at h6
  have h7 : inB 0 (n - 1) e.a = true ∧ inB (-1) ((i : Int) - 1) e.b = true ∧ (decide (0 ≤ e.b) = true → decide ((l.getD e.b.toNat (default : GEvent)).a = e.a) = false) := by
    revert h6; generalize inB 0 (n - 1) e.a = a1; generalize inB (-1) ((i : Int) - 1) e.b = a2; generalize decide (0 ≤ e.b) = a3; generalize decide ((l.getD e.b.toNat (default : GEvent)).a = e.a) = a4; revert a1 a2 a3 a4; decide
  have g1 := of_decide_eq_true h7.1
  have g2 := of_decide_eq_true h7.2.1
  refine ⟨g1.1, g1.2, g2.1, by omega, fun h0 f hf => ?_⟩
  have g3 := of_decide_eq_false (h7.2.2 (decide_eq_true h0))
  have ef : l.getD e.b.toNat (default : GEvent) = f := by rw [List.getD_eq_getElem?_getD, hf]; rfl
  rw [ef] at g3; exact g3
theorem goodEvs_ok {n : Int} {l : List P2} (h : goodEvs n l = true) : ∀ e ∈ l, I64 e.a ∧ I64 e.b := by
  intro e he
  obtain ⟨i, hi, rfl⟩ := List.mem_iff_getElem.1 he
  obtain ⟨h1, h2, h3, h4⟩ := goodEvs_get h
  obtain ⟨g1, g2, g3, g4, _⟩ := h4 i hi _ (List.getElem?_eq_getElem hi)
  exact ⟨⟨by omega, by omega⟩, ⟨by omega, by omega⟩⟩
theorem v_Prior (n : Int) (l : List GEvent) (hg : goodEvs n l = true) (k : Nat) (hk : k < l.length) : Fn Try.prog 52 [.one (evsAV l), .one (.int .i64 (k : Int))] (.one (.int .i64 (lastAt l k (l.getD k (default : GEvent)).a))) := by
  intro w S vs hS hd
  obtain ⟨v, vs1, rfl, h1, u, vs2, rfl, h2, h3⟩ := hd
  obtain rfl : vs2 = [] := h3
  have h2 : u = _ := h2
  subst h2
  obtain ⟨A, c, rfl, hr⟩ := evs_rep h1 (goodEvs_ok hg)
  have eg : l.getD k (default : GEvent) = l[k] := by rw [List.getD_eq_getElem?_getD, List.getElem?_eq_getElem hk]; rfl
  have := l11Prior_any l k l[k].a l[k].b (by rw [List.getElem?_eq_getElem hk]) w S hS.lt A l.length c hr
  rw [eg]
  exact this.mono fun e w' h => h
theorem v_At (N : Nat) (l : List GEvent) (hg : goodEvs N l = true) : FnF Try.prog 54 [.one (.int .i64 (N : Int)), .one (evsAV l)] (.one (intsAV (atL l l.length))) := by
  intro w S vs hS hd
  obtain ⟨u, vs1, rfl, h2, v, vs2, rfl, h1, h3⟩ := hd
  obtain rfl : vs2 = [] := h3
  have h2 : u = _ := h2
  subst h2
  obtain ⟨g1, g2, g3, g4⟩ := goodEvs_get hg
  obtain ⟨A, c, rfl, hr⟩ := evs_rep h1 (goodEvs_ok hg)
  refine (l11At_any N (by omega) (by omega) l g4 g3 w S hS.lt A l.length c hr).mono fun e w' h => ?_
  obtain ⟨A2, c2, rfl, h5, h6⟩ := h
  exact ⟨_, rfl, rep_ints h5, h6⟩
theorem own_tr_ints {w : World} {B : List Nat} {l : List Int} {v : Value} (h : Own.own w B l [v]) : Tr w (intsAV l) v (· ∈ B) := by
  obtain ⟨A, c, xs, Bs, e, e0, ho, he, rfl⟩ := h
  simp only [List.cons.injEq, and_true] at e0
  subst e0
  obtain ⟨hx, rfl, hok⟩ := ownEls_flat.1 he
  rcases ho.2 with ⟨e1, hn⟩ | ⟨g, cap, cur, e1, _, hb, hnc, hcm, hsz, htk⟩
  · simp only [Value.slice.injEq] at e1
    obtain ⟨rfl, _, rfl⟩ := e1
    exact ⟨none, 0, rfl, by omega, by decide, .inl ⟨rfl, .inl rfl⟩⟩
  · simp only [Value.slice.injEq] at e1
    obtain ⟨rfl, _, rfl⟩ := e1
    refine ⟨some ⟨g, 0, none⟩, c, rfl, hnc, hcm, .inr ⟨g, cur, e, rfl, by simp [Value.ownBlock], hb, hsz, fun _ _ _ => False, fun i j hi hj => ⟨fun q hq => hq.elim, ?_⟩, fun _ _ _ _ _ _ _ _ _ _ h => h.elim⟩⟩
    obtain rfl : j = 0 := by omega
    have hg : xs[i]? = some (.int .i64 l[i]) := by rw [hx]; exact getI l i l[i] (List.getElem?_eq_getElem hi)
    rw [← htk, List.getElem?_take] at hg
    split at hg
    · refine ⟨_, by simpa using hg, ?_⟩
      show _ = Value.int .i64 (l.getD i 0)
      rw [List.getD_eq_getElem?_getD, List.getElem?_eq_getElem hi]; rfl
    · cases hg
theorem ownEls_rows {w : World} : ∀ {l : List (List Int)} {xs : List Value} {B : List Nat}, OwnEls w l xs B → B.Nodup → ∃ G : Nat → Nat → Prop, ∀ i, i < l.length → (∀ q, G i q → q ∈ B) ∧ (∃ u, xs[i]? = some u ∧ Tr w (intsAV (l.getD i [])) u (G i)) ∧ ∀ i', i' < l.length → i ≠ i' → ∀ q, G i q → ¬ G i' q
  | [], _, _, _, _ => ⟨fun _ _ => False, fun i hi => absurd hi (by simp)⟩
  | a :: l, xs, B, ⟨cs, ys, B1, B2, e1, e2, h1, h2⟩, hB => by
    rw [e2, List.nodup_append] at hB
    obtain ⟨G, hG⟩ := ownEls_rows h2 hB.2.1
    obtain ⟨A, c, xs', Bs, e, e0, ho, he, eB⟩ := id h1
    subst e0
    have ht := own_tr_ints h1
    refine ⟨fun i => match i with | 0 => fun q => q ∈ B1 | i + 1 => G i, fun i hi => ?_⟩
    match i, hi with
    | 0, _ =>
      refine ⟨fun q hq => by rw [e2]; exact List.mem_append_left _ hq, ⟨_, by rw [e1]; rfl, ht⟩, fun i' hi' hne q hq => ?_⟩
      match i', hi', hne with
      | i' + 1, hi', _ => exact fun hq' => (hB.2.2 q hq q ((hG i' (by simpa using hi')).1 q hq')) rfl
    | i + 1, hi =>
      obtain ⟨k1, ⟨u, hu, k2⟩, k3⟩ := hG i (by simpa using hi)
      refine ⟨fun q hq => by rw [e2]; exact List.mem_append_right _ (k1 q hq), ⟨u, by rw [e1]; exact hu, k2⟩, fun i' hi' hne q hq => ?_⟩
      match i', hi', hne with
      | 0, _, _ => exact fun hq' => (hB.2.2 q hq' q (k1 q hq)) rfl
      | i' + 1, hi', hne => exact k3 i' (by simpa using hi') (fun e => hne (by rw [e])) q hq
theorem own_tr_rows {w : World} {B : List Nat} (hB : B.Nodup) {l : List (List Int)} {v : Value} (h : Own.own w B l [v]) : Tr w (rowsAV l) v (· ∈ B) := by
  obtain ⟨A, c, xs, Bs, e, e0, ho, he, rfl⟩ := h
  simp only [List.cons.injEq, and_true] at e0
  subst e0
  rw [List.nodup_append] at hB
  obtain ⟨G, hG⟩ := ownEls_rows he hB.2.1
  rcases ho.2 with ⟨e1, hn⟩ | ⟨g, cap, cur, e1, _, hb, hnc, hcm, hsz, htk⟩
  · simp only [Value.slice.injEq] at e1
    obtain ⟨rfl, _, rfl⟩ := e1
    exact ⟨none, 0, rfl, by omega, by decide, .inl ⟨rfl, .inl rfl⟩⟩
  · simp only [Value.slice.injEq] at e1
    obtain ⟨rfl, _, rfl⟩ := e1
    refine ⟨some ⟨g, 0, none⟩, c, rfl, hnc, hcm, .inr ⟨g, cur, e, rfl, by simp [Value.ownBlock], hb, hsz, fun i _ => G i, fun i j hi hj => ?_, fun i j i' j' hi hj hi' hj' hne q hq => (hG i hi).2.2 i' hi' (fun e => hne ⟨e, by omega⟩) q hq⟩⟩
    obtain rfl : j = 0 := by omega
    obtain ⟨k1, ⟨u, hu, k2⟩, _⟩ := hG i hi
    refine ⟨fun q hq => ⟨List.mem_append_right _ (k1 q hq), fun e => ?_⟩, u, ?_, k2⟩
    · subst e
      exact hB.2.2 q (by simp [Value.ownBlock]) q (k1 q hq) rfl
    · rw [← htk, List.getElem?_take] at hu
      split at hu
      · simpa using hu
      · cases hu
theorem v_Clocks (N : Nat) (l : List GEvent) (hg : goodEvs N l = true) : FnT Try.prog 50 [.one (.int .i64 (N : Int)), .one (evsAV l)] (.one (rowsAV (ckTo N l l.length))) := by
  intro w S vs hS hd
  obtain ⟨u, vs1, rfl, h2, v, vs2, rfl, h1, h3⟩ := hd
  obtain rfl : vs2 = [] := h3
  have h2 : u = _ := h2
  subst h2
  obtain ⟨g1, g2, g3, g4⟩ := goodEvs_get hg
  obtain ⟨A, c, rfl, hr⟩ := evs_rep h1 (goodEvs_ok hg)
  refine (clocksOf_any N (by omega) (by omega) l (fun i hi e he => let ⟨k1, k2, k3, k4, _⟩ := g4 i hi e he; ⟨k1, k2, k3, k4⟩) g3 w S hS.lt A l.length c hr).mono fun e w' h => ?_
  obtain ⟨A2, c2, B, rfl, ⟨_, h5⟩, h6, h7, h8⟩ := h
  have hlt := Own.lt h5
  refine ⟨_, fun _ q => q ∈ B, rfl, h8, ⟨[.slice A2 l.length c2], rfl, _, [], rfl, own_tr_rows h6 h5, rfl⟩, fun p q b hp hq hne => absurd (show p = q by simp [SV.leaves] at hp hq; omega) hne, fun p b _ hb => ⟨h7 b hb, hlt b hb⟩⟩
end Go.Proofs.Ytmkhahiefdcinaa

/-
  The plain law of cuts: what came first for an event, and its vector clock.
-/
namespace Go.Proofs.Ytmkhahiefdcinaa
open Go.ChangeShapes Go.WideShapes Go.ChangeAt Go.RowKit Go.BigFrame Go.Deep
set_option linter.unusedVariables false

set_option linter.unusedSimpArgs false
abbrev ev (l : List P2) (k : Nat) : P2 := l.getD k (default : GEvent)
theorem ev_some {l : List P2} {k : Nat} (h : k < l.length) : l[k]? = some (ev l k) := by
  unfold ev; rw [List.getD_eq_getElem?_getD, List.getElem?_eq_getElem h]; rfl
/-- The two events right ahead of one. -/
def pr0 (l : List P2) (k : Nat) : Int := lastAt l k (ev l k).a
def pr1 (l : List P2) (k : Nat) : Int := (ev l k).b
def posI (o : List Int) (p : Int) : Nat := o.findIdx fun x => decide (p ≤ x)
def putI (o : List Int) (p : Int) : List Int := o.take (posI o p) ++ (p :: o.drop (posI o p))
def newI (o : List Int) (p : Int) : Bool := cond (decide (0 ≤ p)) (!o.contains p) false
def stpO (o : List Int) (p : Int) : List Int := if newI o p = true then putI o p else o
def stpW (o wl : List Int) (p : Int) : List Int := if newI o p = true then wl ++ [p] else wl
def bfs (l : List P2) : Nat → List Int → List Int → List Int
  | 0, o, _ => o
  | _ + 1, o, [] => o
  | m + 1, o, i :: wl => bfs l m (stpO (stpO o (pr0 l i.toNat)) (pr1 l i.toNat)) (stpW (stpO o (pr0 l i.toNat)) (stpW o wl (pr0 l i.toNat)) (pr1 l i.toNat))
/-- The events that came first for one. -/
def firstV (l : List P2) (k : Nat) : List Int := bfs l (2 * l.length + 1) [] [(k : Int)]
def missI (l : List P2) (o : List Int) : Nat := ((List.range l.length).filter fun x : Nat => !o.contains (x : Int)).length
theorem mem_put {o : List Int} {p x : Int} : x ∈ putI o p ↔ x = p ∨ x ∈ o := by
  unfold putI
  rw [List.mem_append, List.mem_cons]
  constructor
  · rintro (h | h | h)
    · exact .inr (List.mem_of_mem_take h)
    · exact .inl h
    · exact .inr (List.mem_of_mem_drop h)
  · rintro (h | h)
    · exact .inr (.inl h)
    · rw [← List.take_append_drop (posI o p) o, List.mem_append] at h
      rcases h with h | h
      · exact .inl h
      · exact .inr (.inr h)
theorem put_len (o : List Int) (p : Int) : (putI o p).length = o.length + 1 := by
  unfold putI
  rw [List.length_append, List.length_cons, List.length_take, List.length_drop]
  omega
theorem newI_iff {o : List Int} {p : Int} : newI o p = true ↔ 0 ≤ p ∧ p ∉ o := by
  unfold newI
  by_cases h : 0 ≤ p
  · simp [h]
  · simp [h]
theorem filter_lt {α : Type} {p q : α → Bool} : ∀ {l : List α}, (∀ x ∈ l, q x = true → p x = true) → (∃ x ∈ l, p x = true ∧ q x = false) → (l.filter q).length < (l.filter p).length
  | [], _, ⟨x, hx, _⟩ => by cases hx
  | a :: l, h, ⟨x, hx, h1, h2⟩ => by
    have hle : (l.filter q).length ≤ (l.filter p).length := by
      have : ∀ (l : List α), (∀ x ∈ l, q x = true → p x = true) → (l.filter q).length ≤ (l.filter p).length := by
        intro l
        induction l with
        | nil => intro _; exact Nat.le_refl _
        | cons b l ih =>
          intro h
          have ih := ih fun x hx => h x (List.mem_cons_of_mem _ hx)
          cases hq : q b with
          | true => rw [List.filter_cons_of_pos hq, List.filter_cons_of_pos (h b (List.mem_cons_self ..) hq)]; simpa using ih
          | false =>
            rw [List.filter_cons_of_neg (by rw [hq]; decide)]
            cases hp : p b with
            | true => rw [List.filter_cons_of_pos hp]; simp; omega
            | false => rw [List.filter_cons_of_neg (by rw [hp]; decide)]; exact ih
      exact this l fun x hx => h x (List.mem_cons_of_mem _ hx)
    rcases List.mem_cons.1 hx with rfl | hx
    · rw [List.filter_cons_of_pos h1, List.filter_cons_of_neg (by rw [h2]; decide)]
      simp; omega
    · have ih := filter_lt (l := l) (fun x hx => h x (List.mem_cons_of_mem _ hx)) ⟨x, hx, h1, h2⟩
      cases hq : q a with
      | true => rw [List.filter_cons_of_pos hq, List.filter_cons_of_pos (h a (List.mem_cons_self ..) hq)]; simpa using ih
      | false =>
        rw [List.filter_cons_of_neg (by rw [hq]; decide)]
        cases hp : p a with
        | true => rw [List.filter_cons_of_pos hp]; simp; omega
        | false => rw [List.filter_cons_of_neg (by rw [hp]; decide)]; exact ih
theorem miss_put {l : List P2} {o : List Int} {p : Int} (h0 : 0 ≤ p) (h1 : p < l.length) (h2 : p ∉ o) : missI l (putI o p) + 1 ≤ missI l o := by
  unfold missI
  refine filter_lt (fun x _ hx => ?_) ⟨p.toNat, List.mem_range.2 (by omega), ?_, ?_⟩
  · simp only [Bool.not_eq_true', List.contains_eq_mem, decide_eq_false_iff_not] at hx ⊢
    exact fun h => hx (mem_put.2 (.inr h))
  · rw [Int.toNat_of_nonneg h0]; simpa using h2
  · rw [Int.toNat_of_nonneg h0]; simpa using (mem_put.2 (.inl rfl))
def measI (l : List P2) (o wl : List Int) : Nat := 2 * missI l o + wl.length
theorem meas_stp {l : List P2} {o wl : List Int} {p : Int} (h1 : p < l.length) : measI l (stpO o p) (stpW o wl p) ≤ measI l o wl := by
  unfold measI stpO stpW
  by_cases h : newI o p = true
  · rw [if_pos h, if_pos h]
    obtain ⟨g1, g2⟩ := newI_iff.1 h
    have := miss_put (l := l) (o := o) g1 h1 g2
    simp; omega
  · rw [if_neg h, if_neg h]; exact Nat.le_refl _
/-- Every event is ahead of none, or of those behind it. -/
structure Evs (l : List P2) : Prop where
  lt0 : ∀ k, k < l.length → pr0 l k < k
  lt1 : ∀ k, k < l.length → pr1 l k < k
theorem evs_of {n : Int} {l : List P2} (h : goodEvs n l = true) : Evs l := by
  obtain ⟨_, _, _, h4⟩ := goodEvs_get h
  refine ⟨fun k hk => (lastAt_bd l k _).2, fun k hk => ?_⟩
  have := (h4 k hk _ (ev_some hk)).2.2.2.1
  show (ev l k).b < k
  omega
def inL (l : List P2) (o : List Int) : Prop := ∀ x ∈ o, 0 ≤ x ∧ x < l.length
theorem inL_stp {l : List P2} {o : List Int} {p : Int} (h : inL l o) (h1 : p < l.length) : inL l (stpO o p) := by
  unfold stpO
  split
  · rename_i hn
    intro x hx
    rcases mem_put.1 hx with rfl | hx
    · exact ⟨(newI_iff.1 hn).1, h1⟩
    · exact h x hx
  · exact h
theorem inL_stpW {l : List P2} {o wl : List Int} {p : Int} (h : inL l wl) (h1 : p < l.length) : inL l (stpW o wl p) := by
  unfold stpW
  split
  · rename_i hn
    intro x hx
    rcases List.mem_append.1 hx with hx | hx
    · exact h x hx
    · rw [List.mem_singleton.1 hx]; exact ⟨(newI_iff.1 hn).1, h1⟩
  · exact h
theorem stp_mem {o : List Int} {p x : Int} : x ∈ stpO o p ↔ x ∈ o ∨ (x = p ∧ 0 ≤ p) := by
  unfold stpO
  by_cases h : newI o p = true
  · rw [if_pos h, mem_put]
    have := (newI_iff.1 h).1
    constructor
    · rintro (h | h); (· exact .inr ⟨h, this⟩); (· exact .inl h)
    · rintro (h | h); (· exact .inr h); (· exact .inl h.1)
  · rw [if_neg h]
    constructor
    · exact .inl
    · rintro (h' | ⟨rfl, h0⟩)
      · exact h'
      · apply Classical.byContradiction
        intro hc
        exact h (newI_iff.2 ⟨h0, hc⟩)
theorem stpW_mem {o wl : List Int} {p x : Int} : x ∈ stpW o wl p ↔ x ∈ wl ∨ (x = p ∧ newI o p = true) := by
  unfold stpW
  by_cases h : newI o p = true
  · rw [if_pos h]; simp [h]
  · rw [if_neg h]; simp [h]
theorem bfs_spec {l : List P2} (he : Evs l) {k : Int} {A : Int → Prop} (hA : ∀ i, A i → ∀ p, (p = pr0 l i.toNat ∨ p = pr1 l i.toNat) → 0 ≤ p → A p) : ∀ (m : Nat) (o wl : List Int), measI l o wl ≤ m → inL l o → inL l wl → (∀ x ∈ o, A x) → (∀ i ∈ wl, ∀ p, (p = pr0 l i.toNat ∨ p = pr1 l i.toNat) → 0 ≤ p → A p) →
    (∀ y, y ∈ o ∨ y = k → y ∈ wl ∨ ∀ p, (p = pr0 l y.toNat ∨ p = pr1 l y.toNat) → 0 ≤ p → p ∈ o) →
    (∀ x ∈ bfs l m o wl, A x) ∧ (∀ x ∈ o, x ∈ bfs l m o wl) ∧ ∀ y, y ∈ bfs l m o wl ∨ y = k → ∀ p, (p = pr0 l y.toNat ∨ p = pr1 l y.toNat) → 0 ≤ p → p ∈ bfs l m o wl := by
  intro m
  induction m with
  | zero =>
    intro o wl hm ho hw hoA hwA hcl
    have hwl : wl = [] := List.eq_nil_of_length_eq_zero (by unfold measI at hm; omega)
    subst hwl
    refine ⟨hoA, fun x hx => hx, fun y hy p hp h0 => ?_⟩
    rcases hcl y hy with h | h
    · cases h
    · exact h p hp h0
  | succ m ih =>
    intro o wl hm ho hw hoA hwA hcl
    cases wl with
    | nil =>
      refine ⟨hoA, fun x hx => hx, fun y hy p hp h0 => ?_⟩
      rcases hcl y hy with h | h
      · cases h
      · exact h p hp h0
    | cons i wl =>
      have hi := hw i (List.mem_cons_self ..)
      have h0 : pr0 l i.toNat < l.length := by have := he.lt0 i.toNat (by omega); omega
      have h1 : pr1 l i.toNat < l.length := by have := he.lt1 i.toNat (by omega); omega
      have hw' : inL l wl := fun x hx => hw x (List.mem_cons_of_mem _ hx)
      obtain ⟨k1, k2, k3⟩ := ih (stpO (stpO o (pr0 l i.toNat)) (pr1 l i.toNat)) (stpW (stpO o (pr0 l i.toNat)) (stpW o wl (pr0 l i.toNat)) (pr1 l i.toNat))
        (by
          have g1 := meas_stp (l := l) (o := o) (wl := wl) h0
          have g2 := meas_stp (l := l) (o := stpO o (pr0 l i.toNat)) (wl := stpW o wl (pr0 l i.toNat)) h1
          have g3 : measI l o (i :: wl) = measI l o wl + 1 := by unfold measI; rw [List.length_cons]; omega
          omega)
        (inL_stp (inL_stp ho h0) h1) (inL_stpW (inL_stpW hw' h0) h1)
        (fun x hx => by
          rcases stp_mem.1 hx with hx | ⟨rfl, hp⟩
          · rcases stp_mem.1 hx with hx | ⟨rfl, hp⟩
            · exact hoA x hx
            · exact hwA i (List.mem_cons_self ..) _ (.inl rfl) hp
          · exact hwA i (List.mem_cons_self ..) _ (.inr rfl) hp)
        (fun x hx => by
          rcases stpW_mem.1 hx with hx | ⟨rfl, hp⟩
          · rcases stpW_mem.1 hx with hx | ⟨rfl, hp⟩
            · exact hwA x (List.mem_cons_of_mem _ hx)
            · exact hA _ (hwA i (List.mem_cons_self ..) _ (.inl rfl) (newI_iff.1 hp).1)
          · exact hA _ (hwA i (List.mem_cons_self ..) _ (.inr rfl) (newI_iff.1 hp).1))
        (fun y hy => by
          have sub : ∀ x, x ∈ o → x ∈ stpO (stpO o (pr0 l i.toNat)) (pr1 l i.toNat) := fun x hx => stp_mem.2 (.inl (stp_mem.2 (.inl hx)))
          have subw : ∀ x, x ∈ wl → x ∈ stpW (stpO o (pr0 l i.toNat)) (stpW o wl (pr0 l i.toNat)) (pr1 l i.toNat) := fun x hx => stpW_mem.2 (.inl (stpW_mem.2 (.inl hx)))
          have old : y ∈ o ∨ y = k → y ∈ stpW (stpO o (pr0 l i.toNat)) (stpW o wl (pr0 l i.toNat)) (pr1 l i.toNat) ∨ ∀ p, (p = pr0 l y.toNat ∨ p = pr1 l y.toNat) → 0 ≤ p → p ∈ stpO (stpO o (pr0 l i.toNat)) (pr1 l i.toNat) := fun hy => by
            rcases hcl y hy with h | h
            · rcases List.mem_cons.1 h with rfl | h
              · right
                rintro p (rfl | rfl) hp
                · exact stp_mem.2 (.inl (stp_mem.2 (.inr ⟨rfl, hp⟩)))
                · exact stp_mem.2 (.inr ⟨rfl, hp⟩)
              · exact .inl (subw y h)
            · exact .inr fun p hp h0 => sub p (h p hp h0)
          by_cases hyo : y ∈ o ∨ y = k
          · exact old hyo
          · left
            rcases hy with hy | hy
            · rcases stp_mem.1 hy with hy | ⟨rfl, hp⟩
              · rcases stp_mem.1 hy with hy | ⟨rfl, hp⟩
                · exact absurd (.inl hy) hyo
                · exact stpW_mem.2 (.inl (stpW_mem.2 (.inr ⟨rfl, newI_iff.2 ⟨hp, fun h => hyo (.inl h)⟩⟩)))
              · by_cases hin : pr1 l i.toNat ∈ stpO o (pr0 l i.toNat)
                · rcases stp_mem.1 hin with h | ⟨h, hp'⟩
                  · exact absurd (.inl h) hyo
                  · exact stpW_mem.2 (.inl (stpW_mem.2 (.inr ⟨h, newI_iff.2 ⟨hp', fun h' => hyo (.inl (h ▸ h'))⟩⟩)))
                · exact stpW_mem.2 (.inr ⟨rfl, newI_iff.2 ⟨hp, hin⟩⟩)
            · exact absurd (.inr hy) hyo)
      exact ⟨k1, fun x hx => k2 x (stp_mem.2 (.inl (stp_mem.2 (.inl hx)))), k3⟩
/-- a is p, or came first for it. -/
inductive An (l : List P2) : Nat → Nat → Prop
  | self (k : Nat) : An l k k
  | step {a p k : Nat} : ((p : Int) = pr0 l k ∨ (p : Int) = pr1 l k) → An l a p → An l a k
theorem An.le {l : List P2} (he : Evs l) {a k : Nat} (h : An l a k) (hk : k < l.length) : a ≤ k := by
  induction h with
  | self => exact Nat.le_refl _
  | @step p k hp _ ih =>
    have : p < k := by
      have h0 := he.lt0 k hk
      have h1 := he.lt1 k hk
      rcases hp with h | h <;> omega
    have := ih (by omega)
    omega
theorem An.trans {l : List P2} {a b c : Nat} (h : An l b c) (k : An l a b) : An l a c := by
  induction h with
  | self => exact k
  | step hp _ ih => exact .step hp ih
theorem first_iff {l : List P2} (he : Evs l) {k : Nat} (hk : k < l.length) (a : Nat) : (a : Int) ∈ firstV l k ↔ a ≠ k ∧ An l a k := by
  let A : Int → Prop := fun x => ∃ a : Nat, x = a ∧ ∃ p : Nat, ((p : Int) = pr0 l k ∨ (p : Int) = pr1 l k) ∧ An l a p
  have hA : ∀ i, A i → ∀ p, (p = pr0 l i.toNat ∨ p = pr1 l i.toNat) → 0 ≤ p → A p := by
    rintro i ⟨a, rfl, p, hp, h⟩ q hq h0
    have hq' : ((q.toNat : Nat) : Int) = q := Int.toNat_of_nonneg h0
    refine ⟨q.toNat, hq'.symm, p, hp, h.trans (.step (p := q.toNat) ?_ (.self _))⟩
    rw [hq']; simpa using hq
  have hmiss : missI l [] ≤ l.length := by
    unfold missI
    exact Nat.le_trans (List.length_filter_le ..) (by simp)
  obtain ⟨k1, k2, k3⟩ := bfs_spec he (k := k) hA (2 * l.length + 1) [] [(k : Int)] (by unfold measI; simp; omega) (fun x hx => by cases hx) (fun x hx => by rw [List.mem_singleton.1 hx]; omega) (fun x hx => by cases hx)
    (fun i hi p hp h0 => by
      rw [List.mem_singleton.1 hi] at hp
      have hq' : ((p.toNat : Nat) : Int) = p := Int.toNat_of_nonneg h0
      exact ⟨p.toNat, hq'.symm, p.toNat, by rw [hq']; simpa using hp, .self _⟩)
    (fun y hy => by
      rcases hy with hy | hy
      · cases hy
      · exact .inl (by rw [hy]; exact List.mem_singleton_self _))
  constructor
  · intro h
    obtain ⟨b, hb, p, hp, han⟩ := k1 _ h
    obtain rfl : a = b := by omega
    have hpk : p < k := by
      have h0 := he.lt0 k hk
      have h1 := he.lt1 k hk
      rcases hp with h | h <;> omega
    have := han.le he (by omega)
    exact ⟨by omega, .step hp han⟩
  · rintro ⟨hne, h⟩
    have key : ∀ {a k' : Nat}, An l a k' → ((k' : Int) ∈ firstV l k ∨ (k' : Int) = k) → (a : Int) ∈ firstV l k ∨ (a : Int) = k := by
      intro a k' h
      induction h with
      | self => exact fun h => h
      | @step p k' hp _ ih =>
        intro hk'
        exact ih (.inl (k3 k' hk' p (by simpa using hp) (by omega)))
    rcases key h (.inr rfl) with h | h
    · exact h
    · omega
theorem first_bd {l : List P2} (he : Evs l) {k : Nat} (hk : k < l.length) : ∀ x ∈ firstV l k, 0 ≤ x ∧ x < l.length := by
  have hmiss : missI l [] ≤ l.length := by
    unfold missI
    exact Nat.le_trans (List.length_filter_le ..) (by simp)
  have := (bfs_spec he (k := k) (A := fun x => 0 ≤ x ∧ x < l.length) (fun i hi p hp h0 => by
      have g0 := he.lt0 i.toNat (by omega)
      have g1 := he.lt1 i.toNat (by omega)
      rcases hp with rfl | rfl <;> omega) (2 * l.length + 1) [] [(k : Int)] (by unfold measI; simp; omega) (fun x hx => by cases hx) (fun x hx => by rw [List.mem_singleton.1 hx]; omega) (fun x hx => by cases hx)
    (fun i hi p hp h0 => by
      rw [List.mem_singleton.1 hi] at hp
      have g0 := he.lt0 k hk
      have g1 := he.lt1 k hk
      simp only [Int.toNat_natCast] at hp
      rcases hp with rfl | rfl <;> omega)
    (fun y hy => by
      rcases hy with hy | hy
      · cases hy
      · exact .inl (by rw [hy]; exact List.mem_singleton_self _))).1
  exact this
end Go.Proofs.Ytmkhahiefdcinaa
