/-
  Part 3 of the proof: the texts of a seat's own library, joined.
-/
import Derived.Lib.ItoaLen
import Derived.Lib.SplitLaws
import Derived.Lib.AtoiTie
import Derived.Shelf.Strings.Split
import Derived.Shelf.Strconv.ErrVarAll
import Derived.Maps.AppendAt
import Derived.Lib.AppendZerosOnto
import Derived.Lib.AppendZeros
import Derived.WalkSpells
import Derived.Shelf.Abstract
import Derived.Laws.Append
import Derived.Deep.Fields
import Derived.Laws.BitsLemmas
import Derived.Test.YticinemcmgggpabDoorM1
import Derived.Test.YticinemcmgggpabDoorM2
/-
  A calculus for walks, part 29: parts of data, rows of two numbers, a row of rows opened, slots of fresh data.
-/
namespace Go.Proofs.YticinemcmgggpabDoor
open Go.ChangeShapes Go.WideShapes Go.ChangeAt Go.RowKit Go.BigFrame Go.Deep
set_option linter.unusedVariables false

set_option linter.unusedSimpArgs false
section
variable {P : Program} {σ : Sig} {o : Oper}
/-- Data without its first entries. -/
theorem PureOp.dropLst {t : TypeId} {x y : Operand} {sz n k : Nat} {f : Nat → Nat → AV} {m : Int} {kd : IntKind} (ho : o.op = .slice t x (some y) none none) (hx : Kn σ x (.one (.lst sz n f))) (hy : Kn σ y (.one (.int kd m))) (hm : m = (k : Int)) (hk : k ≤ n) (ht : elemB P t sz = true) : PureOp P o σ (.one (.lst sz (n - k) fun i j => f (i + k) j)) := by
  subst hm
  refine PureOp.val fun N w0 ρ S ac w hs => ?_
  obtain ⟨A, c, e1, h1, h2, h3, h4⟩ := hx.sound hs
  have e2 : ac.eval y = .int kd (k : Int) := hy.sound hs
  obtain ⟨e, i, hu, hi, hsz⟩ := elemB_spec ht
  refine ⟨.slice (if c = k then A else A.map (·.add (k * i.size))) (n - k) (c - k), ⟨_, _, rfl, by omega, by omega, fun hA => ?_, fun r hr => ?_⟩, fun w' _ => ?_⟩
  · by_cases hc : c = k
    · omega
    · rw [if_neg hc] at hA
      have : A = none := by cases A <;> first | rfl | cases hA
      have := h3 this; omega
  · obtain ⟨b, off, hA, hS, hc⟩ := h4 (r + k) (by omega)
    refine ⟨b, off + k * sz, ?_, hS, fun j hj => ?_⟩
    · rw [if_neg (by omega), hA, ← hsz]; simp [Addr.add]
    · obtain ⟨u, hu, hd⟩ := hc j hj
      exact ⟨u, by rw [← hu]; congr 2; rw [Nat.add_mul]; omega, hd⟩
  generalize ac.eval = ev at e1 e2 ⊢
  have hk2 : (k : Int) ≤ (n : Int) := by omega
  have hr : (Instr.sliceAt t (.slice A n c) (some (.int kd (k : Int))) none none).run P w' = .ok (.slice (if c = k then A else A.map (·.add (k * i.size))) (n - k) (c - k)) w' := by
    simp [Instr.sliceAt, Instr.slice, run_underlying hu, Instr.sliceBounds, Instr.sliceBound, asIntOf, hk2, hk, run_sizeOf' hi, go_sem]
    try (intro hlt; omega)
  simp only [execOp, ho, e1, e2, Option.map_some, Option.map_none]
  rw [Sem.run_bind, hr]
  rfl
/-- The first k of data. -/
theorem PureOp.takeLst {t : TypeId} {x y : Operand} {sz n k : Nat} {f : Nat → Nat → AV} {m : Int} {kd : IntKind} (ho : o.op = .slice t x none (some y) none) (hx : Kn σ x (.one (.lst sz n f))) (hy : Kn σ y (.one (.int kd m))) (hm : m = (k : Int)) (hk : k ≤ n) (ht : elemB P t sz = true) : PureOp P o σ (.one (.lst sz k f)) := by
  subst hm
  refine PureOp.val fun N w0 ρ S ac w hs => ?_
  obtain ⟨A, c, e1, h1, h2, h3, h4⟩ := hx.sound hs
  have e2 : ac.eval y = .int kd (k : Int) := hy.sound hs
  obtain ⟨e, i, hu, hi, hsz⟩ := elemB_spec ht
  refine ⟨.slice A k c, ⟨A, c, rfl, by omega, h2, h3, fun r hr => h4 r (by omega)⟩, fun w' _ => ?_⟩
  generalize ac.eval = ev at e1 e2 ⊢
  have hle : (0 : Int) ≤ (k : Int) ∧ (k : Int) ≤ (c : Int) := by omega
  simp only [execOp, ho, e1, e2, Option.map_some, Option.map_none]
  have hr : (Instr.sliceAt t (.slice A n c) none (some (.int kd (k : Int))) none).run P w' = .ok (.slice A k c) w' := by
    have hA : (if c = 0 then A else A.map (·.add (0 * i.size))) = A := by
      cases A with
      | none => simp
      | some a => simp [Addr.add]
    have hk2 : (k : Int) ≤ (c : Int) := hle.2
    simp only [Nat.zero_mul] at hA
    simp [Instr.sliceAt, Instr.slice, run_underlying hu, Instr.sliceBounds, Instr.sliceBound, asIntOf, hk2, run_sizeOf' hi, go_sem]
    try exact hA
    try (intro hlt; omega)
  rw [Sem.run_bind, hr]
  rfl
/-- A row of two numbers. -/
theorem FreshOp.pair {t e : Nat} {x y : Operand} {a1 a2 : Int} (ho : o.op = .buildSlice t 2 #[(0, x), (1, y)]) (hx : Kn σ x (.one (.int .i64 a1))) (hy : Kn σ y (.one (.int .i64 a2)))
    (ht : P.underlying t = some (.slice e)) (hz : (P.info? e).map (fun i => (i.size, i.zero)) = some (1, some (.int .i64 0))) : FreshOp P o σ (.one (.frs (.lst 1 2 fun i _ => .int .i64 (if i = 0 then a1 else a2)))) := by
  constructor
  intro N w0 ρ S a w K Q' hs hK
  have e1 : a.eval x = .int .i64 a1 := hx.sound hs
  have e2 : a.eval y = .int .i64 a2 := hy.sound hs
  obtain ⟨i, hi, hi2⟩ := Option.map_eq_some_iff.1 hz
  simp only [Prod.mk.injEq] at hi2
  obtain ⟨z1, z2⟩ := hi2
  have er : (execOp a.eval o).run P w = .ok (.value (.slice (some ⟨w.heap.size, 0, none⟩) 2 2)) (w.alloc (.cells #[.int .i64 a1, .int .i64 a2] e)) := by
    generalize a.eval = ev at e1 e2 ⊢
    simp [execOp, ho, Instr.buildSlice, run_underlying ht, sizeOf, typeInfo, hi, z1, z2, zeroValue, e1, e2, go_sem]
  unfold Oper.wp
  rw [er]
  have hb : Below w.heap.size w (w.alloc (.cells #[.int .i64 a1, .int .i64 a2] e)) := (Below.refl _ _).alloc (Nat.le_refl _) _
  obtain ⟨g1, g2⟩ := hs.grow hb
  have hlt : ρ.base ≤ w.heap.size := by rw [hs.mem.base]; exact hs.mem.low
  refine hK _ _ _ g1 hb (fun b h => h.imp (fun h => h) (fun h => h.1)) g2 ⟨_, _, rfl, Nat.le_refl _, by decide, (fun h => by cases h), fun j hj => ⟨w.heap.size, 0, rfl, ⟨.inr ⟨Nat.le_refl _, by rw [World.heap_alloc, Array.size_push]; omega⟩, hlt⟩, fun q hq => ?_⟩⟩
  obtain rfl : q = 0 := by omega
  have hcell : ∀ p, (w.alloc (.cells #[.int .i64 a1, .int .i64 a2] e)).cell? ⟨w.heap.size, p, none⟩ = (#[Value.int .i64 a1, .int .i64 a2])[p]? := fun p => by simp [World.cell?, World.heap_alloc]
  by_cases hj0 : j = 0
  · subst hj0
    exact ⟨.int .i64 a1, by rw [hcell]; rfl, rfl⟩
  · obtain rfl : j = 1 := by omega
    exact ⟨.int .i64 a2, by rw [hcell]; rfl, rfl⟩
end
section
variable {P : Program} {N : Nat} {w0 : Start} {σ : Sig} {ops : Array Oper} {rest : List Oper} {o : Oper} {Q : Sig → Prop}
/-- A tree that is a row of trees becomes a row of the walk's own, its entries a family. -/
theorem St.openRow2 {ρ : Rho} {S : Nat → Prop} {a : Act} {w : World} (hs : St N w0 ρ S σ a w) {t K q m n id L : Nat} {X : Nat → AV} {f : Nat → Nat → AV} (ht : σ.env.lookup t = some (.one (.tre K q))) (hK : σ.heap.lookup K = some (.trees m X)) (hq : q < m) (hX : X q = .lst 1 n f)
    (hlst : ∀ i, i < n → ∃ s k g, f i 0 = .lst s k g) (hf : Fr id σ) (hL : Fr L σ) (hne : id ≠ L) : ∃ ρ', St N w0 ρ' S ⟨(t, .one (.own id 1 n)) :: σ.env, (id, .arr 1 n fun i _ => .tre L i) :: (L, .trees n fun i => f i 0) :: σ.heap.filter fun p => p.1 != K⟩ a w := by
  obtain ⟨ev, _⟩ := hs.env _ _ ht
  obtain ⟨t1, t2⟩ := hs.mem.tree K m X hK q hq
  rw [hX] at t1
  rw [← ev] at t1
  unfold Tr at t1
  obtain ⟨A, c, e, hnc, hcm, hcase⟩ := t1
  obtain ⟨b, cs, F, hA, hblk, hcell, hFd⟩ : ∃ (b : Nat) (cs : Array Value) (F : Nat → Nat → Prop), (A = some ⟨b, 0, none⟩ ∨ (A = none ∧ c = 0)) ∧ (c ≠ 0 → ρ.tb K q b ∧ (∃ e, w.heap[b]? = some (.cells cs e (0, 0))) ∧ cs.size = c * 1) ∧
      (∀ i, i < n → (∀ p, F i p → ρ.tb K q p ∧ p ≠ b) ∧ ∃ u, cs[i]? = some u ∧ Tr w (f i 0) u (F i)) ∧ ∀ i i', i < n → i' < n → i ≠ i' → ∀ p, F i p → ¬ F i' p := by
    rcases hcase with ⟨rfl, hA⟩ | ⟨b, cs, e', g1, g2, g3, g4, F, g5, g6⟩
    · rcases hA with hA | ⟨b, hA⟩
      · exact ⟨0, #[], fun _ _ => False, .inr ⟨hA, rfl⟩, fun h => absurd rfl h, fun i hi => absurd hi (by omega), fun i i' hi => absurd hi (by omega)⟩
      · exact ⟨b, #[], fun _ _ => False, .inl hA, fun h => absurd rfl h, fun i hi => absurd hi (by omega), fun i i' hi => absurd hi (by omega)⟩
    · refine ⟨b, cs, fun i => F i 0, .inl g1, fun _ => ⟨g2, ⟨e', g3⟩, g4⟩, fun i hi => ?_, fun i i' hi hi' hne p h1 => g6 i 0 i' 0 hi (by omega) hi' (by omega) (fun e => hne e.1) p h1⟩
      obtain ⟨k1, u, hu, hT⟩ := g5 i 0 hi (by omega)
      exact ⟨k1, u, by simpa using hu, hT⟩
  let ρ' : Rho := ⟨fun k => if k = id then (b, c) else if k = L then (0, 0) else ρ k, ρ.base, fun k i => if k = L then cs.getD i undef else ρ.tv k i, fun k i => if k = L then F i else ρ.tb k i, fun k => if k = L then n else ρ.tn k⟩
  refine ⟨ρ', ?_⟩
  have hρA : ∀ k, k ≠ id → k ≠ L → Rho.At ρ ρ' k := fun k hk hk' => ⟨(if_neg hk).trans (if_neg hk'), by funext i; simp [ρ', hk'], by funext i; simp [ρ', hk'], by simp [ρ', hk']⟩
  have hmL : ρ' L = (0, 0) := (if_neg (Ne.symm hne)).trans (if_pos rfl)
  have hmid : ρ' id = (b, c) := if_pos rfl
  have hm : ∀ k, k ≠ id → k ≠ L → ρ' k = ρ k := fun k hk hk' => (if_neg hk).trans (if_neg hk')
  have hkeep : ∀ {x : AV} {u : Value}, x.no id = true → x.no L = true → R ρ w S x u → R ρ' w S x u := fun {x u} hx hx' hr => hr.keep (ρ := ρ) (Same.refl _ _) ⟨rfl, fun p => by
    by_cases hp : p = id
    · subst hp; exact .inr hx
    · by_cases hp' : p = L
      · subst hp'; exact .inr hx'
      · exact .inl (hρA p hp hp')⟩
  have hget : ∀ k p, (σ.heap.filter fun p => p.1 != K).lookup k = some p → σ.heap.lookup k = some p ∧ k ≠ K ∧ k ≠ id ∧ k ≠ L ∧ p.No id ∧ p.No L := fun k p hp => by
    obtain ⟨f1, f2⟩ := filter_lookup hp
    exact ⟨f2, f1, (hf.heap.get f2).1, (hL.heap.get f2).1, (hf.heap.get f2).2, (hL.heap.get f2).2⟩
  have cases3 : ∀ {k : Nat} {p : AObj}, ((id, AObj.arr 1 n fun i _ => .tre L i) :: (L, AObj.trees n fun i => f i 0) :: σ.heap.filter fun p => p.1 != K).lookup k = some p → (k = id ∧ p = .arr 1 n fun i _ => .tre L i) ∨ (k = L ∧ p = .trees n fun i => f i 0) ∨ (σ.heap.filter fun p => p.1 != K).lookup k = some p := fun {k p} hp => by
    rcases lookup_put hp with ⟨rfl, rfl⟩ | ⟨_, hp⟩
    · exact .inl ⟨rfl, rfl⟩
    · rcases lookup_put hp with ⟨rfl, rfl⟩ | ⟨_, hp⟩
      · exact .inr (.inl ⟨rfl, rfl⟩)
      · exact .inr (.inr hp)
  have htL : ∀ i, i < n → Tr w (f i 0) (ρ'.tv L i) (F i) := fun i hi => by
    obtain ⟨_, u, hu, hT⟩ := hcell i hi
    show Tr w (f i 0) (if L = L then cs.getD i undef else _) (F i)
    rw [if_pos rfl, Array.getD_eq_getD_getElem?, hu]; exact hT
  refine ⟨hs.size, hs.defers, ⟨hs.below.old, hs.below.same, fun k hk => (hs.below.ids k hk).trans (hρA k (fun e => by have := hf.small; omega) (fun e => by have := hL.small; omega))⟩, ⟨hs.mem.base, hs.mem.low, hs.mem.lt, ?_, ?_, ?_, ?_⟩, fun t' s ht' => ?_⟩
  · intro k p hp
    rcases cases3 hp with ⟨rfl, rfl⟩ | ⟨rfl, rfl⟩ | hp
    · rw [hmid]; exact hnc
    · exact Nat.zero_le _
    · obtain ⟨h1, _, h3, h4, _⟩ := hget k p hp
      rw [hm k h3 h4]; exact hs.mem.cap k p h1
  · intro k p hp hc
    rcases cases3 hp with ⟨rfl, rfl⟩ | ⟨rfl, rfl⟩ | hp
    · rw [hmid] at hc ⊢
      obtain ⟨g1, ⟨e', g2⟩, g3⟩ := hblk hc
      obtain ⟨q1, q2, q3, _⟩ := t2 b g1
      refine ⟨cs, e', g2, g3, hnc, hcm, q1, q3, fun i j hi hj => ?_⟩
      have hi : i < n := hi
      obtain rfl : j = 0 := by have : j < 1 := hj; omega
      obtain ⟨_, u, hu, hT⟩ := hcell i hi
      refine ⟨u, by simpa [AObj.sz] using hu, ?_⟩
      show u = (if L = L then cs.getD i undef else _) ∧ i < (if L = L then n else _) ∧ _
      rw [if_pos rfl, if_pos rfl]
      refine ⟨by rw [Array.getD_eq_getD_getElem?, hu]; rfl, hi, ?_⟩
      obtain ⟨s, k, g, hg⟩ := hlst i hi
      rw [hg] at hT
      obtain ⟨A', c', e'', _⟩ := hT
      exact ⟨A', k, c', e''⟩
    · exact absurd (by rw [hmL]) hc
    · obtain ⟨h1, _, h3, h4, h5, h6⟩ := hget k p hp
      rw [hm k h3 h4] at hc ⊢
      obtain ⟨cs2, e2, g1, g2, g3, g4, g5, g6, g7⟩ := hs.mem.obj k p h1 hc
      refine ⟨cs2, e2, g1, g2, g3, g4, g5, g6, fun i j hi hj => ?_⟩
      obtain ⟨u, hu, hr⟩ := g7 i j hi hj
      exact ⟨u, hu, hkeep (h5.at_ i j) (h6.at_ i j) hr⟩
  · have key : ∀ k p, (σ.heap.filter fun p => p.1 != K).lookup k = some p → (ρ k).2 ≠ 0 → c ≠ 0 → (ρ k).1 ≠ b := fun k p hp hk hc => (t2 b (hblk hc).1).2.2.2.1 k p (hget k p hp).1 hk
    intro k k' p p' hp hp' hne' hc hc'
    rcases cases3 hp with ⟨rfl, rfl⟩ | ⟨rfl, rfl⟩ | hpp
    · rcases cases3 hp' with ⟨rfl, rfl⟩ | ⟨rfl, rfl⟩ | hp'
      · exact absurd rfl hne'
      · exact absurd (by rw [hmL]) hc'
      · obtain ⟨h1, _, h3, h4, _⟩ := hget k' p' hp'
        rw [hmid] at hc ⊢
        rw [hm k' h3 h4] at hc' ⊢
        exact fun e => key k' p' hp' hc' hc e.symm
    · exact absurd (by rw [hmL]) hc
    · have hp2 := hpp
      obtain ⟨h1, _, h3, h4, _⟩ := hget k p hp2
      rw [hm k h3 h4] at hc ⊢
      rcases cases3 hp' with ⟨rfl, rfl⟩ | ⟨rfl, rfl⟩ | hp'
      · rw [hmid] at hc' ⊢
        exact key k p hp2 hc hc'
      · exact absurd (by rw [hmL]) hc'
      · obtain ⟨h1', _, h3', h4', _⟩ := hget k' p' hp'
        rw [hm k' h3' h4'] at hc' ⊢
        exact hs.mem.inj k k' p p' h1 h1' hne' hc hc'
  · intro k n' Y hY
    rcases cases3 hY with ⟨_, e⟩ | ⟨rfl, e⟩ | hY
    · cases e
    · cases e
      refine ⟨if_pos rfl, fun i hi => ⟨?_, fun p hp => ?_⟩⟩
      · show Tr w (f i 0) _ (if k = k then F i else _)
        rw [if_pos rfl]; exact htL i hi
      · have hpF : F i p := by
          have : (if k = k then F i else ρ.tb k i) p := hp
          rwa [if_pos rfl] at this
        obtain ⟨k1, _⟩ := hcell i hi
        obtain ⟨g1, g2⟩ := k1 p hpF
        obtain ⟨q1, q2, q3, q4, q5⟩ := t2 p g1
        refine ⟨q1, q2, q3, fun id' o ho hc => ?_, fun id' m' Y' i' hY' hi' hne' => ?_⟩
        · rcases cases3 ho with ⟨rfl, rfl⟩ | ⟨rfl, rfl⟩ | ho
          · rw [hmid]; exact fun e => g2 e.symm
          · exact absurd (by rw [hmL]) hc
          · obtain ⟨h1, _, h3, h4, _⟩ := hget id' o ho
            rw [hm id' h3 h4] at hc ⊢
            exact q4 id' o h1 hc
        · rcases cases3 hY' with ⟨_, e⟩ | ⟨rfl, e⟩ | hY'
          · cases e
          · cases e
            show ¬ (if id' = id' then F i' else ρ.tb id' i') p
            rw [if_pos rfl]
            exact hFd i i' hi hi' (fun e => hne' ⟨rfl, e.symm⟩) p hpF
          · obtain ⟨h1, h2, h3, h4, _⟩ := hget id' _ hY'
            show ¬ (if id' = k then F i' else ρ.tb id' i') p
            rw [if_neg h4]
            exact q5 id' m' Y' i' h1 hi' (fun e => h2 e.1)
    · obtain ⟨h1, h2, h3, h4, _⟩ := hget k _ hY
      refine ⟨(if_neg h4).trans (hs.mem.tree0 k n' Y h1).1, fun i hi => ?_⟩
      have a1 := hρA k h3 h4
      obtain ⟨t3, t4⟩ := hs.mem.tree k n' Y h1 i hi
      rw [a1.v, a1.b]
      refine ⟨t3, fun p hp => ?_⟩
      obtain ⟨q1, q2, q3, q4, q5⟩ := t4 p hp
      refine ⟨q1, q2, q3, fun id' o ho hc => ?_, fun id' m' Y' i' hY' hi' hne' => ?_⟩
      · rcases cases3 ho with ⟨rfl, rfl⟩ | ⟨rfl, rfl⟩ | ho
        · rw [hmid] at hc ⊢
          intro e
          have e : b = p := e
          subst e
          exact q5 K m X q hK hq (fun e => h2 e.1.symm) (hblk hc).1
        · exact absurd (by rw [hmL]) hc
        · obtain ⟨g1, _, g3, g4, _⟩ := hget id' o ho
          rw [hm id' g3 g4] at hc ⊢
          exact q4 id' o g1 hc
      · rcases cases3 hY' with ⟨_, e⟩ | ⟨rfl, e⟩ | hY'
        · cases e
        · cases e
          show ¬ (if id' = id' then F i' else ρ.tb id' i') p
          rw [if_pos rfl]
          intro hp'
          exact q5 K m X q hK hq (fun e => h2 e.1.symm) ((hcell i' hi').1 p hp').1
        · obtain ⟨g1, _, g3, g4, _⟩ := hget id' _ hY'
          rw [(hρA id' g3 g4).b]
          exact q5 id' m' Y' i' g1 hi' hne'
  · rcases lookup_put ht' with ⟨rfl, rfl⟩ | ⟨_, ht2⟩
    · show ∃ B, _ = Value.slice B n (ρ' id).2 ∧ n ≤ (ρ' id).2 ∧ (ρ' id).2 ≤ maxLen ∧ (B = some ⟨(ρ' id).1, 0, none⟩ ∨ (B = none ∧ (ρ' id).2 = 0))
      rw [hmid]
      exact ⟨A, e, hnc, hcm, hA⟩
    · exact (hs.env t' s ht2).keep (ρ := ρ) (Same.refl _ _) ⟨rfl, fun p => by
        by_cases hp : p = id
        · subst hp; exact .inr (List.all_eq_true.1 hf.env _ (lookup_mem ht2))
        · by_cases hp' : p = L
          · subst hp'; exact .inr (List.all_eq_true.1 hL.env _ (lookup_mem ht2))
          · exact .inl (hρA p hp hp')⟩
theorem ARun.openRow2 (t K q m n id L : Nat) (X : Nat → AV) (f : Nat → Nat → AV) (ht : σ.env.lookup t = some (.one (.tre K q))) (hK : σ.heap.lookup K = some (.trees m X)) (hq : q < m) (hX : X q = .lst 1 n f)
    (hlst : ∀ i, i < n → ∃ s k g, f i 0 = .lst s k g) (hf : Fr id σ) (hL : Fr L σ) (hne : id ≠ L) (h : ARun P N w0 ops Q rest ⟨(t, .one (.own id 1 n)) :: σ.env, (id, .arr 1 n fun i _ => .tre L i) :: (L, .trees n fun i => f i 0) :: σ.heap.filter fun p => p.1 != K⟩) : ARun P N w0 ops Q rest σ := by
  intro ρ S a w Q' hQ hs
  obtain ⟨ρ', hs'⟩ := hs.openRow2 ht hK hq hX hlst hf hL hne
  exact h ρ' S a w Q' hQ hs'
end
end Go.Proofs.YticinemcmgggpabDoor

/-
  A calculus for walks, part 30: a row of one byte and its string; quotients; negation.
-/
namespace Go.Proofs.YticinemcmgggpabDoor
open Go.ChangeShapes Go.WideShapes Go.ChangeAt Go.RowKit Go.BigFrame Go.Deep
set_option linter.unusedVariables false

set_option linter.unusedSimpArgs false
section
variable {P : Program} {σ : Sig} {o : Oper}
/-- A row of one byte. -/
theorem FreshOp.byte1 {t e : Nat} {x : Operand} {a1 : Int} (ho : o.op = .buildSlice t 1 #[(0, x)]) (hx : Kn σ x (.one (.int .u8 a1)))
    (ht : P.underlying t = some (.slice e)) (hz : (P.info? e).map (fun i => (i.size, i.zero)) = some (1, some (.int .u8 0))) : FreshOp P o σ (.one (.frs (.lst 1 1 fun _ _ => .int .u8 a1))) := by
  constructor
  intro N w0 ρ S a w K Q' hs hK
  have e1 : a.eval x = .int .u8 a1 := hx.sound hs
  obtain ⟨i, hi, hi2⟩ := Option.map_eq_some_iff.1 hz
  simp only [Prod.mk.injEq] at hi2
  obtain ⟨z1, z2⟩ := hi2
  have er : (execOp a.eval o).run P w = .ok (.value (.slice (some ⟨w.heap.size, 0, none⟩) 1 1)) (w.alloc (.cells #[.int .u8 a1] e)) := by
    generalize a.eval = ev at e1 ⊢
    simp [execOp, ho, Instr.buildSlice, run_underlying ht, sizeOf, typeInfo, hi, z1, z2, zeroValue, e1, go_sem]
  unfold Oper.wp
  rw [er]
  have hb : Below w.heap.size w (w.alloc (.cells #[.int .u8 a1] e)) := (Below.refl _ _).alloc (Nat.le_refl _) _
  obtain ⟨g1, g2⟩ := hs.grow hb
  have hlt : ρ.base ≤ w.heap.size := by rw [hs.mem.base]; exact hs.mem.low
  refine hK _ _ _ g1 hb (fun b h => h.imp (fun h => h) (fun h => h.1)) g2 ⟨_, _, rfl, Nat.le_refl _, by decide, (fun h => by cases h), fun j hj => ⟨w.heap.size, 0, rfl, ⟨.inr ⟨Nat.le_refl _, by rw [World.heap_alloc, Array.size_push]; omega⟩, hlt⟩, fun q hq => ?_⟩⟩
  obtain rfl : q = 0 := by omega
  obtain rfl : j = 0 := by omega
  exact ⟨.int .u8 a1, by simp [World.cell?, World.heap_alloc], rfl⟩
/-- The string of a row of one byte. -/
theorem PureOp.byteStr {s t e : Nat} {x : Operand} {f : Nat → Nat → AV} {c : UInt8} (ho : o.op = .convert s t x) (hx : Kn σ x (.one (.lst 1 1 f))) (hf : f 0 0 = .int .u8 (c.toNat : Int))
    (hs : P.underlying s = some (.slice e)) (he : P.underlying e = some (.int .u8)) (hd : P.underlying t = some .string) : PureOp P o σ (.one (.str ⟨#[c]⟩)) := by
  refine PureOp.val fun N w0 ρ S ac w hst => ?_
  obtain ⟨A, cc, e1, h1, h2, h3, h4⟩ := hx.sound hst
  obtain ⟨b, off, hA, hS, hc⟩ := h4 0 (by omega)
  obtain ⟨u, hu, hr⟩ := hc 0 (by omega)
  rw [hf] at hr
  subst hA
  refine ⟨.string ⟨#[c]⟩, ⟨rfl, by have h1 : (⟨#[c]⟩ : ByteArray).size = 1 := rfl
                                   unfold maxLen; omega⟩, fun w' hb => ?_⟩
  have hu' := ((hst.mem.same hb).cell hS).trans hu
  have hr' : u = .int .u8 (c.toNat : Int) := hr
  subst hr'
  have h := run_convert_bytes_back (P := P) w' s t e ⟨b, off, none⟩ cc [c] hs he hd (fun j hj => by
    have hj0 : j = 0 := by simpa using hj
    subst hj0
    rw [show (⟨b, off, none⟩ : Addr).add 0 = ⟨b, off, none⟩ from rfl]
    simpa using hu')
  generalize ac.eval = ev at e1 ⊢
  simp only [execOp, ho, e1, Sem.run_bind]
  simp only [List.length_singleton] at h
  rw [h]
  rfl
theorem PureOp.quo {t t' : TypeId} {x y : Operand} {a b : Nat} {c : Int} (ho : o.op = .binOp .quo t x y t') (hx : Kn σ x (.one (.int .i64 (a : Int)))) (hy : Kn σ y (.one (.int .i64 c))) (hc : c = (b : Int)) (hb : 0 < b) (ha : a ≤ 9223372036854775807) : PureOp P o σ (.one (.int .i64 ((a / b : Nat) : Int))) := by
  subst hc
  refine PureOp.val fun N w0 ρ S ac w hs => ?_
  have e1 : ac.eval x = .int .i64 (a : Int) := hx.sound hs
  have e2 : ac.eval y = .int .i64 (b : Int) := hy.sound hs
  refine ⟨_, rfl, fun w' _ => ?_⟩
  generalize ac.eval = ev at e1 e2 ⊢
  have hq : a / b ≤ a := Nat.div_le_self a b
  have hw : ((a : Int).tdiv (b : Int)) = ((a / b : Nat) : Int) := by rw [Int.tdiv_eq_ediv_of_nonneg (by omega)]; rfl
  have hwr : IntKind.i64.wrap ((a : Int).tdiv (b : Int)) = ((a / b : Nat) : Int) := by
    rw [hw]
    generalize a / b = q at hq
    exact wrap_id (by omega) (by omega)
  simp only [execOp, ho, e1, e2, Sem.run_bind, eqGuard_int, Result.andThen_ok]
  have hb0 : b ≠ 0 := by omega
  have hwr2 : IntKind.i64.wrap ((a : Int) / (b : Int)) = (a : Int) / (b : Int) := by
    rw [hw] at hwr
    rw [← Int.natCast_ediv]; exact hwr
  simp [binOp, Op.intArith, go_sem, hb0, hwr2]
theorem PureOp.neg {t : TypeId} {x : Operand} {a b : Int} (ho : o.op = .unOp .neg t x) (hx : Kn σ x (.one (.int .i64 a))) (hb : IntKind.i64.wrap (-a) = b) : PureOp P o σ (.one (.int .i64 b)) := by
  subst hb
  refine PureOp.val fun N w0 ρ S ac w hs => ?_
  have e1 : ac.eval x = .int .i64 a := hx.sound hs
  refine ⟨_, rfl, fun w' _ => ?_⟩
  generalize ac.eval = ev at e1 ⊢
  simp [execOp, ho, e1, Op.unary, go_sem]
end
end Go.Proofs.YticinemcmgggpabDoor

/-
  A calculus for walks, part 16: strings put together.
-/
namespace Go.Proofs.YticinemcmgggpabDoor
open Go.ChangeShapes Go.WideShapes Go.ChangeAt Go.RowKit Go.BigFrame Go.Deep
set_option linter.unusedVariables false

set_option linter.unusedSimpArgs false
theorem PureOp.strAdd {P : Program} {σ : Sig} {o : Oper} {t t' : TypeId} {x y : Operand} {a b : ByteArray} (ho : o.op = .binOp .add t x y t') (hx : Kn σ x (.one (.str a))) (hy : Kn σ y (.one (.str b))) (hs : a.size + b.size ≤ 1000000000) : PureOp P o σ (.one (.str (a ++ b))) := by
  refine PureOp.val fun N w0 ρ S ac w hst => ?_
  have e1 : ac.eval x = .string a := (hx.sound hst).1
  have e2 : ac.eval y = .string b := (hy.sound hst).1
  refine ⟨.string (a ++ b), ⟨rfl, by rw [ByteArray.size_append]; unfold maxLen; omega⟩, fun w' _ => ?_⟩
  generalize ac.eval = ev at e1 e2 ⊢
  have hm : ¬ ((a.size + b.size : Nat) : Int) > IntKind.i64.max := by
    have : IntKind.i64.max = 9223372036854775807 := by decide
    rw [this]; omega
  simp only [execOp, ho, e1, e2, Sem.run_bind, eqGuard, Result.andThen_ok, binOp, Op.stringOp]
  rw [if_neg hm]
  simp [go_sem]
end Go.Proofs.YticinemcmgggpabDoor

/-
  Decimal numerals: the reference's own, and strconv.Itoa.
-/
namespace Go.Proofs.YticinemcmgggpabDoor
open Go.ChangeShapes Go.WideShapes Go.ChangeAt Go.RowKit Go.BigFrame Go.Deep
set_option linter.unusedVariables false
set_option linter.unusedSimpArgs false
theorem vtx_ca_25 : callB Tryd.prog 25 = true := by kernel_rfl
theorem vtx_cv_3_5_.u8 : convB Tryd.prog 3 5 .u8 = true := by kernel_rfl
def ren_n171 : Shelf.Ren where
  f := fun x => match x with | 171 => 24 | 243 => 35 | 246 => 43 | 283 => 51 | 284 => 52 | 285 => 53 | 286 => 54 | 129 => 58 | 317 => 57 | 318 => 59 | 319 => 60 | 320 => 61 | 337 => 62 | 338 => 63 | n => n
  t := fun x => match x with | 3 => 3 | 9 => 9 | 2 => 2 | 4 => 4 | 171 => 75 | 0 => 0 | 53 => 60 | 37 => 50 | 5 => 5 | 173 => 78 | 212 => 88 | 51 => 84 | 20 => 20 | 213 => 89 | 46 => 63 | 232 => 93 | 233 => 94 | n => n
  g := fun x => match x with | 17 => 5 | 18 => 6 | 19 => 7 | n => n
theorem lays_n171 : Lays.n171 Tryd.prog ren_n171 where
  mixed := by kernel_rfl
  f129 := by kernel_rfl
  f171 := by kernel_rfl
  f243 := by kernel_rfl
  f246 := by kernel_rfl
  f283 := by kernel_rfl
  f284 := by kernel_rfl
  f285 := by kernel_rfl
  f286 := by kernel_rfl
  f317 := by kernel_rfl
  f318 := by kernel_rfl
  f319 := by kernel_rfl
  f320 := by kernel_rfl
  f337 := by kernel_rfl
  f338 := by kernel_rfl
  t0 := Tryd.underlying0
  a0 := Tryd.isAgg0
  z0 := Tryd.sizeOf0
  v0 := Tryd.zeroValue0
  t2 := Tryd.underlying2
  a2 := Tryd.isAgg2
  z2 := Tryd.sizeOf2
  v2 := Tryd.zeroValue2
  t3 := Tryd.underlying3
  a3 := Tryd.isAgg3
  z3 := Tryd.sizeOf3
  v3 := Tryd.zeroValue3
  t4 := Tryd.underlying4
  a4 := Tryd.isAgg4
  z4 := Tryd.sizeOf4
  v4 := Tryd.zeroValue4
  t5 := Tryd.underlying5
  a5 := Tryd.isAgg5
  z5 := Tryd.sizeOf5
  v5 := Tryd.zeroValue5
  t9 := Tryd.underlying9
  a9 := Tryd.isAgg9
  z9 := Tryd.sizeOf9
  v9 := Tryd.zeroValue9
  t20 := Tryd.underlying20
  a20 := Tryd.isAgg20
  z20 := Tryd.sizeOf20
  v20 := Tryd.zeroValue20
  t37 := Tryd.underlying50
  a37 := Tryd.isAgg50
  z37 := Tryd.sizeOf50
  v37 := Tryd.zeroValue50
  t46 := Tryd.underlying63
  a46 := Tryd.isAgg63
  z46 := Tryd.sizeOf63
  v46 := Tryd.zeroValue63
  t51 := Tryd.underlying84
  a51 := Tryd.isAgg84
  z51 := Tryd.sizeOf84
  v51 := Tryd.zeroValue84
  t53 := Tryd.underlying60
  a53 := Tryd.isAgg60
  z53 := Tryd.sizeOf60
  v53 := Tryd.zeroValue60
  t171 := Tryd.underlying75
  a171 := Tryd.isAgg75
  z171 := Tryd.sizeOf75
  v171 := Tryd.zeroValue75
  t173 := Tryd.underlying78
  a173 := Tryd.isAgg78
  z173 := Tryd.sizeOf78
  v173 := Tryd.zeroValue78
  t212 := Tryd.underlying88
  a212 := Tryd.isAgg88
  z212 := Tryd.sizeOf88
  v212 := Tryd.zeroValue88
  t213 := Tryd.underlying89
  a213 := Tryd.isAgg89
  z213 := Tryd.sizeOf89
  t232 := Tryd.underlying93
  a232 := Tryd.isAgg93
  z232 := Tryd.sizeOf93
  v232 := Tryd.zeroValue93
  t233 := Tryd.underlying94
  a233 := Tryd.isAgg94
  z233 := Tryd.sizeOf94
  v233 := Tryd.zeroValue94
  g17 := by kernel_rfl
  g18 := by kernel_rfl
  g19 := by kernel_rfl
theorem laysM_n171 : LaysM.n171 Tryd.prog ren_n171 := { lays_n171 with
  i0 := by kernel_rfl,
  i2 := by kernel_rfl,
  i3 := by kernel_rfl,
  i4 := by kernel_rfl,
  i5 := by kernel_rfl,
  i9 := by kernel_rfl,
  i20 := by kernel_rfl,
  i37 := by kernel_rfl,
  i46 := by kernel_rfl,
  i51 := by kernel_rfl,
  i53 := by kernel_rfl,
  i171 := by kernel_rfl,
  i173 := by kernel_rfl,
  i212 := by kernel_rfl,
  i232 := by kernel_rfl,
  i233 := by kernel_rfl,
  m17 := by kernel_rfl,
  m18 := by kernel_rfl,
  m19 := by kernel_rfl }

/-- The decimal numeral of a number. -/
def itoaB (z : Int) : ByteArray := ⟨(Lib.itoa z).toArray⟩
theorem itoaB_size {z : Int} (h0 : -9223372036854775808 ≤ z) (h1 : z ≤ 9223372036854775807) : (itoaB z).size ≤ 21 := by
  have := Lib.itoa_length_le z h0 h1
  simpa [itoaB, ByteArray.size] using this
theorem itoaB_plain {z : Int} (h0 : -9223372036854775808 ≤ z) (h1 : z ≤ 9223372036854775807) : (itoaB z).size ≤ maxLen := Nat.le_trans (itoaB_size h0 h1) (by decide)
theorem itoaB_small {n : Nat} (h : n < 10) : itoaB (n : Int) = ⟨#[UInt8.ofNat (48 + n)]⟩ := by
  unfold itoaB; rw [Lib.itoa_nonneg, Lib.decDigits_one h]
theorem itoaB_step {n : Nat} (h : ¬ n < 10) : itoaB (n : Int) = itoaB ((n / 10 : Nat) : Int) ++ ⟨#[UInt8.ofNat (48 + n % 10)]⟩ := by
  unfold itoaB
  rw [Lib.itoa_nonneg, Lib.itoa_nonneg, Lib.decDigits, dif_neg h]
  apply ByteArray.ext
  simp
theorem itoaB_neg {z : Int} (h : z < 0) : (⟨#[45]⟩ : ByteArray) ++ itoaB (-z) = itoaB z := by
  obtain ⟨u, rfl⟩ : ∃ u : Nat, z = -(u : Int) := ⟨z.natAbs, by omega⟩
  unfold itoaB
  rw [Lib.itoa_neg u (by omega), Int.neg_neg, Lib.itoa_nonneg]
  apply ByteArray.ext
  simp
theorem dig_byte {n : Nat} (h : n < 10) : ((UInt8.ofNat (48 + n)).toNat : Int) = 48 + (n : Int) := by
  rw [UInt8.toNat_ofNat']; omega
/-- strconv.Itoa, by the library's own contract. -/
theorem v_Itoa (z : Int) (h0 : -9223372036854775808 ≤ z) (h1 : z ≤ 9223372036854775807) : Fn Tryd.prog 24 [.one (.int .i64 z)] (.one (.str (itoaB z))) := by
  intro w S vs hS hd
  obtain ⟨v, vs1, rfl, e1, h3⟩ := hd
  obtain rfl : vs1 = [] := h3
  obtain rfl : v = .int .i64 z := e1
  refine (Any.strconv_Itoa laysM_n171 z h0 h1 w hS.pre.tab).mono fun e w' ⟨he, k, os, hw⟩ => ⟨he, ?_⟩
  subst hw
  exact ⟨rfl, rfl, rfl, by show w.heap.size ≤ (w.heap ++ os).size; rw [Array.size_append]; omega, fun i hi => by
    show ((w.drewN k).heap ++ os)[i]? = _
    rw [Array.getElem?_append_left (by show i < w.heap.size; omega)]; rfl⟩
theorem v_NumS (n : Nat) (hn : n ≤ 9223372036854775807) (ih : ∀ m : Nat, m < n → Fn Tryd.prog 25 [.one (.int .i64 (m : Int))] (.one (.str (itoaB (m : Int))))) : Fn Tryd.prog 25 [.one (.int .i64 (n : Int))] (.one (.str (itoaB (n : Int)))) := by
  have hq : n / 10 < n ∨ n < 10 := by omega
  have hr : n % 10 < 10 := Nat.mod_lt _ (by decide)
  have hsz : (itoaB ((n / 10 : Nat) : Int)).size ≤ 21 := itoaB_size (by omega) (by omega)
  refine Fn.of_body (fn := Tryd.f25) Tryd.func25 rfl (Nat.le_of_ble_eq_true rfl) (itoaB_plain (by omega) (by omega)) ?_
  intro w0
  show AW _ 20 _ _ _ _
  refine AW.seq ?_
  refine AW.region ?_
  refine ARun.pure (PureOp.assign rfl (.str (by decide))) rfl rfl (Nat.le_of_ble_eq_true rfl) ?_
  refine ARun.nil ?_
  refine AW.seq ?_
  refine AW.seq ?_
  refine AW.region ?_
  refine ARun.pure (PureOp.move rfl (.tmp rfl)) rfl rfl (Nat.le_of_ble_eq_true rfl) ?_
  refine ARun.pure (PureOp.intOp rfl (.tmp rfl) .int rfl) rfl rfl (Nat.le_of_ble_eq_true rfl) ?_
  refine ARun.nil ?_
  refine AW.cond (.tmp rfl) (fun hb1 => ?_) (fun hb1 => ?_)
  · have _u := True.intro
    replace hb1 := of_decide_eq_true hb1
    have hlt : n < 10 := by omega
    refine AW.seq ?_
    refine AW.region ?_
    refine ARun.pure (PureOp.move rfl (.tmp rfl)) rfl rfl (Nat.le_of_ble_eq_true rfl) ?_
    refine ARun.pure (PureOp.add (c := ((48 + n : Nat) : Int)) rfl .int (.tmp rfl) (by rw [wrap_id (by omega) (by omega)]; omega)) rfl rfl (Nat.le_of_ble_eq_true rfl) ?_
    refine ARun.pure (PureOp.conv (b := ((48 + n : Nat) : Int)) rfl (.tmp rfl) vtx_cv_3_5_.u8 (by rw [IntKind.wrap_u8]; omega)) rfl rfl (Nat.le_of_ble_eq_true rfl) ?_
    refine ARun.fresh (FreshOp.byte1 (a1 := ((48 + n : Nat) : Int)) rfl (.tmp rfl) Tryd.underlying50 (by kernel_rfl)) rfl rfl (Nat.le_of_ble_eq_true rfl) ?_
    refine ARun.pure (PureOp.byteStr (c := UInt8.ofNat (48 + n)) rfl (.frs (.tmp rfl)) (congrArg (fun z : Int => AV.int .u8 z) (by rw [dig_byte hlt]; omega)) Tryd.underlying50 Tryd.underlying5 Tryd.underlying9) rfl rfl (Nat.le_of_ble_eq_true rfl) ?_
    refine ARun.pure (PureOp.assign rfl (.tmp rfl)) rfl rfl (Nat.le_of_ble_eq_true rfl) ?_
    refine ARun.nil ?_
    refine AW.ret (show ResL _ _ [.tmp 2] _ from resS rfl ?_)
    exact (itoaB_small hlt).symm
  · have _u := True.intro
    replace hb1 := of_decide_eq_false hb1
    have hlt : ¬ n < 10 := by omega
    refine AW.skip ?_
    refine AW.seq ?_
    refine AW.any (by kernel_rfl) (by kernel_rfl) ?_
    refine AD.pure (PureOp.move rfl (.tmp rfl)) rfl rfl (Nat.le_of_ble_eq_true rfl) ?_
    refine AD.pure (PureOp.quo (a := n) (b := 10) rfl (.tmp rfl) .int rfl (by decide) (by omega)) rfl rfl (Nat.le_of_ble_eq_true rfl) ?_
    refine AD.pure (PureOp.call rfl (ih (n / 10) (by omega)) ⟨⟨_, (.tmp rfl), .int⟩, trivial⟩ vtx_ca_25 (itoaB_plain (by omega) (by omega))) rfl rfl (Nat.le_of_ble_eq_true rfl) ?_
    refine AD.pure (PureOp.move rfl (.tmp rfl)) rfl rfl (Nat.le_of_ble_eq_true rfl) ?_
    refine AD.pure (PureOp.rem (a := n) (b := 10) rfl (.tmp rfl) .int rfl (by decide) (by omega)) rfl rfl (Nat.le_of_ble_eq_true rfl) ?_
    refine AD.pure (PureOp.add (c := ((48 + n % 10 : Nat) : Int)) rfl .int (.tmp rfl) (by rw [wrap_id (by omega) (by omega)]; omega)) rfl rfl (Nat.le_of_ble_eq_true rfl) ?_
    refine AD.pure (PureOp.conv (b := ((48 + n % 10 : Nat) : Int)) rfl (.tmp rfl) vtx_cv_3_5_.u8 (by rw [IntKind.wrap_u8]; omega)) rfl rfl (Nat.le_of_ble_eq_true rfl) ?_
    refine AD.fresh (FreshOp.byte1 (a1 := ((48 + n % 10 : Nat) : Int)) rfl (.tmp rfl) Tryd.underlying50 (by kernel_rfl)) rfl rfl (Nat.le_of_ble_eq_true rfl) ?_
    refine AD.pure (PureOp.byteStr (c := UInt8.ofNat (48 + n % 10)) rfl (.frs (.tmp rfl)) (congrArg (fun z : Int => AV.int .u8 z) (by rw [dig_byte hr]; omega)) Tryd.underlying50 Tryd.underlying5 Tryd.underlying9) rfl rfl (Nat.le_of_ble_eq_true rfl) ?_
    refine AD.pure (PureOp.strAdd rfl (.tmp rfl) (.tmp rfl) (by have h1 : (⟨#[UInt8.ofNat (48 + n % 10)]⟩ : ByteArray).size = 1 := rfl; omega)) rfl rfl (Nat.le_of_ble_eq_true rfl) ?_
    refine AD.pure (PureOp.assign rfl (.tmp rfl)) rfl rfl (Nat.le_of_ble_eq_true rfl) ?_
    refine AD.nil ?_
    refine AW.ret (show ResL _ _ [.tmp 2] _ from resS rfl ?_)
    exact (itoaB_step hlt).symm

theorem v_Num (n : Nat) (hn : n ≤ 9223372036854775807) : Fn Tryd.prog 25 [.one (.int .i64 (n : Int))] (.one (.str (itoaB (n : Int)))) := by
  induction n using Nat.strongRecOn with
  | _ n ih => exact v_NumS n hn fun m hm => ih m hm (by omega)
theorem v_NumI (z : Int) (h0 : 0 ≤ z) (h1 : z ≤ 9223372036854775807) : Fn Tryd.prog 25 [.one (.int .i64 z)] (.one (.str (itoaB z))) := by
  obtain ⟨n, rfl⟩ : ∃ n : Nat, z = n := ⟨z.toNat, by omega⟩
  exact v_Num n (by omega)
theorem v_Text (z : Int) (hz : -9223372036854775807 ≤ z ∧ z ≤ 9223372036854775807) : Fn Tryd.prog 17 [.one (.int .i64 z)] (.one (.str (itoaB z))) := by
  obtain ⟨hz0, hz1⟩ := hz
  refine Fn.of_body (fn := Tryd.f17) Tryd.func17 rfl (Nat.le_of_ble_eq_true rfl) (itoaB_plain (by omega) (by omega)) ?_
  intro w0
  show AW _ 11 _ _ _ _
  refine AW.seq ?_
  refine AW.region ?_
  refine ARun.pure (PureOp.assign rfl (.str (by decide))) rfl rfl (Nat.le_of_ble_eq_true rfl) ?_
  refine ARun.nil ?_
  refine AW.seq ?_
  refine AW.seq ?_
  refine AW.region ?_
  refine ARun.pure (PureOp.move rfl (.tmp rfl)) rfl rfl (Nat.le_of_ble_eq_true rfl) ?_
  refine ARun.pure (PureOp.intOp rfl (.tmp rfl) .int rfl) rfl rfl (Nat.le_of_ble_eq_true rfl) ?_
  refine ARun.nil ?_
  refine AW.cond (.tmp rfl) (fun hb1 => ?_) (fun hb1 => ?_)
  · have _u := True.intro
    replace hb1 := of_decide_eq_true hb1
    have hsz : (itoaB (-z)).size ≤ 21 := itoaB_size (by omega) (by omega)
    refine AW.seq ?_
    refine AW.region ?_
    refine ARun.pure (PureOp.move rfl (.tmp rfl)) rfl rfl (Nat.le_of_ble_eq_true rfl) ?_
    refine ARun.pure (PureOp.neg (b := -z) rfl (.tmp rfl) (wrap_id (by omega) (by omega))) rfl rfl (Nat.le_of_ble_eq_true rfl) ?_
    refine ARun.pure (PureOp.call rfl (v_NumI (-z) (by omega) (by omega)) ⟨⟨_, (.tmp rfl), .int⟩, trivial⟩ vtx_ca_25 (itoaB_plain (by omega) (by omega))) rfl rfl (Nat.le_of_ble_eq_true rfl) ?_
    refine ARun.pure (PureOp.strAdd rfl (.str (by decide)) (.tmp rfl) (by have h1 : (⟨#[45]⟩ : ByteArray).size = 1 := rfl; omega)) rfl rfl (Nat.le_of_ble_eq_true rfl) ?_
    refine ARun.pure (PureOp.assign rfl (.tmp rfl)) rfl rfl (Nat.le_of_ble_eq_true rfl) ?_
    refine ARun.nil ?_
    refine AW.ret (show ResL _ _ [.tmp 2] _ from resS rfl ?_)
    exact itoaB_neg hb1
  · have _u := True.intro
    replace hb1 := of_decide_eq_false hb1
    refine AW.skip ?_
    refine AW.seq ?_
    refine AW.region ?_
    refine ARun.pure (PureOp.move rfl (.tmp rfl)) rfl rfl (Nat.le_of_ble_eq_true rfl) ?_
    refine ARun.pure (PureOp.call rfl (v_NumI z (by omega) (by omega)) ⟨⟨_, (.tmp rfl), .int⟩, trivial⟩ vtx_ca_25 (itoaB_plain (by omega) (by omega))) rfl rfl (Nat.le_of_ble_eq_true rfl) ?_
    refine ARun.pure (PureOp.assign rfl (.tmp rfl)) rfl rfl (Nat.le_of_ble_eq_true rfl) ?_
    refine ARun.nil ?_
    refine AW.ret (show ResL _ _ [.tmp 2] _ from resS rfl ?_)
    rfl
end Go.Proofs.YticinemcmgggpabDoor

/-
  SayText: the reference and the program write the same.
-/
namespace Go.Proofs.YticinemcmgggpabDoor
open Go.ChangeShapes Go.WideShapes Go.ChangeAt Go.RowKit Go.BigFrame Go.Deep
set_option linter.unusedVariables false
set_option linter.unusedSimpArgs false
theorem vsy_ca_16 : callB Tryd.prog 16 = true := by kernel_rfl
theorem vsy_ca_18 : callB Tryd.prog 18 = true := by kernel_rfl
theorem vsy_ca_22 : callB Tryd.prog 22 = true := by kernel_rfl
theorem vsy_ca_23 : callB Tryd.prog 23 = true := by kernel_rfl
theorem vsy_ca_24 : callB Tryd.prog 24 = true := by kernel_rfl
theorem vsy_ca_34 : callB Tryd.prog 34 = true := by kernel_rfl
theorem vsy_fi_23_0_0 : fieldB Tryd.prog 23 0 0 = true := by kernel_rfl
theorem vsy_fi_23_1_1 : fieldB Tryd.prog 23 1 1 = true := by kernel_rfl
theorem vsy_fi_23_2_2 : fieldB Tryd.prog 23 2 2 = true := by kernel_rfl
theorem vsy_fi_46_0_0 : fieldB Tryd.prog 46 0 0 = true := by kernel_rfl
theorem vsy_fi_46_1_1 : fieldB Tryd.prog 46 1 1 = true := by kernel_rfl
theorem vsy_pl_3 : plainB Tryd.prog 3 = true := by kernel_rfl
theorem vsy_pl_9 : plainB Tryd.prog 9 = true := by kernel_rfl
def sayB (x : GSay) : Bool :=
  cond (cond (nameB x.name false) (inB 0 1000000000 x.at_) false) (inB (-1000000000) 1000000000 x.value) false
theorem v_l13Say (x : GSay) : Fn Tryd.prog 11 [.agg [.str x.name, .int .i64 x.at_, .int .i64 x.value]] (.one (.bool (sayB x))) := by
  refine Fn.of_body (fn := Tryd.f11) Tryd.func11 rfl (Nat.le_of_ble_eq_true rfl) trivial ?_
  intro w0
  show AW _ 16 _ _ _ _
  refine AW.seq ?_
  refine AW.region ?_
  refine ARun.box (id := 0) rfl (.tmp rfl) (SV.cells_of (by exact ⟨trivial, trivial, trivial, trivial⟩)) ⟨rfl, (by repeat first | exact trivial | refine ⟨by decide, by first | rfl | exact trivial | (intro i j; first | rfl | exact getD_no rfl | (dsimp only; split <;> first | rfl | exact getD_no rfl) | exact scl_no (by apply_assumption) _), ?_⟩)⟩ rfl rfl rfl (Nat.le_of_ble_eq_true rfl) ?_
  refine ARun.pure (PureOp.assign rfl .bool) rfl rfl (Nat.le_of_ble_eq_true rfl) ?_
  refine ARun.nil ?_
  refine AW.seq ?_
  refine AW.region ?_
  refine ARun.pure (PureOp.fieldPtr rfl (.tmp rfl) vsy_fi_23_0_0) rfl rfl (Nat.le_of_ble_eq_true rfl) ?_
  refine ARun.pure (PureOp.loadPtr rfl (.tmp rfl) vsy_pl_9 rfl rfl (Nat.le_of_ble_eq_true rfl) (Nat.le_of_ble_eq_true rfl)) rfl rfl (Nat.le_of_ble_eq_true rfl) ?_
  refine ARun.pure (PureOp.call rfl (v_l3Name x.name false) ⟨⟨_, (.tmp rfl), .str⟩, ⟨_, .bool, .bool⟩, trivial⟩ vsy_ca_18 trivial) rfl rfl (Nat.le_of_ble_eq_true rfl) ?_
  refine ARun.pure (PureOp.move rfl (.tmp rfl)) rfl rfl (Nat.le_of_ble_eq_true rfl) ?_
  refine ARun.gpure (want := true) (.tt rfl) (fun hg1 => PureOp.fieldPtr rfl (.tmp rfl) vsy_fi_23_1_1) rfl rfl (Nat.le_of_ble_eq_true rfl) rfl (Nat.le_of_ble_eq_true rfl) ?_
  refine ARun.gpure (want := true) (.tt rfl) (fun hg2 => PureOp.loadPtr rfl (.gtmp rfl hg2) vsy_pl_3 rfl rfl (Nat.le_of_ble_eq_true rfl) (Nat.le_of_ble_eq_true rfl)) rfl rfl (Nat.le_of_ble_eq_true rfl) rfl (Nat.le_of_ble_eq_true rfl) ?_
  refine ARun.gpure (want := true) (.tt rfl) (fun hg3 => PureOp.call rfl (v_l1In x.at_ 0 1000000000) ⟨⟨_, (.gtmp rfl hg3), .int⟩, ⟨_, .int, .int⟩, ⟨_, .int, .int⟩, trivial⟩ vsy_ca_16 trivial) rfl rfl (Nat.le_of_ble_eq_true rfl) rfl (Nat.le_of_ble_eq_true rfl) ?_
  refine ARun.pure (PureOp.pick rfl (.tmp rfl) (fun hp4 => .gtmp rfl hp4) (fun _ => .bool)) rfl rfl (Nat.le_of_ble_eq_true rfl) ?_
  refine ARun.pure (PureOp.move rfl (.tmp rfl)) rfl rfl (Nat.le_of_ble_eq_true rfl) ?_
  refine ARun.gpure (want := true) (.tt rfl) (fun hg6 => PureOp.fieldPtr rfl (.tmp rfl) vsy_fi_23_2_2) rfl rfl (Nat.le_of_ble_eq_true rfl) rfl (Nat.le_of_ble_eq_true rfl) ?_
  refine ARun.gpure (want := true) (.tt rfl) (fun hg7 => PureOp.loadPtr rfl (.gtmp rfl hg7) vsy_pl_3 rfl rfl (Nat.le_of_ble_eq_true rfl) (Nat.le_of_ble_eq_true rfl)) rfl rfl (Nat.le_of_ble_eq_true rfl) rfl (Nat.le_of_ble_eq_true rfl) ?_
  refine ARun.gpure (want := true) (.tt rfl) (fun hg8 => PureOp.call rfl (v_l1In x.value (-1000000000) 1000000000) ⟨⟨_, (.gtmp rfl hg8), .int⟩, ⟨_, .int, .int⟩, ⟨_, .int, .int⟩, trivial⟩ vsy_ca_16 trivial) rfl rfl (Nat.le_of_ble_eq_true rfl) rfl (Nat.le_of_ble_eq_true rfl) ?_
  refine ARun.pure (PureOp.pick rfl (.tmp rfl) (fun hp9 => .gtmp rfl hp9) (fun _ => .bool)) rfl rfl (Nat.le_of_ble_eq_true rfl) ?_
  refine ARun.pure (PureOp.assign rfl (.tmp rfl)) rfl rfl (Nat.le_of_ble_eq_true rfl) ?_
  refine ARun.nil ?_
  refine AW.ret (show ResL _ _ [.tmp 2] _ from resB rfl ?_)
  rfl

def isSampleB (x : GSample) : Bool :=
  cond (inB 0 1000000000 x.at_) (inB (-1000000000) 1000000000 x.value) false
theorem v_isSample (x : GSample) : Fn Tryd.prog 23 [.agg [.int .i64 x.at_, .int .i64 x.value]] (.one (.bool (isSampleB x))) := by
  refine Fn.of_body (fn := Tryd.f23) Tryd.func23 rfl (Nat.le_of_ble_eq_true rfl) trivial ?_
  intro w0
  show AW _ 11 _ _ _ _
  refine AW.seq ?_
  refine AW.region ?_
  refine ARun.box (id := 0) rfl (.tmp rfl) (SV.cells_of (by exact ⟨trivial, trivial, trivial⟩)) ⟨rfl, (by repeat first | exact trivial | refine ⟨by decide, by first | rfl | exact trivial | (intro i j; first | rfl | exact getD_no rfl | (dsimp only; split <;> first | rfl | exact getD_no rfl) | exact scl_no (by apply_assumption) _), ?_⟩)⟩ rfl rfl rfl (Nat.le_of_ble_eq_true rfl) ?_
  refine ARun.pure (PureOp.assign rfl .bool) rfl rfl (Nat.le_of_ble_eq_true rfl) ?_
  refine ARun.nil ?_
  refine AW.seq ?_
  refine AW.region ?_
  refine ARun.pure (PureOp.fieldPtr rfl (.tmp rfl) vsy_fi_46_0_0) rfl rfl (Nat.le_of_ble_eq_true rfl) ?_
  refine ARun.pure (PureOp.loadPtr rfl (.tmp rfl) vsy_pl_3 rfl rfl (Nat.le_of_ble_eq_true rfl) (Nat.le_of_ble_eq_true rfl)) rfl rfl (Nat.le_of_ble_eq_true rfl) ?_
  refine ARun.pure (PureOp.call rfl (v_within x.at_ 0 1000000000) ⟨⟨_, (.tmp rfl), .int⟩, ⟨_, .int, .int⟩, ⟨_, .int, .int⟩, trivial⟩ vsy_ca_34 trivial) rfl rfl (Nat.le_of_ble_eq_true rfl) ?_
  refine ARun.pure (PureOp.move rfl (.tmp rfl)) rfl rfl (Nat.le_of_ble_eq_true rfl) ?_
  refine ARun.gpure (want := true) (.tt rfl) (fun hg1 => PureOp.fieldPtr rfl (.tmp rfl) vsy_fi_46_1_1) rfl rfl (Nat.le_of_ble_eq_true rfl) rfl (Nat.le_of_ble_eq_true rfl) ?_
  refine ARun.gpure (want := true) (.tt rfl) (fun hg2 => PureOp.loadPtr rfl (.gtmp rfl hg2) vsy_pl_3 rfl rfl (Nat.le_of_ble_eq_true rfl) (Nat.le_of_ble_eq_true rfl)) rfl rfl (Nat.le_of_ble_eq_true rfl) rfl (Nat.le_of_ble_eq_true rfl) ?_
  refine ARun.gpure (want := true) (.tt rfl) (fun hg3 => PureOp.call rfl (v_within x.value (-1000000000) 1000000000) ⟨⟨_, (.gtmp rfl hg3), .int⟩, ⟨_, .int, .int⟩, ⟨_, .int, .int⟩, trivial⟩ vsy_ca_34 trivial) rfl rfl (Nat.le_of_ble_eq_true rfl) rfl (Nat.le_of_ble_eq_true rfl) ?_
  refine ARun.pure (PureOp.pick rfl (.tmp rfl) (fun hp4 => .gtmp rfl hp4) (fun _ => .bool)) rfl rfl (Nat.le_of_ble_eq_true rfl) ?_
  refine ARun.pure (PureOp.assign rfl (.tmp rfl)) rfl rfl (Nat.le_of_ble_eq_true rfl) ?_
  refine ARun.nil ?_
  refine AW.ret (show ResL _ _ [.tmp 2] _ from resB rfl ?_)
  rfl

def sayBI (x : GSay) : Bool :=
  cond (nameB x.name false) (isSampleB (⟨x.at_, x.value⟩ : GSample)) false
theorem sayB_eq (x : GSay) : sayBI x = sayB x := by
  unfold sayBI sayB isSampleB
  generalize nameB _ false = a1
  generalize inB 0 _ _ = a2
  generalize inB (-1000000000) _ _ = a3
  revert a1 a2 a3; decide
theorem v_isSay (x : GSay) : Fn Tryd.prog 14 [.agg [.str x.name, .int .i64 x.at_, .int .i64 x.value]] (.one (.bool (sayB x))) := by
  refine Fn.of_body (fn := Tryd.f14) Tryd.func14 rfl (Nat.le_of_ble_eq_true rfl) trivial ?_
  intro w0
  show AW _ 14 _ _ _ _
  refine AW.seq ?_
  refine AW.region ?_
  refine ARun.box (id := 0) rfl (.tmp rfl) (SV.cells_of (by exact ⟨trivial, trivial, trivial, trivial⟩)) ⟨rfl, (by repeat first | exact trivial | refine ⟨by decide, by first | rfl | exact trivial | (intro i j; first | rfl | exact getD_no rfl | (dsimp only; split <;> first | rfl | exact getD_no rfl) | exact scl_no (by apply_assumption) _), ?_⟩)⟩ rfl rfl rfl (Nat.le_of_ble_eq_true rfl) ?_
  refine ARun.pure (PureOp.assign rfl .bool) rfl rfl (Nat.le_of_ble_eq_true rfl) ?_
  refine ARun.nil ?_
  refine AW.seq ?_
  refine AW.region ?_
  refine ARun.pure (PureOp.fieldPtr rfl (.tmp rfl) vsy_fi_23_0_0) rfl rfl (Nat.le_of_ble_eq_true rfl) ?_
  refine ARun.pure (PureOp.loadPtr rfl (.tmp rfl) vsy_pl_9 rfl rfl (Nat.le_of_ble_eq_true rfl) (Nat.le_of_ble_eq_true rfl)) rfl rfl (Nat.le_of_ble_eq_true rfl) ?_
  refine ARun.pure (PureOp.call rfl (v_isWord x.name false) ⟨⟨_, (.tmp rfl), .str⟩, ⟨_, .bool, .bool⟩, trivial⟩ vsy_ca_22 trivial) rfl rfl (Nat.le_of_ble_eq_true rfl) ?_
  refine ARun.pure (PureOp.move rfl (.tmp rfl)) rfl rfl (Nat.le_of_ble_eq_true rfl) ?_
  refine ARun.gpure (want := true) (.tt rfl) (fun hg1 => PureOp.fieldPtr rfl (.tmp rfl) vsy_fi_23_1_1) rfl rfl (Nat.le_of_ble_eq_true rfl) rfl (Nat.le_of_ble_eq_true rfl) ?_
  refine ARun.gpure (want := true) (.tt rfl) (fun hg2 => PureOp.loadPtr rfl (.gtmp rfl hg2) vsy_pl_3 rfl rfl (Nat.le_of_ble_eq_true rfl) (Nat.le_of_ble_eq_true rfl)) rfl rfl (Nat.le_of_ble_eq_true rfl) rfl (Nat.le_of_ble_eq_true rfl) ?_
  refine ARun.gpure (want := true) (.tt rfl) (fun hg3 => PureOp.fieldPtr rfl (.tmp rfl) vsy_fi_23_2_2) rfl rfl (Nat.le_of_ble_eq_true rfl) rfl (Nat.le_of_ble_eq_true rfl) ?_
  refine ARun.gpure (want := true) (.tt rfl) (fun hg4 => PureOp.loadPtr rfl (.gtmp rfl hg4) vsy_pl_3 rfl rfl (Nat.le_of_ble_eq_true rfl) (Nat.le_of_ble_eq_true rfl)) rfl rfl (Nat.le_of_ble_eq_true rfl) rfl (Nat.le_of_ble_eq_true rfl) ?_
  refine ARun.gpure (want := true) (.tt rfl) (fun hg5 => PureOp.build (ys := [.int .i64 x.at_, .int .i64 x.value]) (l := [.int .i64 0, .int .i64 0]) (pl := [(0, 1), (1, 1)]) (z := (.agg #[.int .i64 0, .int .i64 0])) rfl (by kernel_rfl) (by kernel_rfl) (fun _ _ _ => ⟨_, _, rfl, rfl, ⟨_, _, rfl, rfl, rfl⟩⟩) ⟨(.gtmp rfl hg5), trivial, rfl, ⟨(.gtmp rfl hg5), trivial, rfl, trivial⟩⟩ rfl) rfl rfl (Nat.le_of_ble_eq_true rfl) rfl (Nat.le_of_ble_eq_true rfl) ?_
  refine ARun.gpure (want := true) (.tt rfl) (fun hg6 => PureOp.call rfl (v_isSample (⟨x.at_, x.value⟩ : GSample)) ⟨⟨_, (.gtmp rfl hg6), ⟨.int, .int, trivial⟩⟩, trivial⟩ vsy_ca_23 trivial) rfl rfl (Nat.le_of_ble_eq_true rfl) rfl (Nat.le_of_ble_eq_true rfl) ?_
  refine ARun.pure (PureOp.pick rfl (.tmp rfl) (fun hp7 => .gtmp rfl hp7) (fun _ => .bool)) rfl rfl (Nat.le_of_ble_eq_true rfl) ?_
  refine ARun.pure (PureOp.assign rfl (.tmp rfl)) rfl rfl (Nat.le_of_ble_eq_true rfl) ?_
  refine ARun.nil ?_
  refine AW.ret (show ResL _ _ [.tmp 2] _ from resB rfl ?_)
  exact sayB_eq x

/-- The text of a measurement. -/
def sayT (x : GSay) : ByteArray := (((x.name ++ ⟨#[32]⟩) ++ itoaB x.at_) ++ ⟨#[32]⟩) ++ itoaB x.value
structure SayOk (x : GSay) : Prop where
  name : x.name.size ≤ 1048576
  at0 : 0 ≤ x.at_
  at1 : x.at_ ≤ 9223372036854775807
  v0 : -9223372036854775807 ≤ x.value
  v1 : x.value ≤ 9223372036854775807
theorem sayT_size {x : GSay} (h : SayOk x) : (sayT x).size ≤ x.name.size + 44 := by
  have hs1 : (itoaB x.at_).size ≤ 21 := itoaB_size (by have := h.at0; omega) h.at1
  have hs2 : (itoaB x.value).size ≤ 21 := itoaB_size (by have := h.v0; omega) h.v1
  have hs3 : (⟨#[32]⟩ : ByteArray).size = 1 := rfl
  unfold sayT
  simp only [ByteArray.size_append]
  omega
theorem sayT_plain {x : GSay} (h : SayOk x) : (sayT x).size ≤ maxLen := by
  have := sayT_size h
  have := h.name
  unfold maxLen; omega
theorem sayB_ok {x : GSay} (h : sayB x = true) : SayOk x := by
  unfold sayB at h
  simp only [Bool.cond_false_right, Bool.and_eq_true] at h
  obtain ⟨⟨h1, h2⟩, h3⟩ := h
  obtain ⟨a1, a2⟩ := inB_true h2
  obtain ⟨b1, b2⟩ := inB_true h3
  unfold nameB at h1
  rw [Bool.and_eq_true] at h1
  obtain ⟨c1, c2⟩ := inB_true h1.2
  exact ⟨by omega, a1, by omega, by omega, by omega⟩

theorem v_sayText (x : GSay) (hx : SayOk x) : Fn Tryd.prog 15 [.agg [.str x.name, .int .i64 x.at_, .int .i64 x.value]] (.one (.str (sayT x))) := by
  have hx' := hx
  obtain ⟨hn, ha0, ha1, hv0, hv1⟩ := hx'
  have hs1 : (itoaB x.at_).size ≤ 21 := itoaB_size (by omega) (by omega)
  have hs2 : (itoaB x.value).size ≤ 21 := itoaB_size (by omega) (by omega)
  have hs3 : (⟨#[32]⟩ : ByteArray).size = 1 := rfl
  refine Fn.of_body (fn := Tryd.f15) Tryd.func15 rfl (Nat.le_of_ble_eq_true rfl) (sayT_plain hx) ?_
  intro w0
  show AW _ 15 _ _ _ _
  refine AW.seq ?_
  refine AW.region ?_
  refine ARun.box (id := 0) rfl (.tmp rfl) (SV.cells_of (by exact ⟨trivial, trivial, trivial, trivial⟩)) ⟨rfl, (by repeat first | exact trivial | refine ⟨by decide, by first | rfl | exact trivial | (intro i j; first | rfl | exact getD_no rfl | (dsimp only; split <;> first | rfl | exact getD_no rfl) | exact scl_no (by apply_assumption) _), ?_⟩)⟩ rfl rfl rfl (Nat.le_of_ble_eq_true rfl) ?_
  refine ARun.pure (PureOp.assign rfl (.str (by decide))) rfl rfl (Nat.le_of_ble_eq_true rfl) ?_
  refine ARun.nil ?_
  refine AW.seq ?_
  refine AW.any (by kernel_rfl) (by kernel_rfl) ?_
  refine AD.pure (PureOp.fieldPtr rfl (.tmp rfl) vsy_fi_23_0_0) rfl rfl (Nat.le_of_ble_eq_true rfl) ?_
  refine AD.pure (PureOp.loadPtr rfl (.tmp rfl) vsy_pl_9 rfl rfl (Nat.le_of_ble_eq_true rfl) (Nat.le_of_ble_eq_true rfl)) rfl rfl (Nat.le_of_ble_eq_true rfl) ?_
  refine AD.pure (PureOp.strAdd rfl (.tmp rfl) (.str (by decide)) (by skip; (try simp only [ByteArray.size_append]); omega)) rfl rfl (Nat.le_of_ble_eq_true rfl) ?_
  refine AD.pure (PureOp.fieldPtr rfl (.tmp rfl) vsy_fi_23_1_1) rfl rfl (Nat.le_of_ble_eq_true rfl) ?_
  refine AD.pure (PureOp.loadPtr rfl (.tmp rfl) vsy_pl_3 rfl rfl (Nat.le_of_ble_eq_true rfl) (Nat.le_of_ble_eq_true rfl)) rfl rfl (Nat.le_of_ble_eq_true rfl) ?_
  refine AD.pure (PureOp.call rfl (v_Itoa x.at_ (by omega) (by omega)) ⟨⟨_, (.tmp rfl), .int⟩, trivial⟩ vsy_ca_24 (itoaB_plain (by omega) (by omega))) rfl rfl (Nat.le_of_ble_eq_true rfl) ?_
  refine AD.pure (PureOp.strAdd rfl (.tmp rfl) (.tmp rfl) (by skip; (try simp only [ByteArray.size_append]); omega)) rfl rfl (Nat.le_of_ble_eq_true rfl) ?_
  refine AD.pure (PureOp.strAdd rfl (.tmp rfl) (.str (by decide)) (by skip; (try simp only [ByteArray.size_append]); omega)) rfl rfl (Nat.le_of_ble_eq_true rfl) ?_
  refine AD.pure (PureOp.fieldPtr rfl (.tmp rfl) vsy_fi_23_2_2) rfl rfl (Nat.le_of_ble_eq_true rfl) ?_
  refine AD.pure (PureOp.loadPtr rfl (.tmp rfl) vsy_pl_3 rfl rfl (Nat.le_of_ble_eq_true rfl) (Nat.le_of_ble_eq_true rfl)) rfl rfl (Nat.le_of_ble_eq_true rfl) ?_
  refine AD.pure (PureOp.call rfl (v_Itoa x.value (by omega) (by omega)) ⟨⟨_, (.tmp rfl), .int⟩, trivial⟩ vsy_ca_24 (itoaB_plain (by omega) (by omega))) rfl rfl (Nat.le_of_ble_eq_true rfl) ?_
  refine AD.pure (PureOp.strAdd rfl (.tmp rfl) (.tmp rfl) (by skip; (try simp only [ByteArray.size_append]); omega)) rfl rfl (Nat.le_of_ble_eq_true rfl) ?_
  refine AD.pure (PureOp.assign rfl (.tmp rfl)) rfl rfl (Nat.le_of_ble_eq_true rfl) ?_
  refine AD.nil ?_
  refine AW.ret (show ResL _ _ [.tmp 2] _ from resS rfl ?_)
  rfl
end Go.Proofs.YticinemcmgggpabDoor

/-
  Reading a measurement's text: words, numbers, what both sides answer (no program in sight).
-/
namespace Go.Proofs.YticinemcmgggpabDoor
open Go.ChangeShapes Go.WideShapes Go.ChangeAt Go.RowKit Go.BigFrame Go.Deep
set_option linter.unusedVariables false

namespace Rd
/-- l cut at each byte c. -/
def cutL (c : UInt8) : List UInt8 → List (List UInt8)
  | [] => [[]]
  | b :: l => if b = c then [] :: cutL c l else (b :: (cutL c l).headD []) :: (cutL c l).tail
theorem cutL_ne (c : UInt8) : ∀ l, cutL c l ≠ []
  | [] => by simp [cutL]
  | b :: l => by unfold cutL; split <;> simp
theorem cutL_hit {c : UInt8} (l : List UInt8) : cutL c (c :: l) = [] :: cutL c l := if_pos rfl
theorem cutL_miss {b c : UInt8} (h : b ≠ c) (l : List UInt8) : cutL c (b :: l) = (b :: (cutL c l).headD []) :: (cutL c l).tail := if_neg h
theorem splitK_cut (c : UInt8) : ∀ l, Lib.splitK [c] 0 (Lib.count l [c]) l = cutL c l
  | [] => by
    rw [Lib.count_one]
    rfl
  | b :: l => by
    have ih := splitK_cut c l
    by_cases h : b = c
    · subst h
      have hix : Lib.index (b :: l) [b] = ((0 : Nat) : Int) := by rw [Lib.index]; simp [List.isPrefixOf]
      have hm : ¬ (Lib.index (b :: l) [b] == -1) = true := fun e => by have := beq_iff_eq.1 e; omega
      rw [Lib.count_cons_eq, Nat.add_comm, Lib.splitK, if_neg hm, cutL_hit, hix]
      simp only [Int.toNat_natCast, Nat.zero_add, List.take_zero, List.length_cons, List.length_nil, List.drop_succ_cons, List.drop_zero]
      rw [ih]
    · have hp : ([c] : List UInt8).isPrefixOf (b :: l) = false := by simp [List.isPrefixOf, Ne.symm h]
      have hix : Lib.index (b :: l) [c] = if Lib.index l [c] == -1 then -1 else Lib.index l [c] + 1 := by rw [Lib.index, hp]; simp
      rw [Lib.count_cons_ne b c l h, cutL_miss h, ← ih]
      generalize Lib.count l [c] = k
      cases k with
      | zero => rfl
      | succ k =>
        by_cases hm : Lib.index l [c] = -1
        · rw [Lib.splitK, if_pos (beq_iff_eq.2 (by rw [hix, if_pos (beq_iff_eq.2 hm)])), Lib.splitK, if_pos (beq_iff_eq.2 hm)]
          rfl
        · obtain ⟨i, hi⟩ : ∃ i : Nat, Lib.index l [c] = i := ⟨(Lib.index l [c]).toNat, by have := Lib.index_ge l [c]; omega⟩
          have h1 : ¬ (Lib.index l [c] == -1) = true := fun e => hm (beq_iff_eq.1 e)
          have h2 : ¬ (Lib.index (b :: l) [c] == -1) = true := fun e => by
            rw [hix, if_neg h1, hi] at e
            have := beq_iff_eq.1 e; omega
          rw [Lib.splitK, if_neg h2, Lib.splitK, if_neg h1, hix, if_neg h1, hi]
          have e1 : ((i : Int) + 1).toNat = i + 1 := by omega
          rw [e1, Int.toNat_natCast]
          simp only [Nat.add_zero, List.take_succ_cons, List.headD_cons, List.tail_cons, List.length_cons, List.length_nil, Nat.zero_add, List.drop_succ_cons]
theorem cutL_free {c : UInt8} : ∀ {l : List UInt8}, (∀ b ∈ l, b ≠ c) → cutL c l = [l]
  | [], _ => rfl
  | b :: l, h => by
    rw [cutL_miss (h b (by simp)), cutL_free (l := l) fun x hx => h x (by simp [hx])]
    rfl
theorem cutL_app {c : UInt8} : ∀ {l : List UInt8} (r : List UInt8), (∀ b ∈ l, b ≠ c) → cutL c (l ++ c :: r) = l :: cutL c r
  | [], r, _ => cutL_hit r
  | b :: l, r, h => by
    rw [List.cons_append, cutL_miss (h b (by simp)), cutL_app (l := l) r fun x hx => h x (by simp [hx])]
    rfl
theorem cutL_mem {c : UInt8} : ∀ {l w : List UInt8}, w ∈ cutL c l → ∀ b ∈ w, b ≠ c
  | [], w, h, b, hb => by
    simp only [cutL, List.mem_singleton] at h
    subst h; cases hb
  | a :: l, w, h, b, hb => by
    by_cases e : a = c
    · subst e
      rw [cutL_hit, List.mem_cons] at h
      rcases h with rfl | h
      · cases hb
      · exact cutL_mem h b hb
    · rw [cutL_miss e, List.mem_cons] at h
      obtain ⟨x, r, hr⟩ : ∃ x r, cutL c l = x :: r := by
        cases hc : cutL c l with
        | nil => exact absurd hc (cutL_ne c l)
        | cons x r => exact ⟨x, r, rfl⟩
      rcases h with rfl | h
      · rw [List.mem_cons] at hb
        rcases hb with rfl | hb
        · exact e
        · exact cutL_mem (w := x) (by rw [hr]; simp) b (by rw [hr] at hb; exact hb)
      · exact cutL_mem (w := w) (by rw [hr] at h ⊢; exact List.mem_cons_of_mem _ h) b hb
def joinL (c : UInt8) : List (List UInt8) → List UInt8
  | [] => []
  | [w] => w
  | w :: x :: r => w ++ c :: joinL c (x :: r)
theorem joinL_cut (c : UInt8) : ∀ l, joinL c (cutL c l) = l
  | [] => rfl
  | b :: l => by
    have ih := joinL_cut c l
    obtain ⟨x, r, hr⟩ : ∃ x r, cutL c l = x :: r := by
      cases hc : cutL c l with
      | nil => exact absurd hc (cutL_ne c l)
      | cons x r => exact ⟨x, r, rfl⟩
    by_cases e : b = c
    · subst e
      rw [cutL_hit, hr]
      rw [hr] at ih
      show [] ++ b :: joinL b (x :: r) = _
      rw [ih]; rfl
    · rw [cutL_miss e, hr]
      rw [hr] at ih
      show joinL c ((b :: x) :: r) = _
      cases r with
      | nil =>
        have : x = l := ih
        rw [this]; rfl
      | cons y r =>
        have : x ++ c :: joinL c (y :: r) = l := ih
        show (b :: x) ++ c :: joinL c (y :: r) = _
        rw [List.cons_append, this]
theorem cut_three {c : UInt8} {l w0 w1 w2 : List UInt8} (h : cutL c l = [w0, w1, w2]) : l = w0 ++ c :: (w1 ++ c :: w2) ∧ (∀ b ∈ w0, b ≠ c) ∧ (∀ b ∈ w1, b ≠ c) ∧ (∀ b ∈ w2, b ≠ c) := by
  refine ⟨?_, cutL_mem (l := l) (by rw [h]; simp), cutL_mem (l := l) (by rw [h]; simp), cutL_mem (l := l) (by rw [h]; simp)⟩
  have := joinL_cut c l
  rw [h] at this
  exact this.symm
theorem three_cut {c : UInt8} {w0 w1 w2 : List UInt8} (h0 : ∀ b ∈ w0, b ≠ c) (h1 : ∀ b ∈ w1, b ≠ c) (h2 : ∀ b ∈ w2, b ≠ c) : cutL c (w0 ++ c :: (w1 ++ c :: w2)) = [w0, w1, w2] := by
  rw [cutL_app _ h0, cutL_app _ h1, cutL_free h2]
-- numbers
theorem decFrom_append : ∀ (l r : List UInt8) (a : Nat), Lib.decFrom a (l ++ r) = (Lib.decFrom a l).bind fun b => Lib.decFrom b r
  | [], _, _ => rfl
  | b :: l, r, a => by
    show (match Lib.digitVal b with | some d => Lib.decFrom (a * 10 + d) (l ++ r) | none => none) = (match Lib.digitVal b with | some d => Lib.decFrom (a * 10 + d) l | none => none).bind fun b => Lib.decFrom b r
    cases hd : Lib.digitVal b with
    | none => rfl
    | some d => exact decFrom_append l r _
theorem digit_byte {n : Nat} (h : n < 10) : (UInt8.ofNat (48 + n)).toNat = 48 + n := by
  rw [UInt8.toNat_ofNat']; omega
theorem digitVal_of {n : Nat} (h : n < 10) : Lib.digitVal (UInt8.ofNat (48 + n)) = some n := by
  unfold Lib.digitVal
  rw [digit_byte h, if_pos (by omega)]
  congr 1; omega
theorem decFrom_dig (u : Nat) : Lib.decFrom 0 (Lib.decDigits u) = some u := by
  induction u using Nat.strongRecOn with
  | _ u ih =>
    by_cases h : u < 10
    · rw [Lib.decDigits_one h]
      unfold Lib.decFrom
      rw [digitVal_of h]
      simp [Lib.decFrom]
    · rw [Lib.decDigits, dif_neg h, decFrom_append, ih (u / 10) (by omega)]
      show Lib.decFrom (u / 10) [UInt8.ofNat (48 + u % 10)] = _
      unfold Lib.decFrom
      rw [digitVal_of (by omega)]
      simp only [Lib.decFrom, Option.some.injEq]
      omega
theorem dig_mem (u : Nat) : ∀ b ∈ Lib.decDigits u, 48 ≤ b.toNat ∧ b.toNat ≤ 57 := fun b hb => by
  obtain ⟨k, hk⟩ := List.getElem?_of_mem hb
  obtain ⟨d, hd⟩ := Lib.digit_of_decFrom _ _ _ (decFrom_dig u) k b hk
  obtain ⟨h1, h2, _⟩ := Lib.digitVal_eq hd
  exact ⟨h1, h2⟩
theorem dig_ne (u : Nat) : Lib.decDigits u ≠ [] := by
  rw [Lib.decDigits]
  split <;> simp
theorem itoa_mem (z : Int) : ∀ b ∈ Lib.itoa z, b.toNat = 45 ∨ (48 ≤ b.toNat ∧ b.toNat ≤ 57) := fun b hb => by
  unfold Lib.itoa at hb
  split at hb
  · rw [List.mem_cons] at hb
    rcases hb with rfl | hb
    · exact .inl rfl
    · exact .inr (dig_mem _ b hb)
  · exact .inr (dig_mem _ b hb)
theorem itoa_free (z : Int) {c : UInt8} (hc : c.toNat < 45) : ∀ b ∈ Lib.itoa z, b ≠ c := fun b hb e => by
  subst e
  have := itoa_mem z b hb
  omega
theorem dig_len {u k : Nat} (h : u < 10 ^ (k + 1)) : (Lib.decDigits u).length ≤ k + 1 := by
  induction k generalizing u with
  | zero =>
    rw [Lib.decDigits_one (by simpa using h)]
    simp
  | succ k ih =>
    by_cases h1 : u < 10
    · rw [Lib.decDigits_one h1]; simp
    · rw [Lib.decDigits, dif_neg h1, List.length_append]
      have := ih (u := u / 10) (by rw [Nat.pow_succ] at h; omega)
      simp only [List.length_cons, List.length_nil]
      omega
def neg (l : List UInt8) : Bool := decide (l.head? = some 45)
def mag (l : List UInt8) : List UInt8 := if neg l = true then l.tail else l
def sg (l : List UInt8) (u : Nat) : Int := if neg l = true then -(u : Int) else u
/-- The reference's reading of a number. -/
def intL (l : List UInt8) : Int × Bool :=
  if 1 ≤ (mag l).length ∧ (mag l).length ≤ 10 then
    match Lib.decFrom 0 (mag l) with
    | none => (0, false)
    | some u => (sg l u, decide (Lib.itoa (sg l u) = l))
  else (0, false)
theorem intL_out {l : List UInt8} (h : ¬ (1 ≤ (mag l).length ∧ (mag l).length ≤ 10)) : intL l = (0, false) := if_neg h
theorem intL_none {l : List UInt8} (h : 1 ≤ (mag l).length ∧ (mag l).length ≤ 10) (hd : Lib.decFrom 0 (mag l) = none) : intL l = (0, false) := by
  unfold intL
  rw [if_pos h, hd]
theorem intL_some {l : List UInt8} {u : Nat} (h : 1 ≤ (mag l).length ∧ (mag l).length ≤ 10) (hd : Lib.decFrom 0 (mag l) = some u) : intL l = (sg l u, decide (Lib.itoa (sg l u) = l)) := by
  unfold intL
  rw [if_pos h, hd]
theorem intL_ok {l : List UInt8} (h : (intL l).2 = true) : Lib.itoa (intL l).1 = l := by
  by_cases hc : 1 ≤ (mag l).length ∧ (mag l).length ≤ 10
  · cases hd : Lib.decFrom 0 (mag l) with
    | none => rw [intL_none hc hd] at h; cases h
    | some u =>
      rw [intL_some hc hd] at h ⊢
      exact of_decide_eq_true h
  · rw [intL_out hc] at h; cases h
theorem dig_pos (u : Nat) : 1 ≤ (Lib.decDigits u).length := by
  cases hd : Lib.decDigits u with
  | nil => exact absurd hd (dig_ne u)
  | cons _ _ => simp
theorem intL_itoa {z : Int} (h0 : -1000000000 ≤ z) (h1 : z ≤ 1000000000) : intL (Lib.itoa z) = (z, true) := by
  have e10 : (10 : Nat) ^ (9 + 1) = 10000000000 := by decide
  by_cases hz : z < 0
  · obtain ⟨u, rfl⟩ : ∃ u : Nat, z = -(u : Int) := ⟨z.natAbs, by omega⟩
    have e := Lib.itoa_neg u (by omega)
    have hl := dig_len (u := u) (k := 9) (by omega)
    have hn := dig_pos u
    have hg : neg (Lib.itoa (-(u : Int))) = true := by unfold neg; rw [e]; rfl
    have hm : mag (Lib.itoa (-(u : Int))) = Lib.decDigits u := by unfold mag; rw [if_pos hg, e]; rfl
    have hs : sg (Lib.itoa (-(u : Int))) u = -(u : Int) := if_pos hg
    rw [intL_some (u := u) (by rw [hm]; exact ⟨hn, hl⟩) (by rw [hm]; exact decFrom_dig u), hs, decide_eq_true rfl]
  · obtain ⟨u, rfl⟩ : ∃ u : Nat, z = u := ⟨z.toNat, by omega⟩
    have e := Lib.itoa_nonneg u
    have hl := dig_len (u := u) (k := 9) (by omega)
    have hn := dig_pos u
    have hg : ¬ neg (Lib.itoa (u : Int)) = true := by
      unfold neg
      rw [e, decide_eq_true_eq]
      intro h
      have hm : (45 : UInt8) ∈ Lib.decDigits u := List.mem_of_mem_head? (by rw [h]; rfl)
      exact absurd (dig_mem u _ hm).1 (by decide)
    have hm : mag (Lib.itoa (u : Int)) = Lib.decDigits u := by unfold mag; rw [if_neg hg, e]
    have hs : sg (Lib.itoa (u : Int)) u = (u : Int) := if_neg hg
    rw [intL_some (u := u) (by rw [hm]; exact ⟨hn, hl⟩) (by rw [hm]; exact decFrom_dig u), hs, decide_eq_true rfl]
theorem atoi_itoa {z : Int} (h0 : -1000000000 ≤ z) (h1 : z ≤ 1000000000) : Lib.atoiAll (Lib.itoa z) = .ok z := by
  by_cases hz : z < 0
  · obtain ⟨u, rfl⟩ : ∃ u : Nat, z = -(u : Int) := ⟨z.natAbs, by omega⟩
    have hl := dig_len (u := u) (k := 9) (by have : (10 : Nat) ^ (9 + 1) = 10000000000 := by decide
                                             omega)
    have hn := dig_ne u
    rw [Lib.itoa_neg u (by omega), Lib.atoiAll_short _ (by simp only [List.length_cons]; omega)]
    have e : Lib.decNat (Lib.decDigits u) = some u := by
      unfold Lib.decNat
      rw [if_neg (by simpa using hn)]
      exact decFrom_dig u
    have e2 : Lib.atoi (45 :: Lib.decDigits u) = (Lib.decNat (Lib.decDigits u)).map fun (m : Nat) => -(m : Int) := rfl
    rw [e2, e]
    rfl
  · obtain ⟨u, rfl⟩ : ∃ u : Nat, z = u := ⟨z.toNat, by omega⟩
    have hl := dig_len (u := u) (k := 9) (by have : (10 : Nat) ^ (9 + 1) = 10000000000 := by decide
                                             omega)
    rw [Lib.itoa_nonneg, Lib.atoiAll_short _ (by omega)]
    have hd := decFrom_dig u
    have hm := dig_mem u
    revert hd hm
    cases hx : Lib.decDigits u with
    | nil => exact absurd hx (dig_ne u)
    | cons b r =>
      intro hd hm
      have hb := hm b (by simp)
      have n1 : ¬ (b == 45) = true := fun h => by
        have := beq_iff_eq.1 h
        subst this
        exact absurd hb.1 (by decide)
      have n2 : ¬ (b == 43) = true := fun h => by
        have := beq_iff_eq.1 h
        subst this
        exact absurd hb.1 (by decide)
      have e2 : Lib.atoi (b :: r) = if b == 45 then (Lib.decNat r).map fun (m : Nat) => -(m : Int) else if b == 43 then (Lib.decNat r).map fun (m : Nat) => (m : Int) else (Lib.decNat (b :: r)).map fun (m : Nat) => (m : Int) := rfl
      rw [e2, if_neg n1, if_neg n2]
      have e : Lib.decNat (b :: r) = some u := by
        unfold Lib.decNat
        rw [if_neg (by simp)]
        exact hd
      rw [e]
      rfl
end Rd
end Go.Proofs.YticinemcmgggpabDoor

/-
  Reading a measurement: strings.Split and strconv.Atoi by the library's own contracts; what both sides answer.
-/
namespace Go.Proofs.YticinemcmgggpabDoor
open Go.Proofs Go.Shelf
open Go.ChangeShapes Go.WideShapes Go.ChangeAt Go.RowKit Go.BigFrame Go.Deep
set_option linter.unusedVariables false
set_option linter.unusedSimpArgs false

def ren_n146 : Shelf.Ren where
  f := fun x => match x with | 146 => 12 | 221 => 19 | 268 => 26 | 138 => 27 | 143 => 28 | 195 => 36 | 197 => 37 | 218 => 38 | 219 => 39 | 260 => 44 | 217 => 45 | 225 => 46 | 224 => 47 | 267 => 48 | 266 => 55 | 314 => 56 | n => n
  t := fun x => match x with | 9 => 9 | 31 => 28 | 3 => 3 | 4 => 4 | 0 => 0 | 105 => 57 | 21 => 21 | 5 => 5 | 46 => 63 | 119 => 80 | 139 => 83 | 138 => 82 | 146 => 85 | 51 => 84 | n => n
  g := fun x => match x with | 1 => 2 | 3 => 3 | 4 => 4 | n => n
theorem lays_n146 : Lays.n146 Tryd.prog ren_n146 where
  mixed := by kernel_rfl
  f138 := by kernel_rfl
  f143 := by kernel_rfl
  f146 := by kernel_rfl
  f195 := by kernel_rfl
  f197 := by kernel_rfl
  f217 := by kernel_rfl
  f218 := by kernel_rfl
  f219 := by kernel_rfl
  f221 := by kernel_rfl
  f224 := by kernel_rfl
  f225 := by kernel_rfl
  f260 := by kernel_rfl
  f266 := by kernel_rfl
  f267 := by kernel_rfl
  f268 := by kernel_rfl
  f314 := by kernel_rfl
  t0 := Tryd.underlying0
  a0 := Tryd.isAgg0
  z0 := Tryd.sizeOf0
  v0 := Tryd.zeroValue0
  t3 := Tryd.underlying3
  a3 := Tryd.isAgg3
  z3 := Tryd.sizeOf3
  v3 := Tryd.zeroValue3
  t4 := Tryd.underlying4
  a4 := Tryd.isAgg4
  z4 := Tryd.sizeOf4
  v4 := Tryd.zeroValue4
  t5 := Tryd.underlying5
  a5 := Tryd.isAgg5
  z5 := Tryd.sizeOf5
  v5 := Tryd.zeroValue5
  t9 := Tryd.underlying9
  a9 := Tryd.isAgg9
  z9 := Tryd.sizeOf9
  v9 := Tryd.zeroValue9
  t21 := Tryd.underlying21
  a21 := Tryd.isAgg21
  z21 := Tryd.sizeOf21
  v21 := Tryd.zeroValue21
  t31 := Tryd.underlying28
  a31 := Tryd.isAgg28
  z31 := Tryd.sizeOf28
  v31 := Tryd.zeroValue28
  t46 := Tryd.underlying63
  a46 := Tryd.isAgg63
  z46 := Tryd.sizeOf63
  v46 := Tryd.zeroValue63
  t51 := Tryd.underlying84
  a51 := Tryd.isAgg84
  z51 := Tryd.sizeOf84
  v51 := Tryd.zeroValue84
  t105 := Tryd.underlying57
  a105 := Tryd.isAgg57
  z105 := Tryd.sizeOf57
  v105 := Tryd.zeroValue57
  t119 := Tryd.underlying80
  a119 := Tryd.isAgg80
  z119 := Tryd.sizeOf80
  t138 := Tryd.underlying82
  a138 := Tryd.isAgg82
  z138 := Tryd.sizeOf82
  v138 := Tryd.zeroValue82
  t139 := Tryd.underlying83
  a139 := Tryd.isAgg83
  z139 := Tryd.sizeOf83
  v139 := Tryd.zeroValue83
  t146 := Tryd.underlying85
  a146 := Tryd.isAgg85
  z146 := Tryd.sizeOf85
  v146 := Tryd.zeroValue85
  g1 := by kernel_rfl
  g3 := by kernel_rfl
  g4 := by kernel_rfl

def ren_n172 : Shelf.Ren where
  f := fun x => match x with | 172 => 13 | 244 => 20 | 245 => 21 | 247 => 29 | 279 => 30 | 280 => 31 | 281 => 32 | 282 => 33 | 287 => 40 | 316 => 41 | 171 => 24 | 205 => 42 | 321 => 49 | 322 => 50 | 243 => 35 | 246 => 43 | 283 => 51 | 284 => 52 | 285 => 53 | 286 => 54 | 129 => 58 | 317 => 57 | 318 => 59 | 319 => 60 | 320 => 61 | 337 => 62 | 338 => 63 | n => n
  t := fun x => match x with | 9 => 9 | 3 => 3 | 75 => 35 | 76 => 36 | 4 => 4 | 5 => 5 | 167 => 49 | 37 => 50 | 0 => 0 | 85 => 51 | 2 => 2 | 168 => 53 | 53 => 60 | 175 => 61 | 46 => 63 | 210 => 66 | 127 => 71 | 145 => 74 | 143 => 72 | 21 => 21 | 171 => 75 | 173 => 78 | 212 => 88 | 51 => 84 | 20 => 20 | 213 => 89 | 232 => 93 | 233 => 94 | 80 => 95 | n => n
  g := fun x => match x with | 15 => 0 | 16 => 1 | 17 => 5 | 18 => 6 | 19 => 7 | n => n
theorem lays_n172 : Lays.n172 Tryd.prog ren_n172 where
  mixed := by kernel_rfl
  f129 := by kernel_rfl
  f171 := by kernel_rfl
  f172 := by kernel_rfl
  f205 := by kernel_rfl
  f243 := by kernel_rfl
  f244 := by kernel_rfl
  f245 := by kernel_rfl
  f246 := by kernel_rfl
  f247 := by kernel_rfl
  f279 := by kernel_rfl
  f280 := by kernel_rfl
  f281 := by kernel_rfl
  f282 := by kernel_rfl
  f283 := by kernel_rfl
  f284 := by kernel_rfl
  f285 := by kernel_rfl
  f286 := by kernel_rfl
  f287 := by kernel_rfl
  f316 := by kernel_rfl
  f317 := by kernel_rfl
  f318 := by kernel_rfl
  f319 := by kernel_rfl
  f320 := by kernel_rfl
  f321 := by kernel_rfl
  f322 := by kernel_rfl
  f337 := by kernel_rfl
  f338 := by kernel_rfl
  t0 := Tryd.underlying0
  a0 := Tryd.isAgg0
  z0 := Tryd.sizeOf0
  v0 := Tryd.zeroValue0
  t2 := Tryd.underlying2
  a2 := Tryd.isAgg2
  z2 := Tryd.sizeOf2
  v2 := Tryd.zeroValue2
  t3 := Tryd.underlying3
  a3 := Tryd.isAgg3
  z3 := Tryd.sizeOf3
  v3 := Tryd.zeroValue3
  t4 := Tryd.underlying4
  a4 := Tryd.isAgg4
  z4 := Tryd.sizeOf4
  v4 := Tryd.zeroValue4
  t5 := Tryd.underlying5
  a5 := Tryd.isAgg5
  z5 := Tryd.sizeOf5
  v5 := Tryd.zeroValue5
  t9 := Tryd.underlying9
  a9 := Tryd.isAgg9
  z9 := Tryd.sizeOf9
  v9 := Tryd.zeroValue9
  t20 := Tryd.underlying20
  a20 := Tryd.isAgg20
  z20 := Tryd.sizeOf20
  v20 := Tryd.zeroValue20
  t21 := Tryd.underlying21
  a21 := Tryd.isAgg21
  z21 := Tryd.sizeOf21
  v21 := Tryd.zeroValue21
  t37 := Tryd.underlying50
  a37 := Tryd.isAgg50
  z37 := Tryd.sizeOf50
  v37 := Tryd.zeroValue50
  t46 := Tryd.underlying63
  a46 := Tryd.isAgg63
  z46 := Tryd.sizeOf63
  v46 := Tryd.zeroValue63
  t51 := Tryd.underlying84
  a51 := Tryd.isAgg84
  z51 := Tryd.sizeOf84
  v51 := Tryd.zeroValue84
  t53 := Tryd.underlying60
  a53 := Tryd.isAgg60
  z53 := Tryd.sizeOf60
  v53 := Tryd.zeroValue60
  t75 := Tryd.underlying35
  a75 := Tryd.isAgg35
  z75 := Tryd.sizeOf35
  v75 := Tryd.zeroValue35
  t76 := Tryd.underlying36
  a76 := Tryd.isAgg36
  z76 := Tryd.sizeOf36
  v76 := Tryd.zeroValue36
  t85 := Tryd.underlying51
  a85 := Tryd.isAgg51
  z85 := Tryd.sizeOf51
  v85 := Tryd.zeroValue51
  t127 := Tryd.underlying71
  a127 := Tryd.isAgg71
  z127 := Tryd.sizeOf71
  v127 := Tryd.zeroValue71
  t143 := Tryd.underlying72
  a143 := Tryd.isAgg72
  z143 := Tryd.sizeOf72
  v143 := Tryd.zeroValue72
  t145 := Tryd.underlying74
  a145 := Tryd.isAgg74
  z145 := Tryd.sizeOf74
  v145 := Tryd.zeroValue74
  t167 := Tryd.underlying49
  a167 := Tryd.isAgg49
  z167 := Tryd.sizeOf49
  v167 := Tryd.zeroValue49
  t168 := Tryd.underlying53
  a168 := Tryd.isAgg53
  z168 := Tryd.sizeOf53
  v168 := Tryd.zeroValue53
  t171 := Tryd.underlying75
  a171 := Tryd.isAgg75
  z171 := Tryd.sizeOf75
  v171 := Tryd.zeroValue75
  t173 := Tryd.underlying78
  a173 := Tryd.isAgg78
  z173 := Tryd.sizeOf78
  v173 := Tryd.zeroValue78
  t175 := Tryd.underlying61
  a175 := Tryd.isAgg61
  z175 := Tryd.sizeOf61
  v175 := Tryd.zeroValue61
  t210 := Tryd.underlying66
  a210 := Tryd.isAgg66
  z210 := Tryd.sizeOf66
  v210 := Tryd.zeroValue66
  t212 := Tryd.underlying88
  a212 := Tryd.isAgg88
  z212 := Tryd.sizeOf88
  v212 := Tryd.zeroValue88
  t213 := Tryd.underlying89
  a213 := Tryd.isAgg89
  z213 := Tryd.sizeOf89
  t232 := Tryd.underlying93
  a232 := Tryd.isAgg93
  z232 := Tryd.sizeOf93
  v232 := Tryd.zeroValue93
  t233 := Tryd.underlying94
  a233 := Tryd.isAgg94
  z233 := Tryd.sizeOf94
  v233 := Tryd.zeroValue94
  g15 := by kernel_rfl
  g16 := by kernel_rfl
  g17 := by kernel_rfl
  g18 := by kernel_rfl
  g19 := by kernel_rfl
theorem laysM_n172 : LaysM.n172 Tryd.prog ren_n172 := { lays_n172 with
  t80 := Tryd.underlying95,
  a80 := Tryd.isAgg95,
  z80 := Tryd.sizeOf95,
  v80 := Tryd.zeroValue95,
  i0 := by kernel_rfl,
  i2 := by kernel_rfl,
  i3 := by kernel_rfl,
  i4 := by kernel_rfl,
  i5 := by kernel_rfl,
  i9 := by kernel_rfl,
  i20 := by kernel_rfl,
  i21 := by kernel_rfl,
  i37 := by kernel_rfl,
  i46 := by kernel_rfl,
  i51 := by kernel_rfl,
  i53 := by kernel_rfl,
  i75 := by kernel_rfl,
  i76 := by kernel_rfl,
  i80 := by kernel_rfl,
  i85 := by kernel_rfl,
  i127 := by kernel_rfl,
  i143 := by kernel_rfl,
  i145 := by kernel_rfl,
  i167 := by kernel_rfl,
  i168 := by kernel_rfl,
  i171 := by kernel_rfl,
  i173 := by kernel_rfl,
  i175 := by kernel_rfl,
  i210 := by kernel_rfl,
  i212 := by kernel_rfl,
  i232 := by kernel_rfl,
  i233 := by kernel_rfl,
  m15 := by kernel_rfl,
  m16 := by kernel_rfl,
  m17 := by kernel_rfl,
  m18 := by kernel_rfl,
  m19 := by kernel_rfl }

theorem laysC_n172 : LaysC.n172 Tryd.prog ren_n172 := { laysM_n172 with
  c0 := by kernel_rfl,
  c2 := by kernel_rfl,
  c3 := by kernel_rfl,
  c4 := by kernel_rfl,
  c5 := by kernel_rfl,
  c9 := by kernel_rfl,
  c20 := by kernel_rfl,
  c21 := by kernel_rfl,
  c37 := by kernel_rfl,
  c46 := by kernel_rfl,
  c51 := by kernel_rfl,
  c53 := by kernel_rfl,
  c75 := by kernel_rfl,
  c76 := by kernel_rfl,
  c80 := by kernel_rfl,
  c85 := by kernel_rfl,
  c127 := by kernel_rfl,
  c143 := by kernel_rfl,
  c145 := by kernel_rfl,
  c167 := by kernel_rfl,
  c168 := by kernel_rfl,
  c171 := by kernel_rfl,
  c173 := by kernel_rfl,
  c175 := by kernel_rfl,
  c210 := by kernel_rfl,
  c212 := by kernel_rfl,
  c213 := by kernel_rfl,
  c232 := by kernel_rfl,
  c233 := by kernel_rfl }
def bs (l : List UInt8) : ByteArray := ⟨l.toArray⟩
theorem bs_data (s : ByteArray) : bs s.data.toList = s := Lib.mk_data s
theorem data_bs (l : List UInt8) : (bs l).data.toList = l := rfl
theorem split_words (s : ByteArray) : Lib.splitB ⟨#[32]⟩ 0 (Lib.countB s ⟨#[32]⟩) s = (Rd.cutL 32 s.data.toList).map bs := by
  have h := Lib.splitB_data ⟨#[32]⟩ 0 (Lib.countB s ⟨#[32]⟩) s
  have h2 : Lib.splitK [32] 0 (Lib.count s.data.toList [32]) s.data.toList = Rd.cutL 32 s.data.toList := Rd.splitK_cut 32 _
  have h3 : (Lib.splitB ⟨#[32]⟩ 0 (Lib.countB s ⟨#[32]⟩) s).map (·.data.toList) = Rd.cutL 32 s.data.toList := h.trans h2
  rw [← h3, List.map_map]
  conv => lhs; rw [← List.map_id (Lib.splitB ⟨#[32]⟩ 0 (Lib.countB s ⟨#[32]⟩) s)]
  exact List.map_congr_left fun x _ => (bs_data x).symm
theorem callSplit (s : ByteArray) (hs : s.size ≤ 1048576) {L : List (List UInt8)} (hL : Rd.cutL 32 s.data.toList = L) {w W : World} (hp : Pre w.heap.size w) (hb : Below w.heap.size w W) :
    Calls Tryd.prog 12 #[.string s, .string ⟨#[32]⟩] W fun e W' => e = .returned (.slice (some ⟨W.heap.size, 0, none⟩) L.length L.length) ∧ W' = W.alloc (.cells (L.map fun l => Value.string (bs l)).toArray 9) := by
  obtain ⟨m, hm⟩ := (hp.below hb).mx
  have hw := split_words s
  have hn := Lib.splitB_all ⟨#[32]⟩ (by decide) 0 _ s rfl
  rw [hw, hL, List.length_map] at hn
  refine (Any.strings_Split lays_n146 (by kernel_rfl) s ⟨#[32]⟩ m W (by omega) hm (by decide)).mono ?_
  rintro e W' ⟨rfl, rfl⟩
  rw [hw, hL, ← hn, List.map_map]
  exact ⟨rfl, rfl⟩
theorem callAtoi (s : ByteArray) (hs : s.size ≤ 1048576) {w W : World} (hp : Pre w.heap.size w) (hb : Below w.heap.size w W) :
    Calls Tryd.prog 13 #[.string s] W fun e W' => ((∃ a, Lib.atoiAll s.data.toList = .ok a ∧ e = .returned (.tuple #[.int .i64 a, .nilIface])) ∨ ((∀ a, Lib.atoiAll s.data.toList ≠ .ok a) ∧ ∃ z t p, e = .returned (.tuple #[.int .i64 z, .iface t p]))) ∧ Below W.heap.size W W' := by
  have hp' := hp.below hb
  cases h : Lib.atoiAll s.data.toList
  · rename_i v
    refine (Any.strconv_Atoi_ok laysC_n172 s (by omega) v h W).mono ?_
    rintro e W' ⟨rfl, h2⟩
    refine ⟨.inl ⟨v, rfl, rfl⟩, ?_⟩
    rcases h2 with rfl | ⟨t, rfl⟩
    · exact Below.refl _ _
    · exact Lib.bytesWorld_below _ _ _
  · obtain ⟨tp, p, hv⟩ := hp'.syn
    refine (Any.strconv_Atoi_syntax_var laysC_n172 s (by omega) h tp p W hv).mono ?_
    rintro e W' ⟨N, rfl, _, _, h2⟩
    exact ⟨.inr ⟨(fun a e => by cases e), _, _, _, rfl⟩, h2⟩
  · obtain ⟨tp, p, hv⟩ := hp'.ran
    refine (Any.strconv_Atoi_range_var laysC_n172 s (by omega) h tp p W hv).mono ?_
    rintro e W' ⟨N, rfl, _, _, h2⟩
    exact ⟨.inr ⟨(fun a e => by cases e), _, _, _, rfl⟩, h2⟩
theorem callSay {x : GSay} (hx : SayOk x) {w W : World} (hp : Pre w.heap.size w) (hb : Below w.heap.size w W) :
    Calls Tryd.prog 15 #[.agg #[.string x.name, .int .i64 x.at_, .int .i64 x.value]] W fun e W' => e = .returned (.string (sayT x)) ∧ Below W.heap.size W W' :=
  v_sayText x hx W (fun _ => False) [.agg #[.string x.name, .int .i64 x.at_, .int .i64 x.value]] ⟨fun _ h => h.elim, (hp.below hb).mono hb.size⟩ ⟨_, _, rfl, ⟨_, rfl, _, _, rfl, ⟨rfl, Nat.le_trans hx.name (by decide)⟩, _, _, rfl, rfl, _, _, rfl, rfl, rfl⟩, rfl⟩
theorem callIsSay (x : GSay) (hn : x.name.size ≤ 1048576) {w W : World} (hp : Pre w.heap.size w) (hb : Below w.heap.size w W) :
    Calls Tryd.prog 14 #[.agg #[.string x.name, .int .i64 x.at_, .int .i64 x.value]] W fun e W' => e = .returned (.bool (sayB x)) ∧ Below W.heap.size W W' :=
  v_isSay x W (fun _ => False) [.agg #[.string x.name, .int .i64 x.at_, .int .i64 x.value]] ⟨fun _ h => h.elim, (hp.below hb).mono hb.size⟩ ⟨_, _, rfl, ⟨_, rfl, _, _, rfl, ⟨rfl, Nat.le_trans hn (by decide)⟩, _, _, rfl, rfl, _, _, rfl, rfl, rfl⟩, rfl⟩
-- what both sides answer
def zeroSay : GSay := ⟨⟨#[]⟩, 0, 0⟩
def rdSay (w0 w1 w2 : List UInt8) : GSay := ⟨bs w0, (Rd.intL w1).1, (Rd.intL w2).1⟩
def rdOk (w0 w1 w2 : List UInt8) : Bool := ((Rd.intL w1).2 && (Rd.intL w2).2) && sayB (rdSay w0 w1 w2)
def readV (s : ByteArray) : GSay × Bool :=
  match Rd.cutL 32 s.data.toList with
  | [w0, w1, w2] => if rdOk w0 w1 w2 = true then (rdSay w0 w1 w2, true) else (zeroSay, false)
  | _ => (zeroSay, false)
theorem sayT_data (x : GSay) : (sayT x).data.toList = x.name.data.toList ++ 32 :: (Lib.itoa x.at_ ++ 32 :: Lib.itoa x.value) := by
  unfold sayT itoaB
  simp
theorem sayB_num {x : GSay} (h : sayB x = true) : (-1000000000 ≤ x.at_ ∧ x.at_ ≤ 1000000000) ∧ (-1000000000 ≤ x.value ∧ x.value ≤ 1000000000) := by
  unfold sayB at h
  simp only [Bool.cond_false_right, Bool.and_eq_true] at h
  obtain ⟨⟨h1, h2⟩, h3⟩ := h
  obtain ⟨a1, a2⟩ := inB_true h2
  obtain ⟨b1, b2⟩ := inB_true h3
  omega
theorem rd_true {s : ByteArray} {w0 w1 w2 : List UInt8} (hL : Rd.cutL 32 s.data.toList = [w0, w1, w2]) (h : rdOk w0 w1 w2 = true) :
    Lib.atoiAll w1 = .ok (rdSay w0 w1 w2).at_ ∧ Lib.atoiAll w2 = .ok (rdSay w0 w1 w2).value ∧ sayB (rdSay w0 w1 w2) = true ∧ sayT (rdSay w0 w1 w2) = s := by
  unfold rdOk at h
  rw [Bool.and_eq_true, Bool.and_eq_true] at h
  obtain ⟨⟨h1, h2⟩, h3⟩ := h
  obtain ⟨⟨a1, a2⟩, b1, b2⟩ := sayB_num h3
  have e1 : Lib.itoa (rdSay w0 w1 w2).at_ = w1 := Rd.intL_ok h1
  have e2 : Lib.itoa (rdSay w0 w1 w2).value = w2 := Rd.intL_ok h2
  have t1 := Rd.atoi_itoa a1 a2
  have t2 := Rd.atoi_itoa b1 b2
  rw [e1] at t1
  rw [e2] at t2
  refine ⟨t1, t2, h3, ?_⟩
  have hd := sayT_data (rdSay w0 w1 w2)
  rw [e1, e2] at hd
  have hj := (Rd.cut_three hL).1
  apply ByteArray.ext
  apply Array.ext'
  rw [hd, hj]
  rfl
theorem rd_back {s : ByteArray} {w0 w1 w2 : List UInt8} (hL : Rd.cutL 32 s.data.toList = [w0, w1, w2]) {a v : Int} (hb : sayB ⟨bs w0, a, v⟩ = true) (ht : sayT ⟨bs w0, a, v⟩ = s) :
    rdOk w0 w1 w2 = true ∧ rdSay w0 w1 w2 = ⟨bs w0, a, v⟩ := by
  obtain ⟨⟨a1, a2⟩, b1, b2⟩ := sayB_num hb
  have hd := sayT_data ⟨bs w0, a, v⟩
  rw [ht] at hd
  have hf := Rd.cut_three hL
  have h3 := Rd.three_cut (c := 32) hf.2.1 (Rd.itoa_free a (by decide)) (Rd.itoa_free v (by decide))
  have h4 : Rd.cutL 32 s.data.toList = [w0, Lib.itoa a, Lib.itoa v] := by rw [hd]; exact h3
  rw [hL] at h4
  simp only [List.cons.injEq, and_true, true_and] at h4
  obtain ⟨e1, e2⟩ := h4
  have i1 : Rd.intL w1 = (a, true) := by rw [e1]; exact Rd.intL_itoa a1 a2
  have i2 : Rd.intL w2 = (v, true) := by rw [e2]; exact Rd.intL_itoa b1 b2
  have e3 : rdSay w0 w1 w2 = ⟨bs w0, a, v⟩ := by unfold rdSay; rw [i1, i2]
  refine ⟨?_, e3⟩
  unfold rdOk
  rw [e3, i1, i2, hb]
  rfl
theorem readV_len {s : ByteArray} (h : (Rd.cutL 32 s.data.toList).length ≠ 3) : readV s = (zeroSay, false) := by
  unfold readV
  split
  · rename_i hL
    rw [hL] at h
    exact absurd rfl h
  · rfl
theorem readV_three {s : ByteArray} {w0 w1 w2 : List UInt8} (hL : Rd.cutL 32 s.data.toList = [w0, w1, w2]) : readV s = if rdOk w0 w1 w2 = true then (rdSay w0 w1 w2, true) else (zeroSay, false) := by
  unfold readV
  rw [hL]
theorem readV_no {s : ByteArray} {w0 w1 w2 : List UInt8} (hL : Rd.cutL 32 s.data.toList = [w0, w1, w2]) (h : rdOk w0 w1 w2 = false) : readV s = (zeroSay, false) := by
  rw [readV_three hL, if_neg (by rw [h]; decide)]
theorem readV_yes {s : ByteArray} {w0 w1 w2 : List UInt8} (hL : Rd.cutL 32 s.data.toList = [w0, w1, w2]) {a v : Int} (hb : sayB ⟨bs w0, a, v⟩ = true) (ht : sayT ⟨bs w0, a, v⟩ = s) : readV s = (⟨bs w0, a, v⟩, true) := by
  obtain ⟨h1, h2⟩ := rd_back hL hb ht
  rw [readV_three hL, if_pos h1, h2]
theorem rd_no {s : ByteArray} {w0 w1 w2 : List UInt8} (hL : Rd.cutL 32 s.data.toList = [w0, w1, w2]) (h : ¬ (∃ a v, Lib.atoiAll w1 = .ok a ∧ Lib.atoiAll w2 = .ok v ∧ sayB ⟨bs w0, a, v⟩ = true ∧ sayT ⟨bs w0, a, v⟩ = s)) : readV s = (zeroSay, false) := by
  refine readV_no hL ?_
  cases hr : rdOk w0 w1 w2 with
  | false => rfl
  | true => exact absurd ⟨_, _, rd_true hL hr⟩ h
end Go.Proofs.YticinemcmgggpabDoor

/-
  The program's readSay.
-/
namespace Go.Proofs.YticinemcmgggpabDoor
open Go.Proofs Go.Shelf
open Go.ChangeShapes Go.WideShapes Go.ChangeAt Go.RowKit Go.BigFrame Go.Deep
set_option linter.unusedVariables false
set_option linter.unusedSimpArgs false

theorem callAtoiOk {s : ByteArray} (hs : s.size ≤ 1048576) {a : Int} (h : Lib.atoiAll s.data.toList = .ok a) {w W : World} (hp : Pre w.heap.size w) (hb : Below w.heap.size w W) :
    Calls Tryd.prog 13 #[.string s] W fun e W' => e = .returned (.tuple #[.int .i64 a, .nilIface]) ∧ Below W.heap.size W W' := by
  refine (callAtoi s hs hp hb).mono ?_
  rintro e W' ⟨⟨b, hb, rfl⟩ | ⟨hn, _⟩, h2⟩
  · rw [h] at hb
    cases hb
    exact ⟨rfl, h2⟩
  · exact absurd h (hn a)
theorem callAtoiNo {s : ByteArray} (hs : s.size ≤ 1048576) (h : ∀ a, Lib.atoiAll s.data.toList ≠ .ok a) {w W : World} (hp : Pre w.heap.size w) (hb : Below w.heap.size w W) :
    Calls Tryd.prog 13 #[.string s] W fun e W' => (∃ z t p, e = .returned (.tuple #[.int .i64 z, .iface t p])) ∧ Below W.heap.size W W' := by
  refine (callAtoi s hs hp hb).mono ?_
  rintro e W' ⟨⟨b, hb, rfl⟩ | ⟨_, h1⟩, h2⟩
  · exact absurd hb (h b)
  · exact ⟨h1, h2⟩
theorem ba_beq_t {a b : ByteArray} (h : a = b) : (a.toList == b.toList) = true := by rw [h]; simp
theorem ba_beq_f {a b : ByteArray} (h : a ≠ b) : (a.toList == b.toList) = false := by
  rw [beq_eq_false_iff_ne]
  intro e
  exact h (ba_inj.1 e)
set_option maxHeartbeats 2000000 in
set_option maxRecDepth 100000 in
theorem v_readSay (s : ByteArray) (hs : s.size ≤ 1048576) : Fn Tryd.prog 8 [.one (.str s)] (.tup2 (.agg [.str (readV s).1.name, .int .i64 (readV s).1.at_, .int .i64 (readV s).1.value]) (.one (.bool (readV s).2))) := by
  intro w S vs hS hd
  obtain ⟨v, vs1, rfl, h1, h2⟩ := hd
  obtain rfl : vs1 = [] := h2
  obtain ⟨rfl, _⟩ := h1
  have hb0 : Below w.heap.size w (w.alloc (.cells #[.string ⟨#[]⟩, .int .i64 0, .int .i64 0] 23)) := (Below.refl _ w).alloc (Nat.le_refl _) _
  by_cases h3 : (Rd.cutL 32 s.data.toList).length = 3
  · obtain ⟨w0, w1, w2, hL⟩ : ∃ w0 w1 w2, Rd.cutL 32 s.data.toList = [w0, w1, w2] := by
      match hc : Rd.cutL 32 s.data.toList, h3 with
      | [w0, w1, w2], _ => exact ⟨w0, w1, w2, rfl⟩
    clear h3
    have hsz : s.size = w0.length + (1 + (w1.length + (1 + w2.length))) := by
      rw [Lib.size_eq, (Rd.cut_three hL).1]
      simp
      omega
    have hz0 : (bs w0).size ≤ 1048576 := by show w0.toArray.size ≤ _; simp; omega
    have hz1 : (bs w1).size ≤ 1048576 := by show w1.toArray.size ≤ _; simp; omega
    have hz2 : (bs w2).size ≤ 1048576 := by show w2.toArray.size ≤ _; simp; omega
    clear hsz
    have hbW1 : Below w.heap.size w ((w.alloc (.cells #[.string ⟨#[]⟩, .int .i64 0, .int .i64 0] 23)).alloc (.cells #[.string (bs w0), .string (bs w1), .string (bs w2)] 9)) := hb0.alloc hb0.size _
    have hR1 : ((w.alloc (.cells #[.string ⟨#[]⟩, .int .i64 0, .int .i64 0] 23)).alloc (.cells #[.string (bs w0), .string (bs w1), .string (bs w2)] 9)).heap[w.heap.size]? = some (.cells #[.string ⟨#[]⟩, .int .i64 0, .int .i64 0] 23) :=
      (Lib.alloc_old _ _ _ (by simp)).trans (by show (w.heap.push _)[w.heap.size]? = _; simp)
    have hC1 : ((w.alloc (.cells #[.string ⟨#[]⟩, .int .i64 0, .int .i64 0] 23)).alloc (.cells #[.string (bs w0), .string (bs w1), .string (bs w2)] 9)).heap[w.heap.size + 1]? = some (.cells #[.string (bs w0), .string (bs w1), .string (bs w2)] 9) := by
      show ((w.heap.push _).push _)[w.heap.size + 1]? = _
      rw [Array.getElem?_push, if_pos (by simp)]
    have hc10 := Lib.cell_of_heap hC1 0
    have hc12 := Lib.cell_of_heap hC1 2
    have hl1 : w.heap.size < ((w.alloc (.cells #[.string ⟨#[]⟩, .int .i64 0, .int .i64 0] 23)).alloc (.cells #[.string (bs w0), .string (bs w1), .string (bs w2)] 9)).heap.size := by simp; omega
    have hl1b : w.heap.size + 1 < ((w.alloc (.cells #[.string ⟨#[]⟩, .int .i64 0, .int .i64 0] 23)).alloc (.cells #[.string (bs w0), .string (bs w1), .string (bs w2)] 9)).heap.size := by simp
    clear hC1
    by_cases hA1 : ∃ a, Lib.atoiAll w1 = .ok a
    · obtain ⟨a, hA1⟩ := hA1
      by_cases hA2 : ∃ v, Lib.atoiAll w2 = .ok v
      · obtain ⟨v, hA2⟩ := hA2
        have hA1' : Lib.atoiAll (bs w1).data.toList = .ok a := (congrArg Lib.atoiAll (data_bs w1)).trans hA1
        have hA2' : Lib.atoiAll (bs w2).data.toList = .ok v := (congrArg Lib.atoiAll (data_bs w2)).trans hA2
        have hcall1 := callAtoiOk hz1 hA1' hS.pre hbW1
        go_enter Tryd.func8, Tryd.ntmps8
        go_wp2_with (go_at_call 12; refine (callSplit s hs hL hS.pre hb0).mono ?_; rintro e w1 ⟨rfl, rfl⟩)
        go_wp2_with fail
        refine hcall1.mono ?_
        rintro e w3 ⟨rfl, g3⟩
        have c30 := (g3.cell (p := ⟨w.heap.size + 1, 0, none⟩) hl1b).trans hc10
        have c32 := (g3.cell (p := ⟨w.heap.size + 1, 2, none⟩) hl1b).trans hc12
        have hR3 := (g3.block _ hl1).trans hR1
        have hl3 := Nat.lt_of_lt_of_le hl1 g3.size
        have hl3b := Nat.lt_of_lt_of_le hl1b g3.size
        have hbw3 := hbW1.trans (g3.mono hbW1.size)
        go_wp2_with fail
        have hcall2 := callAtoiOk hz2 hA2' hS.pre hbw3
        refine hcall2.mono ?_
        rintro e w4 ⟨rfl, g4⟩
        have c0 : w4.cell? ⟨w.heap.size + 1, 0, none⟩ = some (.string (bs w0)) := (g4.cell hl3b).trans c30
        have hR4 := (g4.block _ hl3).trans hR3
        have hlt4 := Nat.lt_of_lt_of_le hl3 g4.size
        have hbw4 := hbw3.trans (g4.mono hbw3.size)
        have hbw5 : Below w.heap.size w (w4.alloc (.cells #[.string (bs w0), .int .i64 a, .int .i64 v] 23)) := hbw4.alloc hbw4.size _
        have hcall3 := callIsSay ⟨bs w0, a, v⟩ hz0 hS.pre hbw5
        go_wp2_with fail
        refine hcall3.mono ?_
        rintro e w5 ⟨rfl, g5⟩
        have hbw6 := hbw5.trans (g5.mono hbw5.size)
        have hR5 := (g5.block w.heap.size (by simp; omega)).trans ((Lib.alloc_old _ _ _ hlt4).trans hR4)
        have hX5 : w5.heap[w4.heap.size]? = some (.cells #[.string (bs w0), .int .i64 a, .int .i64 v] 23) := (g5.block _ (by simp)).trans (by show (w4.heap.push _)[w4.heap.size]? = _; simp)
        have hlt5 : w.heap.size < w5.heap.size := Nat.lt_of_lt_of_le (by simp; omega) g5.size
        have hlx5 : w4.heap.size < w5.heap.size := Nat.lt_of_lt_of_le (by simp) g5.size
        have x0 := Lib.cell_of_heap hX5 0
        have x1 := Lib.cell_of_heap hX5 1
        have x2 := Lib.cell_of_heap hX5 2
        cases hB : sayB ⟨bs w0, a, v⟩ with
        | false =>
          have hV := rd_no hL (fun ⟨a', v', e1, e2, e3, e4⟩ => by rw [hA1] at e1; rw [hA2] at e2; cases e1; cases e2; rw [hB] at e3; cases e3)
          have r0_5 := Lib.cell_of_heap hR5 0
          have f0_5 := Lib.frozen_of_heap hR5 0
          have r1_5 := Lib.cell_of_heap hR5 1
          have f1_5 := Lib.frozen_of_heap hR5 1
          have r2_5 := Lib.cell_of_heap hR5 2
          have f2_5 := Lib.frozen_of_heap hR5 2
          go_wp2_with fail
          refine bodyPost_ret (v := .tuple #[.agg #[.string ⟨#[]⟩, .int .i64 0, .int .i64 0], .bool false]) (by simp [results, Tryd.results8, go_sem, *]) rfl ⟨by rw [hV]; rfl, ?_⟩
          repeat first | exact hbw6 | apply Below.drew | refine Below.alloc ?_ (by simp <;> omega) _ | refine Below.setCell ?_ (by simp <;> omega) _
        | true =>
          have hcall4 := callSay (sayB_ok hB) hS.pre hbw6
          go_wp2_with fail
          refine hcall4.mono ?_
          rintro e w6 ⟨rfl, g6⟩
          have hbw7 := hbw6.trans (g6.mono hbw6.size)
          have hR6 := (g6.block _ hlt5).trans hR5
          have hX6 := (g6.block _ hlx5).trans hX5
          have y0 := Lib.cell_of_heap hX6 0
          have y1 := Lib.cell_of_heap hX6 1
          have y2 := Lib.cell_of_heap hX6 2
          clear x0 x1 x2
          have r0_6 := Lib.cell_of_heap hR6 0
          have f0_6 := Lib.frozen_of_heap hR6 0
          have r1_6 := Lib.cell_of_heap hR6 1
          have f1_6 := Lib.frozen_of_heap hR6 1
          have r2_6 := Lib.cell_of_heap hR6 2
          have f2_6 := Lib.frozen_of_heap hR6 2
          by_cases hT : sayT ⟨bs w0, a, v⟩ = s
          · have hV := readV_yes hL hB hT
            have hT1 := ba_beq_t hT
            go_wp2_with fail
            refine bodyPost_ret (v := .tuple #[.agg #[.string (bs w0), .int .i64 a, .int .i64 v], .bool true]) (by simp [results, Tryd.results8, go_sem, *]) rfl ⟨by rw [hV]; rfl, ?_⟩
            repeat first | exact hbw7 | apply Below.drew | refine Below.alloc ?_ (by simp <;> omega) _ | refine Below.setCell ?_ (by simp <;> omega) _
          · have hV := rd_no hL (fun ⟨a', v', e1, e2, e3, e4⟩ => by rw [hA1] at e1; rw [hA2] at e2; cases e1; cases e2; exact hT e4)
            have hT1 := ba_beq_f hT
            go_wp2_with fail
            refine bodyPost_ret (v := .tuple #[.agg #[.string ⟨#[]⟩, .int .i64 0, .int .i64 0], .bool false]) (by simp [results, Tryd.results8, go_sem, *]) rfl ⟨by rw [hV]; rfl, ?_⟩
            repeat first | exact hbw7 | apply Below.drew | refine Below.alloc ?_ (by simp <;> omega) _ | refine Below.setCell ?_ (by simp <;> omega) _
      · have hA2 : ∀ v, Lib.atoiAll w2 ≠ .ok v := fun v e => hA2 ⟨v, e⟩
        have hA1' : Lib.atoiAll (bs w1).data.toList = .ok a := (congrArg Lib.atoiAll (data_bs w1)).trans hA1
        have hA2' : ∀ v, Lib.atoiAll (bs w2).data.toList ≠ .ok v := hA2
        have hV := rd_no hL (fun ⟨a, v, e1, e2, _⟩ => hA2 v e2)
        have hcall1 := callAtoiOk hz1 hA1' hS.pre hbW1
        go_enter Tryd.func8, Tryd.ntmps8
        go_wp2_with (go_at_call 12; refine (callSplit s hs hL hS.pre hb0).mono ?_; rintro e w1 ⟨rfl, rfl⟩)
        go_wp2_with fail
        refine hcall1.mono ?_
        rintro e w3 ⟨rfl, g3⟩
        have c30 := (g3.cell (p := ⟨w.heap.size + 1, 0, none⟩) hl1b).trans hc10
        have c32 := (g3.cell (p := ⟨w.heap.size + 1, 2, none⟩) hl1b).trans hc12
        have hR3 := (g3.block _ hl1).trans hR1
        have hl3 := Nat.lt_of_lt_of_le hl1 g3.size
        have hl3b := Nat.lt_of_lt_of_le hl1b g3.size
        have hbw3 := hbW1.trans (g3.mono hbW1.size)
        go_wp2_with fail
        have hcall2 := callAtoiNo hz2 hA2' hS.pre hbw3
        refine hcall2.mono ?_
        rintro e w4 ⟨⟨z2, t2, p2, rfl⟩, g4⟩
        have c0 : w4.cell? ⟨w.heap.size + 1, 0, none⟩ = some (.string (bs w0)) := (g4.cell hl3b).trans c30
        have hR4 := (g4.block _ hl3).trans hR3
        have hlt4 := Nat.lt_of_lt_of_le hl3 g4.size
        have hbw4 := hbw3.trans (g4.mono hbw3.size)
        have r0_4 := Lib.cell_of_heap hR4 0
        have f0_4 := Lib.frozen_of_heap hR4 0
        have r1_4 := Lib.cell_of_heap hR4 1
        have f1_4 := Lib.frozen_of_heap hR4 1
        have r2_4 := Lib.cell_of_heap hR4 2
        have f2_4 := Lib.frozen_of_heap hR4 2
        go_wp2_with fail
        refine bodyPost_ret (v := .tuple #[.agg #[.string ⟨#[]⟩, .int .i64 0, .int .i64 0], .bool false]) (by simp [results, Tryd.results8, go_sem, *]) rfl ⟨by rw [hV]; rfl, ?_⟩
        repeat first | exact hbw4 | apply Below.drew | refine Below.alloc ?_ (by simp <;> omega) _ | refine Below.setCell ?_ (by simp <;> omega) _
    · have hA1 : ∀ a, Lib.atoiAll w1 ≠ .ok a := fun a e => hA1 ⟨a, e⟩
      have hA1' : ∀ a, Lib.atoiAll (bs w1).data.toList ≠ .ok a := hA1
      by_cases hA2 : ∃ v, Lib.atoiAll w2 = .ok v
      · obtain ⟨v, hA2⟩ := hA2
        have hA2' : Lib.atoiAll (bs w2).data.toList = .ok v := (congrArg Lib.atoiAll (data_bs w2)).trans hA2
        have hV := rd_no hL (fun ⟨a, v, e1, e2, _⟩ => hA1 a e1)
        have hcall1 := callAtoiNo hz1 hA1' hS.pre hbW1
        go_enter Tryd.func8, Tryd.ntmps8
        go_wp2_with (go_at_call 12; refine (callSplit s hs hL hS.pre hb0).mono ?_; rintro e w1 ⟨rfl, rfl⟩)
        go_wp2_with fail
        refine hcall1.mono ?_
        rintro e w3 ⟨⟨z1, t1, p1, rfl⟩, g3⟩
        have c30 := (g3.cell (p := ⟨w.heap.size + 1, 0, none⟩) hl1b).trans hc10
        have c32 := (g3.cell (p := ⟨w.heap.size + 1, 2, none⟩) hl1b).trans hc12
        have hR3 := (g3.block _ hl1).trans hR1
        have hl3 := Nat.lt_of_lt_of_le hl1 g3.size
        have hl3b := Nat.lt_of_lt_of_le hl1b g3.size
        have hbw3 := hbW1.trans (g3.mono hbW1.size)
        go_wp2_with fail
        have hcall2 := callAtoiOk hz2 hA2' hS.pre hbw3
        refine hcall2.mono ?_
        rintro e w4 ⟨rfl, g4⟩
        have c0 : w4.cell? ⟨w.heap.size + 1, 0, none⟩ = some (.string (bs w0)) := (g4.cell hl3b).trans c30
        have hR4 := (g4.block _ hl3).trans hR3
        have hlt4 := Nat.lt_of_lt_of_le hl3 g4.size
        have hbw4 := hbw3.trans (g4.mono hbw3.size)
        have r0_4 := Lib.cell_of_heap hR4 0
        have f0_4 := Lib.frozen_of_heap hR4 0
        have r1_4 := Lib.cell_of_heap hR4 1
        have f1_4 := Lib.frozen_of_heap hR4 1
        have r2_4 := Lib.cell_of_heap hR4 2
        have f2_4 := Lib.frozen_of_heap hR4 2
        go_wp2_with fail
        refine bodyPost_ret (v := .tuple #[.agg #[.string ⟨#[]⟩, .int .i64 0, .int .i64 0], .bool false]) (by simp [results, Tryd.results8, go_sem, *]) rfl ⟨by rw [hV]; rfl, ?_⟩
        repeat first | exact hbw4 | apply Below.drew | refine Below.alloc ?_ (by simp <;> omega) _ | refine Below.setCell ?_ (by simp <;> omega) _
      · have hA2 : ∀ v, Lib.atoiAll w2 ≠ .ok v := fun v e => hA2 ⟨v, e⟩
        have hA2' : ∀ v, Lib.atoiAll (bs w2).data.toList ≠ .ok v := hA2
        have hV := rd_no hL (fun ⟨a, v, e1, e2, _⟩ => hA1 a e1)
        have hcall1 := callAtoiNo hz1 hA1' hS.pre hbW1
        go_enter Tryd.func8, Tryd.ntmps8
        go_wp2_with (go_at_call 12; refine (callSplit s hs hL hS.pre hb0).mono ?_; rintro e w1 ⟨rfl, rfl⟩)
        go_wp2_with fail
        refine hcall1.mono ?_
        rintro e w3 ⟨⟨z1, t1, p1, rfl⟩, g3⟩
        have c30 := (g3.cell (p := ⟨w.heap.size + 1, 0, none⟩) hl1b).trans hc10
        have c32 := (g3.cell (p := ⟨w.heap.size + 1, 2, none⟩) hl1b).trans hc12
        have hR3 := (g3.block _ hl1).trans hR1
        have hl3 := Nat.lt_of_lt_of_le hl1 g3.size
        have hl3b := Nat.lt_of_lt_of_le hl1b g3.size
        have hbw3 := hbW1.trans (g3.mono hbW1.size)
        go_wp2_with fail
        have hcall2 := callAtoiNo hz2 hA2' hS.pre hbw3
        refine hcall2.mono ?_
        rintro e w4 ⟨⟨z2, t2, p2, rfl⟩, g4⟩
        have c0 : w4.cell? ⟨w.heap.size + 1, 0, none⟩ = some (.string (bs w0)) := (g4.cell hl3b).trans c30
        have hR4 := (g4.block _ hl3).trans hR3
        have hlt4 := Nat.lt_of_lt_of_le hl3 g4.size
        have hbw4 := hbw3.trans (g4.mono hbw3.size)
        have r0_4 := Lib.cell_of_heap hR4 0
        have f0_4 := Lib.frozen_of_heap hR4 0
        have r1_4 := Lib.cell_of_heap hR4 1
        have f1_4 := Lib.frozen_of_heap hR4 1
        have r2_4 := Lib.cell_of_heap hR4 2
        have f2_4 := Lib.frozen_of_heap hR4 2
        go_wp2_with fail
        refine bodyPost_ret (v := .tuple #[.agg #[.string ⟨#[]⟩, .int .i64 0, .int .i64 0], .bool false]) (by simp [results, Tryd.results8, go_sem, *]) rfl ⟨by rw [hV]; rfl, ?_⟩
        repeat first | exact hbw4 | apply Below.drew | refine Below.alloc ?_ (by simp <;> omega) _ | refine Below.setCell ?_ (by simp <;> omega) _
  · have hne : (((Rd.cutL 32 s.data.toList).length : Int) != 3) = true := by
      rw [bne_iff_ne]; omega
    have hV := readV_len h3
    go_enter Tryd.func8, Tryd.ntmps8
    go_wp2_with (go_at_call 12; refine (callSplit s hs rfl hS.pre hb0).mono ?_; rintro e w1 ⟨rfl, rfl⟩)
    go_wp2_with fail
    refine bodyPost_ret (v := .tuple #[.agg #[.string ⟨#[]⟩, .int .i64 0, .int .i64 0], .bool false]) (by simp [results, Tryd.results8, go_sem]) rfl ⟨by rw [hV]; rfl, ?_⟩
    repeat first | exact hb0 | apply Below.drew | refine Below.alloc ?_ (by simp <;> omega) _ | refine Below.setCell ?_ (by simp <;> omega) _
end Go.Proofs.YticinemcmgggpabDoor

/-
  append onto a row of the call's own, the source nil, empty or not; grow a nil slice.
-/
namespace Go.Proofs.YticinemcmgggpabDoor
open Go.ChangeShapes Go.WideShapes Go.ChangeAt Go.RowKit Go.BigFrame
set_option linter.unusedVariables false

section
variable {P : Program} (w : World)
theorem run_append_nil0 (base : Nat) (t ty e : TypeId) (i : TypeInfo) (size : Nat) (ht : P.underlying t = some (.slice e)) (hi : P.info? e = some i)
    (v : Value) (n : Nat) (xs : List Value) (hown : w.ownsRow base e size v n xs) (c : Nat) : (Builtin.append_ #[t, t] ty #[v, .slice none 0 c]).run P w = .ok v w := by
  rcases hown.2 with ⟨rfl, rfl⟩ | ⟨g, cap, cur, rfl, _, _, hnc, _⟩
  · simp [Builtin.append_, run_underlying ht, sizeOf, typeInfo, hi, Builtin.lenOf, Builtin.firstCells]
  · simp [Builtin.append_, run_underlying ht, sizeOf, typeInfo, hi, Builtin.lenOf, Builtin.firstCells, hnc, storeCells]

theorem run_append_rep (base : Nat) (t ty e : TypeId) (i : TypeInfo) (z : Value) (size bytes : Nat) (ht : P.underlying t = some (.slice e)) (hi : P.info? e = some i) (hz : i.zero = some z)
    (hsize : i.size = size) (hby : i.bytes = bytes) (hzs : z.cells.size = size) (hsz : 0 < size)
    (v : Value) (n : Nat) (xs : List Value) (hown : w.ownsRow base e size v n xs)
    (A : Option Addr) (m c : Nat) (news : List Value) (hl : news.length = m * size) (hnone : A = none → m = 0) (hcells : ∀ ad, A = some ad → ∀ j u, news[j]? = some u → w.cell? (ad.add j) = some u) (h1 : ∀ u ∈ news, u.oneCell' = true)
    (h63 : n + m ≤ maxLen) (hbytes : (n + m) * bytes ≤ 140737488355328) (hbase : base ≤ w.heap.size) :
    ∃ v' w', (Builtin.append_ #[t, t] ty #[v, .slice A m c]).run P w = .ok v' w' ∧ w'.ownsRow base e size v' (n + m) (xs ++ news) ∧ w.grownBy w' v.ownBlock ∧
      (v'.ownBlock = v.ownBlock ∨ v'.ownBlock = some w.heap.size) := by
  cases A with
  | none =>
    obtain rfl := hnone rfl
    have hn : news = [] := List.eq_nil_of_length_eq_zero (by simpa using hl)
    subst hn
    exact ⟨v, w, run_append_nil0 w base t ty e i size ht hi v n xs hown c, by simpa using hown, World.grownBy.refl w _, .inl rfl⟩
  | some ad =>
    obtain ⟨v', w', hrun, h2, h3, _, h5⟩ := run_append_own_at (P := P) w base t ty e i z size bytes ht hi hz hsize hby hzs hsz v n xs hown ad m c news hl (hcells ad rfl) h1 h63 hbytes hbase
    exact ⟨v', w', hrun, h2, h3, h5⟩

/-- 'append(v, x...)' in a plain region. -/
theorem wpList_append_rep {ops : Array Oper} {rest : List Oper} {o : Oper} {a : Act} {Q : Exit → Act → World → Prop} (hgd : o.guard = none) (s x : Operand) (t : TypeId)
    (ho : o.op = .call { callee := .builtin .append, args := #[s, x], argTypes := #[t, t] })
    (base : Nat) (e : TypeId) (i : TypeInfo) (z : Value) (size bytes : Nat) (ht : P.underlying t = some (.slice e)) (hi : P.info? e = some i) (hz : i.zero = some z)
    (hsize : i.size = size) (hby : i.bytes = bytes) (hzs : z.cells.size = size) (hsz : 0 < size)
    (v : Value) (n : Nat) (xs : List Value) (hs : a.eval s = v) (hown : w.ownsRow base e size v n xs)
    (A : Option Addr) (m c : Nat) (news : List Value) (hx : a.eval x = .slice A m c) (hl : news.length = m * size) (hnone : A = none → m = 0) (hcells : ∀ ad, A = some ad → ∀ j u, news[j]? = some u → w.cell? (ad.add j) = some u) (h1 : ∀ u ∈ news, u.oneCell' = true)
    (h63 : n + m ≤ maxLen) (hbytes : (n + m) * bytes ≤ 140737488355328) (hbase : base ≤ w.heap.size)
    (h : ∀ v' w', w'.ownsRow base e size v' (n + m) (xs ++ news) → w.grownBy w' v.ownBlock → (v'.ownBlock = v.ownBlock ∨ v'.ownBlock = some w.heap.size) → wpList P ops Q rest (a.put o.dst v') w') : wpList P ops Q (o :: rest) a w := by
  obtain ⟨v', w', hrun, h2, h3, h4⟩ := run_append_rep (P := P) w base t o.type e i z size bytes ht hi hz hsize hby hzs hsz v n xs hown A m c news hl hnone hcells h1 h63 hbytes hbase
  exact Lib.wpList_append_run w hgd s x t t ho v (.slice A m c) hs hx v' w' hrun (h v' w' h2 h3 h4)

/-- .. and the source reads as a list of flat values. -/
theorem wpList_append_list {α : Type} [Flat α] {ops : Array Oper} {rest : List Oper} {o : Oper} {a : Act} {Q : Exit → Act → World → Prop} (hgd : o.guard = none) (s x : Operand) (t : TypeId)
    (ho : o.op = .call { callee := .builtin .append, args := #[s, x], argTypes := #[t, t] })
    (base : Nat) (e : TypeId) (i : TypeInfo) (z : Value) (size bytes : Nat) (ht : P.underlying t = some (.slice e)) (hi : P.info? e = some i) (hz : i.zero = some z)
    (hsize : i.size = size) (hby : i.bytes = bytes) (hzs : z.cells.size = size) (hsz : 0 < size) (hfs : size = Flat.size α)
    (v : Value) (l : List α) (k : Nat) (hs : a.eval s = v) (hown : w.ownsRow base e size v k (encs l))
    (S : Nat → Prop) (A : Option Addr) (m c : Nat) (l' : List α) (hx : a.eval x = .slice A m c) (hr : RepL w S l' A m c)
    (hsm : k + m ≤ 1000000000) (hbm : bytes ≤ 100000) (hbase : base ≤ w.heap.size)
    (h : ∀ v' w', w'.ownsRow base e size v' (k + m) (encs (l ++ l')) → w.grownBy w' v.ownBlock → (v'.ownBlock = v.ownBlock ∨ v'.ownBlock = some w.heap.size) → wpList P ops Q rest (a.put o.dst v') w') : wpList P ops Q (o :: rest) a w :=
  wpList_append_rep w hgd s x t ho base e i z size bytes ht hi hz hsize hby hzs hsz v k (encs l) hs hown A m c (encs l') hx (by rw [encs_len, hfs, hr.1])
    (fun e => by subst e; exact hr.none_.1) (fun ad e => by subst e; exact hr.cells) (encs_one l') (by unfold maxLen; omega)
    (Nat.le_trans (Nat.mul_le_mul hsm hbm) (by omega)) hbase (fun v' w' h2 h3 h4 => h v' w' (by rw [encs_append]; exact h2) h3 h4)
end
theorem own_base {w w' : World} {base : Nat} {e : TypeId} {s n : Nat} {v : Value} {xs : List Value} {B : Nat} {a : World} (h : w.ownsRow base e s v n xs) (hb : Below B a w) (hB : B ≤ base) (hg : w.grownBy w' v.ownBlock) (hsz : B ≤ w.heap.size) : Below B a w' :=
  hb.grown hg hsz (fun k hk => Nat.le_trans hB (h.lt k hk).1)
end Go.Proofs.YticinemcmgggpabDoor

/-
  The reference's l3Split.
-/
namespace Go.Proofs.YticinemcmgggpabDoor
open Go.Proofs Go.Shelf
open Go.ChangeShapes Go.WideShapes Go.ChangeAt Go.RowKit Go.BigFrame Go.Deep
set_option linter.unusedVariables false
set_option linter.unusedSimpArgs false

theorem cut_at {c : UInt8} {l : List UInt8} {fr k : Nat} (hk : l[k]? = some c) (hle : fr ≤ k) (hno : ∀ q, fr ≤ q → q < k → l[q]? ≠ some c) :
    Rd.cutL c (l.drop fr) = (l.drop fr).take (k - fr) :: Rd.cutL c (l.drop (k + 1)) := by
  have hlt : k < l.length := (List.getElem?_eq_some_iff.1 hk).1
  have e1 : (l.drop fr).drop (k - fr) = c :: l.drop (k + 1) := by
    rw [List.drop_drop, show fr + (k - fr) = k by omega, List.drop_eq_getElem_cons hlt, (List.getElem?_eq_some_iff.1 hk).2]
  have e : l.drop fr = (l.drop fr).take (k - fr) ++ c :: l.drop (k + 1) := by
    rw [← e1, List.take_append_drop]
  conv => lhs; rw [e]
  refine Rd.cutL_app _ fun b hb eb => ?_
  obtain ⟨i, hi⟩ := List.getElem?_of_mem hb
  have hil : i < k - fr := by
    have := (List.getElem?_eq_some_iff.1 hi).1
    rw [List.length_take] at this
    omega
  rw [List.getElem?_take_of_lt hil, List.getElem?_drop] at hi
  exact hno (fr + i) (by omega) (by omega) (by rw [hi, eb])
theorem cut_end {c : UInt8} {l : List UInt8} {fr : Nat} (hno : ∀ q, fr ≤ q → q < l.length → l[q]? ≠ some c) : Rd.cutL c (l.drop fr) = [l.drop fr] := by
  refine Rd.cutL_free fun b hb eb => ?_
  obtain ⟨i, hi⟩ := List.getElem?_of_mem hb
  rw [List.getElem?_drop] at hi
  exact hno (fr + i) (by omega) ((List.getElem?_eq_some_iff.1 hi).1) (by rw [hi, eb])
theorem news_str {w : World} {v : Value} {e : TypeId} {g : Nat} (hg : g = w.heap.size) : ∀ j u, [v][j]? = some u → (w.alloc (.cells #[v] e)).cell? ((⟨g, 0, none⟩ : Addr).add j) = some u := by
  subst hg
  intro j u hj
  match j, hj with
  | 0, hj => simp at hj; subst hj; simp [Addr.add]
def strs (L : List (List UInt8)) : List Value := L.map fun l => Value.string (bs l)
theorem strs_app (L : List (List UInt8)) (x : List UInt8) : strs (L ++ [x]) = strs L ++ [.string (bs x)] := by unfold strs; simp
theorem strs_len (L : List (List UInt8)) : (strs L).length = L.length := by unfold strs; simp
theorem infoStr : (Tryd.prog.info? 9).map (fun i => (i.zero, i.size, i.bytes)) = some (some (.string ByteArray.empty), 1, 16) := by kernel_rfl
set_option maxHeartbeats 1000000 in
set_option maxRecDepth 100000 in
theorem callCut (s : ByteArray) (hs : s.size ≤ 1048576) (w : World) :
    Calls Tryd.prog 9 #[.string s, .int .u8 32] w fun e w' => ∃ v, e = .returned v ∧ w'.ownsRow w.heap.size 9 1 v (Rd.cutL 32 s.data.toList).length (strs (Rd.cutL 32 s.data.toList)) ∧ Below w.heap.size w w' := by
  obtain ⟨i0, hi, hz0, hz1, hz2⟩ := info_parts infoStr
  have hsl := Lib.size_eq s
  go_enter Tryd.func9, Tryd.ntmps9
  go_wp2_with fail
  go_loopw [5, 6, 7] (fun o f i wr => ∃ (k fr : Nat) (L : List (List UInt8)), k ≤ s.size ∧ i = .int .i64 k ∧ f = .int .i64 fr ∧ fr ≤ k ∧ wr.ownsRow w.heap.size 9 1 o L.length (strs L) ∧ Below w.heap.size w wr ∧ L.length ≤ k ∧ (∀ q, fr ≤ q → q < k → s.data.toList[q]? ≠ some 32) ∧ Rd.cutL 32 s.data.toList = L ++ Rd.cutL 32 (s.data.toList.drop fr)) (fun _ _ i _ => s.size - (intOf i).toNat)
  case atStart => exact ⟨0, 0, [], Nat.zero_le _, rfl, rfl, Nat.le_refl _, World.ownsRow_nil _ _ _ _, Below.refl _ _, Nat.zero_le _, fun q h1 h2 => absurd h2 (by omega), rfl⟩
  case round =>
    obtain ⟨k, fr, L, hk, rfl, rfl, hfk, hout, hbel, hLk, hno, hcut⟩ := hrel
    obtain ⟨A2, c2, rfl⟩ := own_slice hout
    have Hcut := Lib.hid hcut
    have Hsl := Lib.hid hsl
    clear hcut hsl
    have hsw := hbel.size
    by_cases hlt : k < s.size
    · have hk0 : (0 : Int) ≤ (k : Int) := by omega
      have hg : s.data.toList[k]? = some (s[k]'hlt) := by
        rw [List.getElem?_eq_getElem (by rw [← Hsl.out]; exact hlt)]; rfl
      by_cases hb : s.data.toList[k]? = some 32
      · have hB : (((s[k]'hlt).toNat : Int) == 32) = true := by
          rw [hg] at hb
          rw [Option.some.inj hb]; rfl
        have HG := Lib.hid hg
        have HB := Lib.hid hb
        clear hg hb
        go_wp2_with (at_builtin; refine wpList_append_own _ rfl (.tmp 19) (.tmp 24) _ rfl w.heap.size 9 i0 (.string ByteArray.empty) 1 16 Tryd.underlying28 hi hz0 hz1 hz2 rfl (by decide) _ _ _ rfl (hout.alloc _) ⟨wr.heap.size, 0, none⟩ 1 1 [.string (s.extract fr k)] rfl rfl (news_str rfl) (by intro u' hu'; simp at hu'; subst hu'; rfl) (by unfold maxLen; omega) (by omega) (by simp; omega) ?_; intro v1 w3 hown1 hg1 hat1)
        go_roundw
        case rel =>
          refine ⟨k + 1, k + 1, L ++ [(s.data.toList.drop fr).take (k - fr)], by omega, by go_num, by go_num, Nat.le_refl _, ?_, own_base (hout.alloc _) (hbel.alloc hbel.size _) (Nat.le_refl _) hg1 (by simp; omega), by simp; omega, fun q h1 h2 => absurd h2 (by omega), ?_⟩
          · have e1 : bs ((s.data.toList.drop fr).take (k - fr)) = s.extract fr k := (Lib.extract_eq s fr k).symm
            rw [strs_app, e1, List.length_append]
            exact hown1
          · rw [Hcut.out, cut_at HB.out hfk hno]
            simp
        case measure => simp [intOf]; omega
      · have hB : (((s[k]'hlt).toNat : Int) == 32) = false := by
          rw [beq_eq_false_iff_ne]
          intro e
          refine hb ?_
          rw [hg]
          congr 1
          apply UInt8.toNat_inj.1
          show _ = 32
          omega
        have HG := Lib.hid hg
        have HB := Lib.hid hb
        clear hg hb
        go_wp2_with fail
        go_roundw
        case rel =>
          refine ⟨k + 1, fr, L, by omega, by go_num, rfl, by omega, hout, hbel, by omega, fun q h1 h2 => ?_, Hcut.out⟩
          by_cases hq : q = k
          · rw [hq]; exact HB.out
          · exact hno q h1 (by omega)
        case measure => simp [intOf]; omega
    · go_wp2_with (at_builtin; refine wpList_append_own _ rfl (.tmp 28) (.tmp 32) _ rfl w.heap.size 9 i0 (.string ByteArray.empty) 1 16 Tryd.underlying28 hi hz0 hz1 hz2 rfl (by decide) _ _ _ rfl (hout.alloc _) ⟨wr.heap.size, 0, none⟩ 1 1 [.string (s.extract fr s.size)] rfl rfl (news_str rfl) (by intro u' hu'; simp at hu'; subst hu'; rfl) (by unfold maxLen; omega) (by omega) (by simp; omega) ?_; intro v1 w3 hown1 hg1 hat1)
      go_ret
      have hend := cut_end (c := 32) (l := s.data.toList) (fr := fr) fun q h1 h2 => hno q h1 (by have := Hsl.out; omega)
      have hcc := Hcut.out
      rw [hend] at hcc
      have e1 : bs (s.data.toList.drop fr) = s.extract fr s.size := by
        rw [Lib.extract_eq, List.take_of_length_le (by rw [List.length_drop, ← Hsl.out]; exact Nat.le_refl _)]
        rfl
      refine ⟨_, rfl, ?_, own_base (hout.alloc _) (hbel.alloc hbel.size _) (Nat.le_refl _) hg1 (by simp; omega)⟩
      rw [hcc, strs_app, e1, List.length_append]
      exact hown1
end Go.Proofs.YticinemcmgggpabDoor

/-
  The reference's l13Int.
-/
namespace Go.Proofs.YticinemcmgggpabDoor
open Go.Proofs Go.Shelf
open Go.ChangeShapes Go.WideShapes Go.ChangeAt Go.RowKit Go.BigFrame Go.Deep
set_option linter.unusedVariables false
set_option linter.unusedSimpArgs false

theorem wrap64_id {z : Int} (h0 : -9223372036854775808 ≤ z) (h1 : z ≤ 9223372036854775807) : wrap64 z = z := by unfold wrap64; omega
theorem callIn (n : Int) {w W : World} (hp : Pre w.heap.size w) (hb : Below w.heap.size w W) :
    Calls Tryd.prog 16 #[.int .i64 n, .int .i64 1, .int .i64 10] W fun e W' => e = .returned (.bool (inB 1 10 n)) ∧ Below W.heap.size W W' :=
  v_l1In n 1 10 W (fun _ => False) [.int .i64 n, .int .i64 1, .int .i64 10] ⟨fun _ h => h.elim, (hp.below hb).mono hb.size⟩ ⟨_, _, rfl, rfl, _, _, rfl, rfl, _, _, rfl, rfl, rfl⟩
theorem callText {z : Int} (h0 : -9223372036854775807 ≤ z) (h1 : z ≤ 9223372036854775807) {w W : World} (hp : Pre w.heap.size w) (hb : Below w.heap.size w W) :
    Calls Tryd.prog 17 #[.int .i64 z] W fun e W' => e = .returned (.string (itoaB z)) ∧ Below W.heap.size W W' :=
  v_Text z ⟨h0, h1⟩ W (fun _ => False) [.int .i64 z] ⟨fun _ h => h.elim, (hp.below hb).mono hb.size⟩ ⟨_, _, rfl, rfl, rfl⟩
theorem itoa_dec (z : Int) (s : ByteArray) : decide (Lib.itoa z = s.data.toList) = ((itoaB z).toList == s.toList) := by
  by_cases h : itoaB z = s
  · rw [ba_beq_t h, decide_eq_true (show Lib.itoa z = s.data.toList from congrArg (fun t : ByteArray => t.data.toList) h)]
  · rw [ba_beq_f h, decide_eq_false (fun e => h ((congrArg (fun l : List UInt8 => (⟨l.toArray⟩ : ByteArray)) e).trans (Lib.mk_data s)))]
theorem inB_of {lo hi n : Int} (h0 : lo ≤ n) (h1 : n ≤ hi) : inB lo hi n = true := decide_eq_true ⟨h0, h1⟩
set_option maxHeartbeats 1000000 in
set_option maxRecDepth 100000 in
theorem callInt (s : ByteArray) (hs : s.size ≤ 1048576) {w : World} (hS : Pre w.heap.size w) :
    Calls Tryd.prog 10 #[.string s] w fun e w' => e = .returned (.tuple #[.int .i64 (Rd.intL s.data.toList).1, .bool (Rd.intL s.data.toList).2]) ∧ Below w.heap.size w w' := by
  have hbw := Below.refl w.heap.size w
  by_cases hg : Rd.neg s.data.toList = true
  · have h0 : 0 < s.size := by
      rcases Nat.eq_zero_or_pos s.size with h | h
      · exfalso
        have hh := of_decide_eq_true hg
        rw [Lib.size_eq] at h
        rw [List.eq_nil_of_length_eq_zero h] at hh
        cases hh
      · exact h
    have h0i : (0 : Int) < (s.size : Int) := by omega
    have hB : (((s[0]'h0).toNat : Int) == 45) = true := by
      have h1 : s.data.toList[0]? = some (s[0]'h0) := by rw [List.getElem?_eq_getElem (by rw [← Lib.size_eq]; exact h0)]; rfl
      have hh := of_decide_eq_true hg
      rw [List.head?_eq_getElem?, h1] at hh
      rw [Option.some.inj hh]; rfl
    have hmg : Rd.mag s.data.toList = (s.extract 1 s.size).data.toList := by
      rw [Lib.extract_to_end]
      unfold Rd.mag
      rw [if_pos hg, List.drop_one]
    by_cases hin : inB 1 10 ((s.size - 1 : Nat) : Int) = true
    · have hin2 := inB_true hin
      have hmag : 1 ≤ (Rd.mag s.data.toList).length ∧ (Rd.mag s.data.toList).length ≤ 10 := by
        rw [hmg, ← Lib.size_eq]; simp; omega
      go_enter Tryd.func10, Tryd.ntmps10
      go_wp2_with (go_at_call 16; refine (callIn _ hS hbw).mono ?_; rintro e w1 ⟨rfl, g1⟩; (rw [hin]))
      have hbw1 := hbw.trans (g1.mono hbw.size)
      go_wp2_with fail
      go_loopw [6, 7] (fun n i wr => ∃ k u : Nat, k ≤ (s.size - 1) ∧ i = .int .i64 k ∧ n = .int .i64 u ∧ Lib.decFrom 0 ((s.extract 1 s.size).data.toList.take k) = some u ∧ Below w.heap.size w wr) (fun _ i _ => (s.size - 1) - (intOf i).toNat)
      case atStart => exact ⟨0, 0, Nat.zero_le _, rfl, rfl, rfl, hbw1⟩
      case round =>
        obtain ⟨k, u, hk, rfl, rfl, hdec, hbel⟩ := hrel
        have hub : u < 10000000000 := by
          have h1 := Lib.decFrom_lt _ _ _ hdec
          have h2 : ((s.extract 1 s.size).data.toList.take k).length ≤ 10 := by rw [List.length_take, ← Lib.size_eq]; (try simp); omega
          have h3 : 10 ^ ((s.extract 1 s.size).data.toList.take k).length ≤ 10 ^ 10 := Nat.pow_le_pow_right (by decide) h2
          have h4 : (10 : Nat) ^ 10 = 10000000000 := by decide
          omega
        have Hdec := Lib.hid hdec
        clear hdec
        by_cases hlt : k < (s.size - 1)
        · have hltT : k < (s.extract 1 s.size).size := by (try simp); omega
          have hk0 : (0 : Int) ≤ (k : Int) := by omega
          have Hg := Lib.hid (show (s.extract 1 s.size).data.toList[k]? = some ((s.extract 1 s.size)[k]'hltT) by rw [List.getElem?_eq_getElem (by rw [← Lib.size_eq]; exact hltT)]; rfl)
          by_cases hd : 48 ≤ ((s.extract 1 s.size)[k]'hltT).toNat ∧ ((s.extract 1 s.size)[k]'hltT).toNat ≤ 57
          · obtain ⟨hd1, hd2⟩ := hd
            have d1 : decide ((((s.extract 1 s.size)[k]'hltT).toNat : Int) < 48) = false := decide_eq_false (by omega)
            have d2 : decide (57 < (((s.extract 1 s.size)[k]'hltT).toNat : Int)) = false := decide_eq_false (by omega)
            go_wp2_with fail
            go_roundw
            case rel =>
              refine ⟨k + 1, u * 10 + (((s.extract 1 s.size)[k]'hltT).toNat - 48), by omega, by go_num, ?_, Lib.decFrom_take _ k 0 u _ _ Hdec.out Hg.out (if_pos ⟨hd1, hd2⟩), hbel⟩
              congr 1
              omega
            case measure => simp [intOf]; omega
          · have hV : Rd.intL s.data.toList = (0, false) := by
              refine Rd.intL_none hmag ?_
              cases hx : Lib.decFrom 0 (Rd.mag s.data.toList) with
              | none => rfl
              | some m =>
                rw [hmg] at hx
                obtain ⟨d, hdd⟩ := Lib.digit_of_decFrom _ _ _ hx k _ Hg.out
                obtain ⟨q1, q2, _⟩ := Lib.digitVal_eq hdd
                exact absurd ⟨q1, q2⟩ hd
            by_cases hc : ((s.extract 1 s.size)[k]'hltT).toNat < 48
            · have d1 : decide ((((s.extract 1 s.size)[k]'hltT).toNat : Int) < 48) = true := decide_eq_true (by omega)
              go_wp2_with fail
              go_ret2
              exact ⟨by rw [hV]; rfl, hbel⟩
            · have d1 : decide ((((s.extract 1 s.size)[k]'hltT).toNat : Int) < 48) = false := decide_eq_false (by omega)
              have d2 : decide (57 < (((s.extract 1 s.size)[k]'hltT).toNat : Int)) = true := decide_eq_true (by omega)
              go_wp2_with fail
              go_ret2
              exact ⟨by rw [hV]; rfl, hbel⟩
        · have hfull : Lib.decFrom 0 (Rd.mag s.data.toList) = some u := by
            rw [hmg, ← Hdec.out, List.take_of_length_le (by rw [← Lib.size_eq]; (try simp); omega)]
          have Hs := Lib.hid (Rd.intL_some hmag hfull)
          have Hf := Lib.hid hfull
          have hsg : Rd.sg s.data.toList u = -(u : Int) := if_pos hg
          clear hfull
          have hcallT := callText (z := -(u : Int)) (by omega) (by omega) hS hbel
          go_wp2_with fail
          refine hcallT.mono ?_
          rintro e w5 ⟨rfl, g5⟩
          go_wp2_with fail
          go_ret2
          exact ⟨by rw [Hs.out, hsg, itoa_dec]; rfl, hbel.trans (g5.mono hbel.size)⟩
    · have hin : inB 1 10 ((s.size - 1 : Nat) : Int) = false := by simpa using hin
      have hV : Rd.intL s.data.toList = (0, false) := Rd.intL_out fun ⟨a, b⟩ => by
        rw [hmg, ← Lib.size_eq] at a b
        simp at a b
        rw [inB_of (by omega) (by omega)] at hin
        cases hin
      go_enter Tryd.func10, Tryd.ntmps10
      go_wp2_with (go_at_call 16; refine (callIn _ hS hbw).mono ?_; rintro e w1 ⟨rfl, g1⟩; (rw [hin]))
      go_ret2
      exact ⟨by rw [hV]; rfl, hbw.trans (g1.mono hbw.size)⟩
  · by_cases h0 : 0 < s.size
    · have h0i : (0 : Int) < (s.size : Int) := by omega
      have hmg : Rd.mag s.data.toList = s.data.toList := if_neg hg
      have hB : (((s[0]'h0).toNat : Int) == 45) = false := by
        rw [beq_eq_false_iff_ne]
        intro e
        refine hg (decide_eq_true ?_)
        have h1 : s.data.toList[0]? = some (s[0]'h0) := by rw [List.getElem?_eq_getElem (by rw [← Lib.size_eq]; exact h0)]; rfl
        rw [List.head?_eq_getElem?, h1]
        congr 1
        apply UInt8.toNat_inj.1
        show _ = 45
        omega
      by_cases hin : inB 1 10 (s.size : Int) = true
      · have hin2 := inB_true hin
        have hmag : 1 ≤ (Rd.mag s.data.toList).length ∧ (Rd.mag s.data.toList).length ≤ 10 := by
          rw [hmg, ← Lib.size_eq]; omega
        go_enter Tryd.func10, Tryd.ntmps10
        go_wp2_with (go_at_call 16; refine (callIn _ hS hbw).mono ?_; rintro e w1 ⟨rfl, g1⟩; (rw [hin]))
        have hbw1 := hbw.trans (g1.mono hbw.size)
        go_wp2_with fail
        go_loopw [6, 7] (fun n i wr => ∃ k u : Nat, k ≤ (s.size) ∧ i = .int .i64 k ∧ n = .int .i64 u ∧ Lib.decFrom 0 ((s).data.toList.take k) = some u ∧ Below w.heap.size w wr) (fun _ i _ => (s.size) - (intOf i).toNat)
        case atStart => exact ⟨0, 0, Nat.zero_le _, rfl, rfl, rfl, hbw1⟩
        case round =>
          obtain ⟨k, u, hk, rfl, rfl, hdec, hbel⟩ := hrel
          have hub : u < 10000000000 := by
            have h1 := Lib.decFrom_lt _ _ _ hdec
            have h2 : ((s).data.toList.take k).length ≤ 10 := by rw [List.length_take, ← Lib.size_eq]; (try simp); omega
            have h3 : 10 ^ ((s).data.toList.take k).length ≤ 10 ^ 10 := Nat.pow_le_pow_right (by decide) h2
            have h4 : (10 : Nat) ^ 10 = 10000000000 := by decide
            omega
          have Hdec := Lib.hid hdec
          clear hdec
          by_cases hlt : k < (s.size)
          · have hltT : k < (s).size := by (try simp); omega
            have hk0 : (0 : Int) ≤ (k : Int) := by omega
            have Hg := Lib.hid (show (s).data.toList[k]? = some ((s)[k]'hltT) by rw [List.getElem?_eq_getElem (by rw [← Lib.size_eq]; exact hltT)]; rfl)
            by_cases hd : 48 ≤ ((s)[k]'hltT).toNat ∧ ((s)[k]'hltT).toNat ≤ 57
            · obtain ⟨hd1, hd2⟩ := hd
              have d1 : decide ((((s)[k]'hltT).toNat : Int) < 48) = false := decide_eq_false (by omega)
              have d2 : decide (57 < (((s)[k]'hltT).toNat : Int)) = false := decide_eq_false (by omega)
              go_wp2_with fail
              go_roundw
              case rel =>
                refine ⟨k + 1, u * 10 + (((s)[k]'hltT).toNat - 48), by omega, by go_num, ?_, Lib.decFrom_take _ k 0 u _ _ Hdec.out Hg.out (if_pos ⟨hd1, hd2⟩), hbel⟩
                congr 1
                omega
              case measure => simp [intOf]; omega
            · have hV : Rd.intL s.data.toList = (0, false) := by
                refine Rd.intL_none hmag ?_
                cases hx : Lib.decFrom 0 (Rd.mag s.data.toList) with
                | none => rfl
                | some m =>
                  rw [hmg] at hx
                  obtain ⟨d, hdd⟩ := Lib.digit_of_decFrom _ _ _ hx k _ Hg.out
                  obtain ⟨q1, q2, _⟩ := Lib.digitVal_eq hdd
                  exact absurd ⟨q1, q2⟩ hd
              by_cases hc : ((s)[k]'hltT).toNat < 48
              · have d1 : decide ((((s)[k]'hltT).toNat : Int) < 48) = true := decide_eq_true (by omega)
                go_wp2_with fail
                go_ret2
                exact ⟨by rw [hV]; rfl, hbel⟩
              · have d1 : decide ((((s)[k]'hltT).toNat : Int) < 48) = false := decide_eq_false (by omega)
                have d2 : decide (57 < (((s)[k]'hltT).toNat : Int)) = true := decide_eq_true (by omega)
                go_wp2_with fail
                go_ret2
                exact ⟨by rw [hV]; rfl, hbel⟩
          · have hfull : Lib.decFrom 0 (Rd.mag s.data.toList) = some u := by
              rw [hmg, ← Hdec.out, List.take_of_length_le (by rw [← Lib.size_eq]; (try simp); omega)]
            have Hs := Lib.hid (Rd.intL_some hmag hfull)
            have Hf := Lib.hid hfull
            have hsg : Rd.sg s.data.toList u = (u : Int) := if_neg hg
            clear hfull
            have hcallT := callText (z := (u : Int)) (by omega) (by omega) hS hbel
            go_wp2_with fail
            refine hcallT.mono ?_
            rintro e w5 ⟨rfl, g5⟩
            go_wp2_with fail
            go_ret2
            exact ⟨by rw [Hs.out, hsg, itoa_dec]; rfl, hbel.trans (g5.mono hbel.size)⟩
      · have hin : inB 1 10 (s.size : Int) = false := by simpa using hin
        have hV : Rd.intL s.data.toList = (0, false) := Rd.intL_out fun ⟨a, b⟩ => by
          rw [hmg, ← Lib.size_eq] at a b
          rw [inB_of (by omega) (by omega)] at hin
          cases hin
        go_enter Tryd.func10, Tryd.ntmps10
        go_wp2_with (go_at_call 16; refine (callIn _ hS hbw).mono ?_; rintro e w1 ⟨rfl, g1⟩; (rw [hin]))
        go_ret2
        exact ⟨by rw [hV]; rfl, hbw.trans (g1.mono hbw.size)⟩
    · have hz : s = ⟨#[]⟩ := by
        obtain ⟨⟨l⟩⟩ := s
        have : l.length = 0 := by
          have h1 : (⟨⟨l⟩⟩ : ByteArray).size = l.length := rfl
          omega
        rw [List.eq_nil_of_length_eq_zero this]
      subst hz
      have hV : Rd.intL (⟨#[]⟩ : ByteArray).data.toList = (0, false) := rfl
      have hin : inB 1 10 0 = false := rfl
      go_enter Tryd.func10, Tryd.ntmps10
      go_wp2_with (go_at_call 16; refine (callIn _ hS hbw).mono ?_; rintro e w1 ⟨rfl, g1⟩; (rw [hin]))
      go_ret2
      exact ⟨by rw [hV]; rfl, hbw.trans (g1.mono hbw.size)⟩
end Go.Proofs.YticinemcmgggpabDoor

/-
  How a law's statement follows from its walk: the arguments are opened to Lean values ('Opens'), and behind a call that leaves old memory alone each argument reads as before ('law_post').
-/
namespace Go.Proofs.YticinemcmgggpabDoor
open Go.ChangeShapes Go.WideShapes Go.ChangeAt Go.RowKit Go.Deep
set_option linter.unusedVariables false

theorem own : ownKnob Tryd.prog.godebug = none := by kernel_rfl
theorem laidOut : laidOutB Tryd.prog = true := by kernel_rfl

section
variable {H : Type} {enc : TypeId × Value → H} {P : Program}
theorem trodAll_stays {W W' : World} {sp : Nat → Bool} (hl : laidOutB P = true) : ∀ {ts : List TypeId} {vs : List Value} {ds : List (DataW H)} {ps : List MemPlace}, (ts.all fun t => P.readableRec t && decide (t < P.types.size)) = true →
    DataW.TrodAll enc P W 0 (fun _ => true) true ts vs ds ps → (∀ p ∈ ps, W.sameAt W' p) → (∀ p ∈ ps, sp p.block = true) → DataW.TrodAll enc P W' 0 sp true ts vs ds ps := by
  intro ts
  induction ts with
  | nil =>
    intro vs ds ps _ h _ _
    cases vs <;> cases ds <;> first | exact h | exact h.elim
  | cons t ts ih =>
    intro vs ds ps ht h hs hsp
    cases vs with
    | nil => cases ds <;> exact h.elim
    | cons v vs =>
      cases ds with
      | nil => exact h.elim
      | cons d ds =>
        obtain ⟨p, q, h1, h2, rfl⟩ := h
        simp only [List.all_cons, Bool.and_eq_true, decide_eq_true_eq] at ht
        exact ⟨p, q, WideElems.Trod_stays hl ht.1.1 ht.1.2 h1 (fun x hx => hs x (List.mem_append_left _ hx)) (fun x hx => hsp x (List.mem_append_left _ hx)),
          ih ht.2 h2 (fun x hx => hs x (List.mem_append_right _ hx)) (fun x hx => hsp x (List.mem_append_right _ hx)), rfl⟩

/-- The row's last step: the call returned true and left old memory alone. -/
theorem law_post {f : Func} {s : ChangeSpec} {W W' : World} {args : Array Value} {ds gs : List (DataW H)} {before : List MemPlace} {tb : TypeId}
    (hW : DataW.Whole enc P f.params.toList s.vars false W args.toList ds gs before) (hvars : s.vars = []) (hl : laidOutB P = true) (hts : (f.params.toList.all fun t => P.readableRec t && decide (t < P.types.size)) = true)
    (hb : Below W.heap.size W W') (hfn : s.fn H (ds ++ gs) = { results := [.lit (.bool true)], args := ds }) (hrt : f.resultTypes = #[tb]) (hu : P.underlying tb = some .bool) :
    s.post enc P f false true false false W args (.bool true) W' := by
  have hlt : ∀ p ∈ before, p.block < W.heap.size := fun p hp => hW.lt p hp
  have hW' := hW
  obtain ⟨p, q, hA, hV, rfl, hz, hn⟩ := hW
  rw [hvars] at hV
  have hV' := hV
  obtain ⟨rfl, rfl⟩ := trodVars_none hV
  have hargs : ∀ sp : Nat → Bool, (∀ x ∈ p ++ [], sp x.block = true) → DataW.TrodAll enc P W' 0 sp true f.params.toList args.toList (s.fn H (ds ++ [])).args p := fun sp hsp => by
    rw [hfn]
    exact trodAll_stays hl hts hA (fun x hx => hb.same (hlt x (by simpa using hx))) (fun x hx => hsp x (by simpa using hx))
  have hvs : ∀ sp : Nat → Bool, DataW.TrodVars enc P W' sp s.vars (s.fn H (ds ++ [])).vars [] := fun sp => by
    rw [hvars, hfn]
    rfl
  have hres : ∀ (b : Nat) (sp : Nat → Bool) (hd : Bool), DataW.TrodAll enc P W' b sp hd f.resultTypes.toList ((Value.bool true).resultList f.resultTypes.size) (s.fn H (ds ++ [])).results [] := fun b sp hd => by
    rw [hfn, hrt]
    exact trodAll_cons_mk (shut_bool hu _) trodAll_mk0
  have hold : ∀ x ∈ p ++ [], (fun b => decide (b < W.heap.size)) x.block = true := fun x hx => by simpa using hlt x hx
  refine ⟨ds, [], p ++ [], [], p, [], hW', hres _ _ _, hargs _ hold, hvs _, World.keptBut_mono (fun x hx => ⟨hx, ?_⟩) (hb.frame (· ∈ p ++ [])), fun h => by cases h⟩
  exact Or.inr (by simpa using hx)

/-- A value of type t reads as an α. -/
def Opens (P : Program) (t : TypeId) (α : Type) [Rep α] : Prop :=
  ∀ (H : Type) (enc : TypeId × Value → H) (w : World) (fuel : Nat) (cs : List Value) (x : DataW H × List MemPlace), DataW.trod enc P w 0 (fun _ => true) true fuel t cs = some x → ∃ a : α, Rep.rep w (· < w.heap.size) a cs

theorem i64_of_wf {n : Int} (h : (Lit.int .i64 n).wf = true) : I64 n := by
  simpa [Lit.wf, IntKind.min, IntKind.max, IntKind.signed, IntKind.bits, I64] using h
theorem Opens.int {t : TypeId} (ht : P.underlying t = some (.int .i64)) : Opens P t Int := fun _ _ _ _ _ _ h => by
  obtain ⟨n, rfl, _, hw⟩ := DataW.trod_int ht h
  exact ⟨n, rfl, i64_of_wf hw⟩
theorem Opens.bool {t : TypeId} (ht : P.underlying t = some .bool) : Opens P t Bool := fun _ _ _ _ _ _ h => by
  obtain ⟨n, rfl, _⟩ := DataW.trod_bool ht h
  exact ⟨n, rfl, trivial⟩
theorem Opens.string {t : TypeId} (ht : P.underlying t = some .string) : Opens P t ByteArray := fun _ _ _ _ _ _ h => by
  obtain ⟨s, rfl, _, hs⟩ := DataW.trod_string ht h
  exact ⟨s, rfl, hs⟩
theorem list_of_fun {α : Type} (f : Nat → Option α) (len : Nat) (hf : ∀ i, i < len → ∃ y, f i = some y) : ∃ l : List α, l.length = len ∧ ∀ i (h : i < l.length), f i = some l[i] := by
  induction len with
  | zero => exact ⟨[], rfl, fun i h => absurd h (by simp)⟩
  | succ k ih =>
    obtain ⟨l, hl, hl2⟩ := ih (fun i hi => hf i (by omega))
    obtain ⟨y, hy⟩ := hf k (by omega)
    refine ⟨l ++ [y], by simp [hl], fun i h => ?_⟩
    by_cases hik : i < l.length
    · rw [List.getElem_append_left hik]; exact hl2 i hik
    · have : i = l.length := by simp at h; omega
      subst this
      rw [List.getElem_append_right (Nat.le_refl _)]
      simp [hl, hy]
theorem Opens.slice {α : Type} [Rep α] {t e : TypeId} (ht : P.underlying t = some (.slice e)) (hC : P.cellsOf e = Rep.size α) (hp : 0 < Rep.size α) (he : Opens P e α) : Opens P t (List α) := fun H enc w fuel cs x h => by
  rcases open_slice ht h with ⟨rfl, _⟩ | ⟨a, len, cap, m, n, D, Pl, rfl, _, hl, hm, hmm, _, hi⟩
  · exact ⟨[], none, 0, rfl, Nat.le_refl _, by simp [maxLen], fun _ => rfl, fun i hi => absurd hi (by simp)⟩
  · have hlm : len ≤ m := by rw [hmm]; simpa using hl
    have hx : ∀ i, i < len → ∃ (y : α) (xs : List Value), Rep.rep w (· < w.heap.size) y xs ∧ xs.length = Rep.size α ∧ ∀ j, j < Rep.size α → w.cell? (a.add (i * Rep.size α + j)) = xs[j]? := fun i hil => by
      obtain ⟨cs', hc, ht'⟩ := hi i (by omega)
      rw [hC] at hc
      obtain ⟨_, hcl, hat⟩ := World.cells?_some hc
      obtain ⟨y, hy⟩ := he H enc w n cs' _ ht'
      exact ⟨y, cs', hy, hcl, fun j hj => by rw [← hat j hj, add_add]⟩
    have hch : ∃ f : Nat → Option α, ∀ i, i < len → ∃ (y : α) (xs : List Value), f i = some y ∧ Rep.rep w (· < w.heap.size) y xs ∧ xs.length = Rep.size α ∧ ∀ j, j < Rep.size α → w.cell? (a.add (i * Rep.size α + j)) = xs[j]? := by
      classical
      refine ⟨fun i => if hil : i < len then some (hx i hil).choose else none, fun i hil => ⟨(hx i hil).choose, (hx i hil).choose_spec.choose, by simp [hil], (hx i hil).choose_spec.choose_spec⟩⟩
    obtain ⟨f, hf⟩ := hch
    have hlist := list_of_fun f len fun i hil => let ⟨y, _, hy, _⟩ := hf i hil; ⟨y, hy⟩
    obtain ⟨l, hl1, hl2⟩ := hlist
    subst hl1
    refine ⟨l, some a, cap, rfl, hl, hm, (fun e => by cases e), fun i hil => ?_⟩
    obtain ⟨y, xs, hy, hr, hxl, hc⟩ := hf i hil
    rw [hl2 i hil] at hy
    obtain rfl := Option.some.inj hy
    have hspot : a.spot = none := by
      obtain ⟨y, xs, _, _, hxl, hc⟩ := hf 0 (by omega)
      have h0 := hc 0 hp
      rw [List.getElem?_eq_getElem (by omega)] at h0
      simp only [Nat.zero_mul, Nat.add_zero] at h0
      have e : a.add 0 = a := rfl
      rw [e] at h0
      unfold World.cell? at h0
      split at h0
      · split at h0
        · cases h0
        · rename_i hs; simpa using hs
      · cases h0
    obtain ⟨b, off, sp⟩ := a
    obtain rfl : sp = none := hspot
    have h0 := hc 0 hp
    rw [List.getElem?_eq_getElem (by omega), Addr.add_lit] at h0
    refine ⟨b, off, xs, rfl, World.block_lt_of_cell? w _ h0, fun j u hu => ?_, hr⟩
    have hj : j < Rep.size α := by rw [← hxl]; exact (List.getElem?_eq_some_iff.1 hu).1
    rw [← hu, ← hc j hj, Addr.add_lit]

theorem Opens.int2 {t t0 t1 : TypeId} {f0 f1 : Field} (ht : P.underlying t = some (.struct #[f0, f1])) (hone : oneCellFields P #[f0, f1] = true) (hC : P.cellsOf t = 2) (e0 : f0.type = t0) (e1 : f1.type = t1)
    (h0 : P.underlying t0 = some (.int .i64)) (h1 : P.underlying t1 = some (.int .i64)) : Opens P t P2 := fun H enc w fuel cs x h => by
  obtain ⟨y0, y1, n, _, hl, g0, g1⟩ := trod_struct2 ht h
  rw [hC] at hl
  match cs, hl with
  | [c0, c1], _ =>
    obtain ⟨o0, k0⟩ := hone_of hone 0 f0 rfl
    obtain ⟨o1, k1⟩ := hone_of hone 1 f1 rfl
    rw [o0, k0, e0] at g0
    rw [o1, k1, e1] at g1
    obtain ⟨a, ea, wa⟩ := Opens.int h0 H enc w n _ _ g0
    obtain ⟨b, eb, wb⟩ := Opens.int h1 H enc w n _ _ g1
    exact ⟨⟨a, b⟩, by simp [Flat.enc] at ea eb ⊢; exact ⟨ea, eb⟩, wa, wb⟩

theorem Opens.intstr {t t0 t1 : TypeId} {f0 f1 : Field} (ht : P.underlying t = some (.struct #[f0, f1])) (hone : oneCellFields P #[f0, f1] = true) (hC : P.cellsOf t = 2) (e0 : f0.type = t0) (e1 : f1.type = t1)
    (h0 : P.underlying t0 = some (.int .i64)) (h1 : P.underlying t1 = some .string) : Opens P t IS := fun H enc w fuel cs x h => by
  obtain ⟨y0, y1, n, _, hl, g0, g1⟩ := trod_struct2 ht h
  rw [hC] at hl
  match cs, hl with
  | [c0, c1], _ =>
    obtain ⟨o0, k0⟩ := hone_of hone 0 f0 rfl
    obtain ⟨o1, k1⟩ := hone_of hone 1 f1 rfl
    rw [o0, k0, e0] at g0
    rw [o1, k1, e1] at g1
    obtain ⟨a, ea, wa⟩ := Opens.int h0 H enc w n _ _ g0
    obtain ⟨b, eb, wb⟩ := Opens.string h1 H enc w n _ _ g1
    exact ⟨⟨a, b⟩, by simp [Flat.enc] at ea eb ⊢; exact ⟨ea, eb⟩, wa, wb⟩

/-- An argument that is a slice. -/
theorem Opens.arg {α : Type} [Rep α] {t : TypeId} (h : Opens P t (List α)) {W : World} {v : Value} {d : DataW H} {p : List MemPlace} (hv : ∃ a n c, v = .slice a n c) (ht : DataW.Trod enc P W 0 (fun _ => true) true t v d p) :
    ∃ (l : List α) (A : Option Addr) (n c : Nat), v = .slice A n c ∧ RepL W (· < W.heap.size) l A n c := by
  obtain ⟨fuel, hf⟩ := ht
  obtain ⟨a, n, c, rfl⟩ := hv
  obtain ⟨l, hl⟩ := h H enc W fuel _ _ hf
  have hl' := hl
  obtain ⟨A, c', e, h1, h2, h4, h3⟩ := hl'
  simp only [Value.cells, List.cons.injEq, Value.slice.injEq, and_true] at e
  obtain ⟨rfl, rfl, rfl⟩ := e
  exact ⟨l, a, _, c, rfl, rfl, hl⟩
end
end Go.Proofs.YticinemcmgggpabDoor

/-
  How the arguments of a law are opened to data of the calculus.
-/
namespace Go.Proofs.YticinemcmgggpabDoor
open Go.ChangeShapes Go.WideShapes Go.ChangeAt Go.RowKit Go.BigFrame Go.Deep
set_option linter.unusedVariables false

set_option linter.unusedSimpArgs false
section
variable {P : Program}
/-- Cells of type t read as an α. -/
def OpensC (P : Program) (t : TypeId) {α : Type} (enc : α → List AV) : Prop :=
  ∀ (H : Type) (eh : TypeId × Value → H) (w : World) (fuel : Nat) (cs : List Value) (x : DataW H × List MemPlace), DataW.trod eh P w 0 (fun _ => true) true fuel t cs = some x → ∃ a : α, DL w (· < w.heap.size) (enc a) cs
theorem OpensC.int {t : TypeId} (ht : P.underlying t = some (.int .i64)) : OpensC P t (fun n : Int => [.int .i64 n]) := fun _ _ _ _ _ _ h => by
  obtain ⟨n, rfl, _, hw⟩ := DataW.trod_int ht h
  exact ⟨n, _, _, rfl, rfl, rfl⟩
theorem OpensC.bool {t : TypeId} (ht : P.underlying t = some .bool) : OpensC P t (fun b : Bool => [.bool b]) := fun _ _ _ _ _ _ h => by
  obtain ⟨n, rfl, _⟩ := DataW.trod_bool ht h
  exact ⟨n, _, _, rfl, rfl, rfl⟩
theorem OpensC.string {t : TypeId} (ht : P.underlying t = some .string) : OpensC P t (fun s : ByteArray => [.str s]) := fun _ _ _ _ _ _ h => by
  obtain ⟨s, rfl, _, hs⟩ := DataW.trod_string ht h
  exact ⟨s, _, _, rfl, ⟨rfl, hs⟩, rfl⟩
theorem DL.len {w : World} {S : Nat → Prop} : ∀ {l : List AV} {us : List Value}, DL w S l us → us.length = l.length
  | [], us, h => by rw [show us = [] from h]; rfl
  | _ :: _, _, ⟨_, _, e, _, h2⟩ => by rw [e]; simp [DL.len h2]
theorem DL.get {w : World} {S : Nat → Prop} : ∀ {l : List AV} {us : List Value}, DL w S l us → ∀ {j : Nat} {x : AV}, l[j]? = some x → ∃ u, us[j]? = some u ∧ D w S x u
  | [], _, _, j, x, hx => by simp at hx
  | y :: l, _, ⟨u, us, e, h1, h2⟩, j, x, hx => by
    subst e
    cases j with
    | zero => simp at hx; subst hx; exact ⟨u, rfl, h1⟩
    | succ j => simp at hx ⊢; exact DL.get h2 hx
theorem DL.append {w : World} {S : Nat → Prop} : ∀ {l m : List AV} {us vs : List Value}, DL w S l us → DL w S m vs → DL w S (l ++ m) (us ++ vs)
  | [], _, us, _, h, k => by rw [show us = [] from h]; exact k
  | _ :: _, _, _, _, ⟨u, us, e, h1, h2⟩, k => ⟨u, _, by rw [e]; rfl, h1, DL.append h2 k⟩
theorem DL.part {w : World} {S : Nat → Prop} {l m : List AV} {cs : List Value} {o s : Nat} (h : DL w S l ((cs.drop o).take s)) (k : DL w S m (cs.drop (o + s))) : DL w S (l ++ m) (cs.drop o) := by
  have := DL.append h k
  rwa [← List.drop_drop, List.take_append_drop] at this
theorem OpensC.slice {α : Type} {t e : TypeId} {sz : Nat} {en : α → List AV} {f : List α → Nat → Nat → AV} (d : α) (ht : P.underlying t = some (.slice e)) (hC : P.cellsOf e = sz) (hp : 0 < sz) (he : OpensC P e en) (hlen : ∀ a, (en a).length = sz)
    (hf : ∀ l i j, i < l.length → j < sz → f l i j = (en (l.getD i d)).getD j (.con undef)) : OpensC P t (fun l : List α => [.lst sz l.length (f l)]) := fun H eh w fuel cs x h => by
  rcases open_slice ht h with ⟨rfl, _⟩ | ⟨a, len, cap, m, n, D, Pl, rfl, _, hl, hm, hmm, _, hi⟩
  · exact ⟨[], _, _, rfl, ⟨none, 0, rfl, Nat.le_refl _, by simp [maxLen], fun _ => rfl, fun i hi => absurd hi (by simp)⟩, rfl⟩
  · have hlm : len ≤ m := by rw [hmm]; simpa using hl
    have hx : ∀ i, i < len → ∃ (y : α) (xs : List Value), DL w (· < w.heap.size) (en y) xs ∧ ∀ j, j < sz → w.cell? (a.add (i * sz + j)) = xs[j]? := fun i hil => by
      obtain ⟨cs', hc, ht'⟩ := hi i (by omega)
      rw [hC] at hc
      obtain ⟨_, hcl, hat⟩ := World.cells?_some hc
      obtain ⟨y, hy⟩ := he H eh w n cs' _ ht'
      exact ⟨y, cs', hy, fun j hj => by rw [← hat j hj, add_add]⟩
    have hch : ∃ g : Nat → Option α, ∀ i, i < len → ∃ (y : α) (xs : List Value), g i = some y ∧ DL w (· < w.heap.size) (en y) xs ∧ ∀ j, j < sz → w.cell? (a.add (i * sz + j)) = xs[j]? := by
      classical
      refine ⟨fun i => if hil : i < len then some (hx i hil).choose else none, fun i hil => ⟨(hx i hil).choose, (hx i hil).choose_spec.choose, by simp [hil], (hx i hil).choose_spec.choose_spec⟩⟩
    obtain ⟨g, hg⟩ := hch
    obtain ⟨l, hl1, hl2⟩ := list_of_fun g len fun i hil => let ⟨y, _, hy, _⟩ := hg i hil; ⟨y, hy⟩
    subst hl1
    have hspot : 0 < l.length → a.spot = none := fun h0l => by
      obtain ⟨y, xs, _, hr, hc⟩ := hg 0 h0l
      have h0 := hc 0 hp
      have hxl : xs.length = sz := by rw [hr.len, hlen]
      rw [List.getElem?_eq_getElem (by omega)] at h0
      simp only [Nat.zero_mul, Nat.add_zero] at h0
      have e : a.add 0 = a := rfl
      rw [e] at h0
      unfold World.cell? at h0
      split at h0
      · split at h0
        · cases h0
        · rename_i hs; simpa using hs
      · cases h0
    refine ⟨l, _, _, rfl, ⟨some a, cap, rfl, hl, hm, (fun e => by cases e), fun i hil => ?_⟩, rfl⟩
    obtain ⟨y, xs, hy, hr, hc⟩ := hg i hil
    have hsp := hspot (by omega)
    obtain ⟨b, off, sp⟩ := a
    obtain rfl : sp = none := hsp
    rw [hl2 i hil] at hy
    obtain rfl := Option.some.inj hy
    have hxl : xs.length = sz := by rw [hr.len, hlen]
    have h0 := hc 0 hp
    rw [List.getElem?_eq_getElem (by omega), Addr.add_lit] at h0
    refine ⟨b, off, rfl, World.block_lt_of_cell? w _ h0, fun j hj => ?_⟩
    have hget : l.getD i d = l[i] := by rw [List.getD_eq_getElem?_getD, List.getElem?_eq_getElem hil]; rfl
    have hjl : j < (en l[i]).length := by rw [hlen]; exact hj
    obtain ⟨u, hu, hd⟩ := hr.get (List.getElem?_eq_getElem hjl)
    refine ⟨u, ?_, ?_⟩
    · have := hc j hj
      rw [Addr.add_lit, hu] at this
      exact this
    · rw [hf l i j hil hj, hget, List.getD_eq_getElem?_getD, List.getElem?_eq_getElem hjl]
      exact hd
/-- An argument. -/
theorem OpensC.arg {H : Type} {eh : TypeId × Value → H} {t : TypeId} {α : Type} {en : α → List AV} (h : OpensC P t en) {W : World} {v : Value} {d : DataW H} {p : List MemPlace} (ht : DataW.Trod eh P W 0 (fun _ => true) true t v d p) : ∃ a, DL W (· < W.heap.size) (en a) v.cells.toList := by
  obtain ⟨fuel, hf⟩ := ht
  exact h H eh W fuel _ _ hf
theorem DS.one_of {w : World} {S : Nat → Prop} {x : AV} {v : Value} (hv : v.cells = #[v]) (h : DL w S [x] v.cells.toList) : DS w S (.one x) v := by
  obtain ⟨u, us, e, h1, h2⟩ := h
  rw [hv] at e
  simp at e
  rw [e.1]; exact h1
theorem DS.agg_of {w : World} {S : Nat → Prop} {l : List AV} {v : Value} (hv : ∃ cs, v = .agg cs) (h : DL w S l v.cells.toList) : DS w S (.agg l) v := by
  obtain ⟨cs, rfl⟩ := hv
  exact ⟨cs, rfl, h⟩
end
end Go.Proofs.YticinemcmgggpabDoor

/-
  A calculus for walks, part 31: functions that draw out of a cursor: what they yield is not told, only bounded.
-/
namespace Go.Proofs.YticinemcmgggpabDoor
open Go.ChangeShapes Go.WideShapes Go.ChangeAt Go.RowKit Go.BigFrame Go.Deep
set_option linter.unusedVariables false

set_option linter.unusedSimpArgs false
section
variable {P : Program} {σ : Sig} {o : Oper}
theorem PureOp.shr40 {t t' : TypeId} {x y : Operand} {k : IntKind} {a : Nat} (ho : o.op = .binOp .shr t x y t') (hx : Kn σ x (.one (.int .u64 (a : Int)))) (hy : Kn σ y (.one (.int k 40))) : PureOp P o σ (.one (.int .u64 ((a / 1099511627776 : Nat) : Int))) := by
  refine PureOp.val fun N w0 ρ S ac w hs => ?_
  have e1 : ac.eval x = .int .u64 (a : Int) := hx.sound hs
  have e2 : ac.eval y = .int k 40 := hy.sound hs
  refine ⟨_, rfl, fun w' _ => ?_⟩
  generalize ac.eval = ev at e1 e2 ⊢
  simp only [execOp, ho, e1, e2, Sem.run_bind, eqGuard_int, Result.andThen_ok, binOp_shr]
  rw [shift_shr_u64 k (a : Int) 40 (by decide) (by decide)]
  simp [go_sem]
theorem and_255 {x : Int} (h₀ : 0 ≤ x) (h₁ : x < 18446744073709551616) : bits .and .u64 x 255 = x % 256 := bits_mask .u64 64 (by decide) (fun n h0 h1 => by rw [IntKind.wrap_u64]; omega) 8 (by decide) x h₀ h₁
theorem PureOp.and255 {t t' : TypeId} {x y : Operand} {a : Nat} (ho : o.op = .binOp .and t x y t') (hx : Kn σ x (.one (.int .u64 (a : Int)))) (hy : Kn σ y (.one (.int .u64 255))) (ha : a < 18446744073709551616) : PureOp P o σ (.one (.int .u64 ((a % 256 : Nat) : Int))) := by
  refine PureOp.val fun N w0 ρ S ac w hs => ?_
  have e1 : ac.eval x = .int .u64 (a : Int) := hx.sound hs
  have e2 : ac.eval y = .int .u64 255 := hy.sound hs
  refine ⟨_, rfl, fun w' _ => ?_⟩
  generalize ac.eval = ev at e1 e2 ⊢
  simp only [execOp, ho, e1, e2, Sem.run_bind, eqGuard_int, Result.andThen_ok, binOp_and, intBits_and]
  rw [and_255 (by omega) (by omega)]
  rfl
theorem PureOp.mulU {t t' : TypeId} {x y : Operand} {a b c : Int} (ho : o.op = .binOp .mul t x y t') (hx : Kn σ x (.one (.int .u64 a))) (hy : Kn σ y (.one (.int .u64 b))) (hc : IntKind.u64.wrap (a * b) = c) : PureOp P o σ (.one (.int .u64 c)) := by
  subst hc; exact PureOp.intOp ho hx hy rfl
theorem PureOp.addU {t t' : TypeId} {x y : Operand} {a b c : Int} (ho : o.op = .binOp .add t x y t') (hx : Kn σ x (.one (.int .u64 a))) (hy : Kn σ y (.one (.int .u64 b))) (hc : IntKind.u64.wrap (a + b) = c) : PureOp P o σ (.one (.int .u64 c)) := by
  subst hc; exact PureOp.intOp ho hx hy rfl
/-- A row of three numbers. -/
theorem FreshOp.trip {t e : Nat} {x y z : Operand} {a1 a2 a3 : Int} (ho : o.op = .buildSlice t 3 #[(0, x), (1, y), (2, z)]) (hx : Kn σ x (.one (.int .i64 a1))) (hy : Kn σ y (.one (.int .i64 a2))) (hz3 : Kn σ z (.one (.int .i64 a3)))
    (ht : P.underlying t = some (.slice e)) (hz : (P.info? e).map (fun i => (i.size, i.zero)) = some (1, some (.int .i64 0))) : FreshOp P o σ (.one (.frs (.lst 1 3 fun i _ => .int .i64 (([a1, a2, a3] : List Int).getD i 0)))) := by
  constructor
  intro N w0 ρ S a w K Q' hs hK
  have e1 : a.eval x = .int .i64 a1 := hx.sound hs
  have e2 : a.eval y = .int .i64 a2 := hy.sound hs
  have e3 : a.eval z = .int .i64 a3 := hz3.sound hs
  obtain ⟨i, hi, hi2⟩ := Option.map_eq_some_iff.1 hz
  simp only [Prod.mk.injEq] at hi2
  obtain ⟨z1, z2⟩ := hi2
  have er : (execOp a.eval o).run P w = .ok (.value (.slice (some ⟨w.heap.size, 0, none⟩) 3 3)) (w.alloc (.cells #[.int .i64 a1, .int .i64 a2, .int .i64 a3] e)) := by
    generalize a.eval = ev at e1 e2 e3 ⊢
    simp [execOp, ho, Instr.buildSlice, run_underlying ht, sizeOf, typeInfo, hi, z1, z2, zeroValue, e1, e2, e3, go_sem]
  unfold Oper.wp
  rw [er]
  have hb : Below w.heap.size w (w.alloc (.cells #[.int .i64 a1, .int .i64 a2, .int .i64 a3] e)) := (Below.refl _ _).alloc (Nat.le_refl _) _
  obtain ⟨g1, g2⟩ := hs.grow hb
  have hlt : ρ.base ≤ w.heap.size := by rw [hs.mem.base]; exact hs.mem.low
  refine hK _ _ _ g1 hb (fun b h => h.imp (fun h => h) (fun h => h.1)) g2 ⟨_, _, rfl, Nat.le_refl _, by decide, (fun h => by cases h), fun j hj => ⟨w.heap.size, 0, rfl, ⟨.inr ⟨Nat.le_refl _, by rw [World.heap_alloc, Array.size_push]; omega⟩, hlt⟩, fun q hq => ?_⟩⟩
  obtain rfl : q = 0 := by omega
  have hcell : ∀ p, (w.alloc (.cells #[.int .i64 a1, .int .i64 a2, .int .i64 a3] e)).cell? ⟨w.heap.size, p, none⟩ = (#[Value.int .i64 a1, .int .i64 a2, .int .i64 a3])[p]? := fun p => by simp [World.cell?, World.heap_alloc]
  match j, hj with
  | 0, _ => exact ⟨.int .i64 a1, by rw [hcell]; rfl, rfl⟩
  | 1, _ => exact ⟨.int .i64 a2, by rw [hcell]; rfl, rfl⟩
  | 2, _ => exact ⟨.int .i64 a3, by rw [hcell]; rfl, rfl⟩
end
/-- A cursor: the code that it reads, its place, its seed. -/
abbrev curO (c : Value) (n : Nat) (F : Nat → Nat) (p s : Nat) : AObj := .cells [.cv c (.lst 1 n fun i _ => .int .u8 ((F i : Nat) : Int)), .int .i64 (p : Int), .int .u64 (s : Int)]
/-- Where a cursor stands behind at most k draws. -/
structure CurOk (p k p' s' : Nat) : Prop where
  ge : p ≤ p'
  le : p' ≤ p + k
  sd : s' < 18446744073709551616
theorem CurOk.gd {p k p' s s' : Nat} {b : Bool} (hs : s < 18446744073709551616) (h1 : b = true → CurOk p k p' s') (h2 : b = false → p' = p ∧ s' = s) : CurOk p k p' s' := by
  cases b with
  | true => exact h1 rfl
  | false => obtain ⟨rfl, rfl⟩ := h2 rfl; exact ⟨Nat.le_refl _, Nat.le_add_right _ _, hs⟩
/-- The contract of a function that is handed a cursor and draws. -/
def FnC (P : Program) (f : FuncId) (n : Nat) (F : Nat → Nat) (args : List SV) (p s : Nat) {X : Type} (φ : X → Nat → Nat → Prop) (r : X → SV) : Prop :=
  ∀ (c : Value) (ρ : Rho) (S : Nat → Prop) (w : World) (vs : List Value), MemOk ρ.base ρ S [(1000000, curO c n F p s)] w → Pre ρ.base w → RSs ρ w S (.one (.ptr 1000000 3 0 0) :: args) vs →
    Calls P f vs.toArray w fun e w' => ∃ x p' s' v, φ x p' s' ∧ e = .returned v ∧ Below ρ.base w w' ∧ Same S w S w' ∧ MemOk ρ.base ρ S [(1000000, curO c n F p' s')] w' ∧ DR w' (newS w w') (r x) v
/-- The contract of a function that yields fresh data of which only bounds are told. -/
def FnE (P : Program) (f : FuncId) (args : List SV) {X : Type} (φ : X → Prop) (r : X → SV) : Prop :=
  ∀ (w : World) (S : Nat → Prop) (vs : List Value), Rd S w → DSs w S args vs → Calls P f vs.toArray w fun e w' => ∃ x v, φ x ∧ e = .returned v ∧ DR w' (newS w w') (r x) v ∧ Below w.heap.size w w'
/-- What a walk holds, seen as fresh data: rows of its own, plain values. -/
inductive Fw (H : Heap) : AV → AV → Prop
  | int {k : IntKind} {n : Int} : Fw H (.int k n) (.int k n)
  | bool {b : Bool} : Fw H (.bool b) (.bool b)
  | str {s : ByteArray} : Fw H (.str s) (.str s)
  | cnil {sz : Nat} {g : Nat → Nat → AV} : Fw H (.con (.slice none 0 0)) (.lst sz 0 g)
  | own {id sz n : Nat} {g : Nat → Nat → AV} {o : AObj} : (id == 1000000) = false → H.lookup id = some o → o.sz = sz → n ≤ o.n → (∀ i j, i < n → j < sz → Fw H (o.f i j) (g i j)) → Fw H (.own id sz n) (.lst sz n g)
  | tre {id i n : Nat} {X : Nat → AV} : H.lookup id = some (.trees n X) → i < n → Fw H (.tre id i) (X i)
theorem Fw.sound {B L hb : Nat} {ρ : Rho} {S : Nat → Prop} {H : Heap} {w : World} {o0 : AObj} (hm : MemOk B ρ S H w) (hS : ∀ b, b < L → b ≠ hb → S b) (h0 : H.lookup 1000000 = some o0) (hn0 : 0 < o0.n) (h1 : (ρ 1000000).1 = hb) {x y : AV} (h : Fw H x y) : ∀ {v : Value}, R ρ w S x v → D w (freshTo L w) y v := by
  induction h with
  | int => exact fun h => h
  | bool => exact fun h => h
  | str => exact fun h => h
  | cnil =>
    intro v hv
    have e : v = Value.slice none 0 0 := hv
    exact ⟨none, 0, e, Nat.le_refl _, by decide, fun _ => rfl, fun i hi => absurd hi (by omega)⟩
  | @tre id i n X hX hi =>
    intro v hv
    obtain ⟨e, _⟩ := hv
    rw [e]
    obtain ⟨t1, t2⟩ := hm.tree id n X hX i hi
    refine t1.d fun b hb' => ?_
    obtain ⟨q1, q2, q3, q4, _⟩ := t2 b hb'
    have hne : b ≠ hb := fun e => q4 1000000 o0 h0 (hm.pos h0 hn0) (h1.trans e.symm)
    refine ⟨?_, q2⟩
    rcases Nat.lt_or_ge b L with h | h
    · exact absurd (hS b h hne) q3
    · exact h
  | @own id sz n g o hid ho hsz hn _ ih =>
    intro v hv
    subst hsz
    obtain ⟨A, hv, hn1, hn2, hA⟩ := hv
    refine ⟨A, _, hv, hn1, hn2, (fun e => by rcases hA with h | ⟨_, h⟩; (· rw [h] at e; cases e); (· exact h)), fun i hi => ?_⟩
    have hc : (ρ id).2 ≠ 0 := by omega
    have hlt := hm.blk ho hc
    obtain ⟨cs, e, k1, k2, k3, k4, k5, k6, k7⟩ := hm.obj id o ho hc
    have hne : (ρ id).1 ≠ hb := by
      rw [← h1]
      exact hm.inj id 1000000 o o0 ho h0 (by simpa using hid) hc (hm.pos h0 hn0)
    have hL : L ≤ (ρ id).1 := by
      rcases Nat.lt_or_ge (ρ id).1 L with h | h
      · exact absurd (hS _ h hne) k6
      · exact h
    refine ⟨(ρ id).1, 0, by rcases hA with h | ⟨_, h⟩; (· exact h); (· exact absurd h hc), ⟨hL, hlt⟩, fun j hj => ?_⟩
    obtain ⟨u, hu, hr⟩ := k7 i j (by omega) hj
    refine ⟨u, ?_, ih i j hi hj hr⟩
    simp [World.cell?, k1, hu]
def FwL (H : Heap) : List AV → List AV → Prop
  | [], [] => True
  | x :: l, y :: m => Fw H x y ∧ FwL H l m
  | _, _ => False
def FwS (H : Heap) : SV → SV → Prop
  | .one x, .one y => Fw H x y
  | .agg l, .agg m => FwL H l m
  | .tup2 (.one a) (.one b), .tup2 (.one c) (.one d) => Fw H a c ∧ Fw H b d
  | .tup3 (.one a) (.one b) (.one e), .tup3 (.one c) (.one d) (.one f) => Fw H a c ∧ Fw H b d ∧ Fw H e f
  | _, _ => False
theorem FwL.sound {B L hb : Nat} {ρ : Rho} {S : Nat → Prop} {H : Heap} {w : World} {o0 : AObj} (hm : MemOk B ρ S H w) (hS : ∀ b, b < L → b ≠ hb → S b) (h0 : H.lookup 1000000 = some o0) (hn0 : 0 < o0.n) (h1 : (ρ 1000000).1 = hb) : ∀ {l m : List AV} {us : List Value}, FwL H l m → RL ρ w S l us → DL w (freshTo L w) m us
  | [], [], _, _, h => h
  | _ :: _, _ :: _, _, ⟨g1, g2⟩, ⟨u, us, e, k1, k2⟩ => ⟨u, us, e, g1.sound hm hS h0 hn0 h1 k1, FwL.sound hm hS h0 hn0 h1 g2 k2⟩
  | [], _ :: _, _, h, _ => h.elim
  | _ :: _, [], _, h, _ => h.elim
theorem FwS.sound {B L hb : Nat} {ρ : Rho} {S : Nat → Prop} {H : Heap} {w : World} {o0 : AObj} (hm : MemOk B ρ S H w) (hS : ∀ b, b < L → b ≠ hb → S b) (h0 : H.lookup 1000000 = some o0) (hn0 : 0 < o0.n) (h1 : (ρ 1000000).1 = hb) {s t : SV} {v : Value} (h : FwS H s t) (hr : RS ρ w S s v) : DR w (freshTo L w) t v := by
  unfold FwS at h
  split at h
  · exact h.sound hm hS h0 hn0 h1 hr
  · obtain ⟨us, e, hl⟩ := hr
    exact ⟨us, e, FwL.sound hm hS h0 hn0 h1 h hl⟩
  · obtain ⟨a, b, e, g1, g2⟩ := hr
    exact ⟨a, b, e, h.1.sound hm hS h0 hn0 h1 g1, h.2.sound hm hS h0 hn0 h1 g2⟩
  · obtain ⟨a, b, c, e, g1, g2, g3⟩ := hr
    exact ⟨a, b, c, e, h.1.sound hm hS h0 hn0 h1 g1, h.2.1.sound hm hS h0 hn0 h1 g2, h.2.2.sound hm hS h0 hn0 h1 g3⟩
  · exact h.elim
/-- How a body that draws ends. -/
def RetC (P : Program) (fn : Func) (c : Value) (n : Nat) (F : Nat → Nat) {X : Type} (φ : X → Nat → Nat → Prop) (r : X → SV) : Exit → Sig → Prop
  | .ret, σ => ∃ x p' s' t, φ x p' s' ∧ ResL P σ fn.results.toList t ∧ FwS σ.heap t (r x) ∧ σ.heap.lookup 1000000 = some (curO c n F p' s')
  | .normal, σ => ∃ x p' s' t, φ x p' s' ∧ ResL P σ fn.results.toList t ∧ FwS σ.heap t (r x) ∧ σ.heap.lookup 1000000 = some (curO c n F p' s')
  | _, _ => False
theorem cur_view {ρ : Rho} {w : World} {S S' : Nat → Prop} {c : Value} {n : Nat} {F : Nat → Nat} {p s p' s' : Nat} (h : ∀ u, R ρ w S (.cv c (.lst 1 n fun i _ => .int .u8 ((F i : Nat) : Int))) u → R ρ w S' (.cv c (.lst 1 n fun i _ => .int .u8 ((F i : Nat) : Int))) u) {i j : Nat} {u : Value} (hr : R ρ w S ((curO c n F p s).f i j) u) : R ρ w S' ((curO c n F p s).f i j) u := by
  unfold curO AObj.f at hr ⊢
  match j with
  | 0 => exact h u hr
  | 1 => exact hr
  | 2 => exact hr
  | k + 3 => exact hr
theorem FnC.of_body {P : Program} {f : FuncId} {fn : Func} {b : Code} {n : Nat} {F : Nat → Nat} {args : List SV} {p s : Nat} {X : Type} {φ : X → Nat → Nat → Prop} {r : X → SV} (hf : P.funcs[f]? = some fn) (hb : fn.body = some b) (hle : args.length + 1 ≤ fn.ntmps)
    (h : ∀ w0 c, AW P fn.ntmps w0 b (RetC P fn c n F φ r) ⟨enumE 0 (.one (.ptr 1000000 3 0 0) :: args), [(1000000, curO c n F p s)]⟩) : FnC P f n F args p s φ r := by
  intro c ρ0 S w vs hm hpre hd
  have hl := hd.len
  have hlk : ([(1000000, curO c n F p s)] : Heap).lookup 1000000 = some (curO c n F p s) := by simp
  have hpos : (ρ0 1000000).2 ≠ 0 := hm.pos hlk (i := 0) Nat.zero_lt_one
  obtain ⟨cs0, e0, k1, k2, k3, k4, k5, k6, k7⟩ := hm.obj _ _ hlk hpos
  obtain ⟨u0, hu0, hr0⟩ := k7 0 0 Nat.zero_lt_one (Nat.zero_lt_succ 2)
  have hcv : u0 = c ∧ D w S (.lst 1 n fun i _ => .int .u8 ((F i : Nat) : Int)) c := by
    have hr0 : u0 = c ∧ D w S (.lst 1 n fun i _ => .int .u8 ((F i : Nat) : Int)) u0 := hr0
    exact ⟨hr0.1, hr0.1 ▸ hr0.2⟩
  let S0 : Nat → Prop := fun q => q < w.heap.size ∧ q ≠ (ρ0 1000000).1
  have hsub : ∀ q, S q → S0 q := fun q hq => ⟨hm.lt q hq, fun e => k6 (e ▸ hq)⟩
  have hsame0 : Same S w S0 w := ⟨hsub, fun _ _ => rfl⟩
  have only : ∀ id o, ([(1000000, curO c n F p s)] : Heap).lookup id = some o → id = 1000000 ∧ o = curO c n F p s := by
    intro id o ho
    rcases lookup_put ho with ⟨rfl, rfl⟩ | ⟨_, ho⟩
    · exact ⟨rfl, rfl⟩
    · simp at ho
  have hm0 : MemOk ρ0.base ρ0 S0 [(1000000, curO c n F p s)] w := by
    refine ⟨rfl, hm.low, fun q hq => hq.1, hm.cap, ?_, hm.inj, ?_⟩
    · intro id o ho hc
      obtain ⟨rfl, rfl⟩ := only id o ho
      refine ⟨cs0, e0, k1, k2, k3, k4, k5, fun hq => hq.2 rfl, fun i j hi hj => ?_⟩
      obtain ⟨u, hu, hr⟩ := k7 i j hi hj
      exact ⟨u, hu, hr.keep hsame0 (Rn.refl _ _)⟩
    · intro id m X hX
      have := (only id _ hX).2
      cases this
  refine calls_of_wp hf hb ?_
  refine h ⟨ρ0.base, w, S0, w, ρ0, hpre⟩ c ρ0 S0 _ w _ (fun e ρ S' σ a w' hs hq => ?_) ⟨?_, rfl, ⟨Below.refl _ _, Same.refl _ _, fun _ _ => .refl _ _⟩, hm0, ?_⟩
  · have fin : (∃ x p' s' t, φ x p' s' ∧ ResL P σ fn.results.toList t ∧ FwS σ.heap t (r x) ∧ σ.heap.lookup 1000000 = some (curO c n F p' s')) → a.defers = [] ∧ ∃ v, (results fn a.tmps).run P w' = .ok v w' ∧
        (∃ x p' s' v', φ x p' s' ∧ Ending.returned v = .returned v' ∧ Below ρ0.base w w' ∧ Same S w S w' ∧ MemOk ρ0.base ρ0 S [(1000000, curO c n F p' s')] w' ∧ DR w' (newS w w') (r x) v') := fun ⟨x, p', s', t, hφ, hr, hfw, hcur⟩ => by
      obtain ⟨v, hv, hrun⟩ := hr.run hs
      have hid := hs.below.ids 1000000 (Nat.le_refl _)
      have e1 : (ρ 1000000) = (ρ0 1000000) := hid.m
      have hS0 : Same S0 w S' w' := hs.below.same
      have hbl := hs.below.old
      have hsz : w.heap.size ≤ w'.heap.size := hbl.size
      have hSS : Same S w S w' := ⟨fun _ h => h, fun q hq => hS0.blk q (hsub q hq)⟩
      have hpos' : (ρ 1000000).2 ≠ 0 := by rw [e1]; exact hpos
      obtain ⟨cs, e, g1, g2, g3, g4, g5, g6, g7⟩ := hs.mem.obj _ _ hcur hpos'
      rw [e1] at g1 g2 g3 g4 g5 g6
      refine ⟨hs.defers, v, hrun, x, p', s', v, hφ, rfl, hbl, hSS, ?_, ?_⟩
      · have only' : ∀ id o, ([(1000000, curO c n F p' s')] : Heap).lookup id = some o → id = 1000000 ∧ o = curO c n F p' s' := by
          intro id o ho
          rcases lookup_put ho with ⟨rfl, rfl⟩ | ⟨_, ho⟩
          · exact ⟨rfl, rfl⟩
          · simp at ho
        refine ⟨rfl, Nat.le_trans hm.low hsz, fun q hq => Nat.lt_of_lt_of_le (hm.lt q hq) hsz, fun id o ho => ?_, fun id o ho hc => ?_, fun id id' o o' ho ho' hne => ?_, fun id m X hX => ?_⟩
        · obtain ⟨rfl, rfl⟩ := only' id o ho; exact g3
        · obtain ⟨rfl, rfl⟩ := only' id o ho
          refine ⟨cs, e, g1, g2, g3, g4, k5, k6, fun i j hi hj => ?_⟩
          obtain ⟨u, hu, hr⟩ := g7 i j hi hj
          refine ⟨u, hu, ?_⟩
          unfold curO AObj.f at hr ⊢
          match j with
          | 0 =>
            have hr : u = c ∧ D w' S' _ u := hr
            exact ⟨hr.1, by rw [hr.1]; exact hcv.2.keep hSS⟩
          | 1 => exact hr
          | 2 => exact hr
          | k + 3 => exact hr
        · obtain ⟨rfl, rfl⟩ := only' id o ho; exact absurd (only' id' o' ho').1.symm hne
        · cases (only' id _ hX).2
      · exact hfw.sound hs.mem (L := w.heap.size) (hb := (ρ0 1000000).1) (fun q h1 h2 => hS0.sub q ⟨h1, h2⟩) hcur Nat.zero_lt_one (by rw [e1]) hv
    cases e
    case ret => exact fin hq
    case normal => exact fin hq
    all_goals exact hq.elim
  · simp [hl]; omega
  · intro t s' ht
    obtain ⟨j, u, e1, e2, e3⟩ := hd.get ht
    have hj : j < vs.length := (List.getElem?_eq_some_iff.1 e2).1
    have : ((vs.toArray ++ Array.replicate (fn.ntmps - vs.toArray.size) undef).getD t undef) = u := by
      rw [Array.getD_eq_getD_getElem?, Array.getElem?_append_left (by simp; omega)]
      simp [show t = j by omega, e2]
    show RS _ w S0 s' ((vs.toArray ++ Array.replicate (fn.ntmps - vs.toArray.size) undef).getD t undef)
    rw [this]
    exact e3.keep hsame0 (Rn.refl _ _)
def RetE (P : Program) (fn : Func) {X : Type} (φ : X → Prop) (r : X → SV) : Exit → Sig → Prop
  | .ret, σ => ∃ x s, φ x ∧ ResL P σ fn.results.toList s ∧ FvS σ.heap s (r x)
  | .normal, σ => ∃ x s, φ x ∧ ResL P σ fn.results.toList s ∧ FvS σ.heap s (r x)
  | _, _ => False
theorem FnE.of_body {P : Program} {f : FuncId} {fn : Func} {c : Code} {args : List SV} {X : Type} {φ : X → Prop} {r : X → SV} (hf : P.funcs[f]? = some fn) (hb : fn.body = some c) (hle : args.length ≤ fn.ntmps)
    (h : ∀ w0, AW P fn.ntmps w0 c (RetE P fn φ r) ⟨enumE 0 args, []⟩) : FnE P f args φ r := by
  intro w S vs hS hd
  have hl := hd.len
  refine calls_of_wp hf hb ?_
  refine h ⟨w.heap.size, w, S, w, ⟨fun _ => (0, 0), w.heap.size, fun _ _ => undef, fun _ _ _ => False, fun _ => 0⟩, hS.pre⟩ ⟨fun _ => (0, 0), w.heap.size, fun _ _ => undef, fun _ _ _ => False, fun _ => 0⟩ S _ w _ (fun e ρ S' σ a w' hs hq => ?_) ⟨?_, rfl, ⟨Below.refl _ _, Same.refl _ _, fun _ _ => .refl _ _⟩, ⟨rfl, Nat.le_refl _, hS, fun id o ho => by simp at ho, fun id o ho => by simp at ho, fun id id' o o' ho => by simp at ho, fun id n X ho => by simp at ho⟩, ?_⟩
  · have fin : (∃ x s, φ x ∧ ResL P σ fn.results.toList s ∧ FvS σ.heap s (r x)) → a.defers = [] ∧ ∃ v, (results fn a.tmps).run P w' = .ok v w' ∧ (∃ x v', φ x ∧ Ending.returned v = .returned v' ∧ DR w' (newS w w') (r x) v' ∧ Below w.heap.size w w') := fun ⟨x, s, hφ, hr, hfv⟩ => by
      obtain ⟨v, hv, hrun⟩ := hr.run hs
      exact ⟨hs.defers, v, hrun, x, v, hφ, rfl, hfv.sound hs.mem hv, hs.below.old⟩
    cases e
    case ret => exact fin hq
    case normal => exact fin hq
    all_goals exact hq.elim
  · simp [hl]; omega
  · intro t s ht
    obtain ⟨j, u, e1, e2, e3⟩ := hd.get ht
    have hj : j < vs.length := (List.getElem?_eq_some_iff.1 e2).1
    have : ((vs.toArray ++ Array.replicate (fn.ntmps - vs.toArray.size) undef).getD t undef) = u := by
      rw [Array.getD_eq_getD_getElem?, Array.getElem?_append_left (by simp; omega)]
      simp [show t = j by omega, e2]
    show RS _ w S s ((vs.toArray ++ Array.replicate (fn.ntmps - vs.toArray.size) undef).getD t undef)
    rw [this]
    exact e3.toRS
section
variable {P : Program} {N : Nat} {w0 : Start} {σ : Sig} {ops : Array Oper} {rest : List Oper} {o : Oper} {Q : Sig → Prop}
theorem lookup_drop {id : Nat} : ∀ {H : Heap} {k : Nat} {q : AObj}, (H.filter fun p => p.1 != id).lookup k = some q → H.lookup k = some q ∧ k ≠ id
  | [], _, _, h => by simp at h
  | (a, b) :: l, k, q, h => by
    by_cases e : a = id
    · subst e
      rw [List.filter_cons_of_neg (by simp)] at h
      obtain ⟨h1, h2⟩ := lookup_drop h
      exact ⟨by rw [List.lookup_cons, show (k == a) = false by simpa using h2]; exact h1, h2⟩
    · rw [List.filter_cons_of_pos (by simpa using e)] at h
      rcases lookup_put h with ⟨rfl, rfl⟩ | ⟨hne, h⟩
      · exact ⟨by simp, e⟩
      · obtain ⟨h1, h2⟩ := lookup_drop h
        exact ⟨by rw [List.lookup_cons, show (k == a) = false by simpa using hne]; exact h1, h2⟩
/-- More blocks are read, of which no object is one. -/
theorem St.widen {ρ : Rho} {S T : Nat → Prop} {a : Act} {w : World} (hs : St N w0 ρ S σ a w) (hT : ∀ b, T b → b < w.heap.size) (ho : ∀ id o, σ.heap.lookup id = some o → (ρ id).2 ≠ 0 → ¬ T (ρ id).1) (ht : ∀ id n X i b, σ.heap.lookup id = some (.trees n X) → i < n → ρ.tb id i b → ¬ T b) :
    Same S w (fun b => S b ∨ T b) w ∧ St N w0 ρ (fun b => S b ∨ T b) σ a w := by
  have hsame : Same S w (fun b => S b ∨ T b) w := ⟨fun b h => .inl h, fun b h => rfl⟩
  refine ⟨hsame, hs.size, hs.defers, hs.below.step (Below.refl _ _) hsame, ⟨hs.mem.base, hs.mem.low, ?_, hs.mem.cap, ?_, hs.mem.inj, ?_⟩, fun t s ht => (hs.env t s ht).keep hsame (Rn.refl _ _)⟩
  · rintro b (h | h)
    · exact hs.mem.lt b h
    · exact hT b h
  · intro id o hl hc
    obtain ⟨cs, e, h1, h2, h3, h4, h5, h6, h7⟩ := hs.mem.obj id o hl hc
    refine ⟨cs, e, h1, h2, h3, h4, h5, ?_, fun i j hi hj => ?_⟩
    · rintro (h | h)
      · exact h6 h
      · exact ho id o hl hc h
    · obtain ⟨u, hu, hr⟩ := h7 i j hi hj
      exact ⟨u, hu, hr.keep hsame (Rn.refl _ _)⟩
  · refine hs.mem.treeOf (Nat.le_refl _) (fun k n X hX => ⟨X, hX, fun _ _ => rfl, rfl, rfl, rfl⟩) (fun k n X i b hX hi hb' => ?_) (fun k p hp hc => .inl ⟨p, hp, rfl⟩)
    obtain ⟨q1, q2, q3, _⟩ := (hs.mem.tree k n X hX i hi).2 b hb'
    refine ⟨rfl, q2, ?_⟩
    rintro (h | h)
    · exact q3 h
    · exact ht k n X i b hX hi hb' h
/-- A call that is handed the cursor. -/
theorem St.curCall {ρ : Rho} {S : Nat → Prop} {a : Act} {w : World} (hs : St N w0 ρ S σ a w) {f id p s n : Nat} {c : Value} {F : Nat → Nat} {xs : List Operand} {ts : Array TypeId} {args : List SV} {Hr : Heap} {X : Type} {φ : X → Nat → Nat → Prop} {r : X → SV} (ho : o.op = .call { callee := .value (.func f), args := xs.toArray, argTypes := ts })
    (hF : FnC P f n F args p s φ r) (hB : callB P f = true) (hk : KnG σ Hr (fun _ => id) xs (.one (.ptr 1000000 3 0 0) :: args))
    (hH : σ.heap.lookup id = some (curO c n F p s))
    (hr : ∀ k q, Hr.lookup k = some q → σ.heap.lookup k = some q ∧ k ≠ id) {K : Act → World → Prop} {Q' : Exit → Act → World → Prop}
    (h : ∀ x p' s' v S' w', φ x p' s' → St N w0 ρ S' ⟨σ.env, (id, curO c n F p' s') :: Hr⟩ a w' → RS ρ w' S' (r x).fr v → K (a.put o.dst v) w') : o.wp P a w K Q' := by
  let g : Nat → Nat := fun _ => id
  have hpos : (ρ id).2 ≠ 0 := hs.mem.pos hH (i := 0) Nat.zero_lt_one
  obtain ⟨cs0, e0, k1, k2, k3, k4, k5, k6, k7⟩ := hs.mem.obj _ _ hH hpos
  have hmr : MemOk w0.base ρ S Hr w := hs.mem.le' fun k q hq => HLe.refl (hr k q hq).1
  have hsame : Same S w (withOwn ρ Hr S) w := ⟨fun _ h => .inl h, fun _ _ => rfl⟩
  have only : ∀ {p s : Nat} k q, ([(1000000, curO c n F p s)] : Heap).lookup k = some q → k = 1000000 ∧ q = curO c n F p s := by
    intro p s k q ho
    rcases lookup_put ho with ⟨rfl, rfl⟩ | ⟨_, ho⟩
    · exact ⟨rfl, rfl⟩
    · simp at ho
  have hnot : ¬ withOwn ρ Hr S (ρ id).1 := by
    rintro (hb | ⟨id', p', hp', hc', e'⟩ | ⟨id', n', X', i', hX', hi', hb'⟩)
    · exact k6 hb
    · exact hs.mem.inj id' id p' _ (hr id' p' hp').1 hH (hr id' p' hp').2 hc' hpos e'
    · exact ((hs.mem.tree id' n' X' (hr id' _ hX').1 i' hi').2 _ hb').2.2.2.1 id _ hH hpos rfl
  have hm : MemOk (ρ.ren g).base (ρ.ren g) (withOwn ρ Hr S) [(1000000, curO c n F p s)] w := by
    refine ⟨rfl, by rw [show (ρ.ren g).base = w0.base from hs.mem.base]; exact hs.mem.low, ?_, ?_, ?_, ?_, ?_⟩
    · rintro b (hb | ⟨id, p, hp, hc, rfl⟩ | ⟨id, n, X, i, hX, hi, hb⟩)
      · exact hs.mem.lt b hb
      · exact hs.mem.blk (hr id p hp).1 hc
      · exact ((hs.mem.tree id n X (hr id _ hX).1 i hi).2 b hb).2.1
    · intro k q hq
      obtain ⟨rfl, rfl⟩ := only k q hq
      exact k3
    · intro k q hq hc
      obtain ⟨rfl, rfl⟩ := only k q hq
      refine ⟨cs0, e0, k1, k2, k3, k4, by rw [show (ρ.ren g).base = w0.base from hs.mem.base]; exact k5, hnot, fun i j hi hj => ?_⟩
      obtain ⟨u, hu, hru⟩ := k7 i j hi hj
      refine ⟨u, hu, ?_⟩
      unfold curO AObj.f at hru ⊢
      match j with
      | 0 =>
        have hru : u = c ∧ D w S _ u := hru
        exact ⟨hru.1, hru.2.keep hsame⟩
      | 1 => exact hru
      | 2 => exact hru
      | k + 3 => exact hru
    · intro k k' q q' hq hq' hne
      exact absurd ((only k q hq).1.trans (only k' q' hq').1.symm) hne
    · intro k m X hX
      cases (only k _ hX).2
  have h2 := hF c (ρ.ren g) (withOwn ρ Hr S) w _ hm (show Pre ρ.base w by rw [hs.mem.base]; exact hs.preB) (hk.sound hs hmr hsame)
  have e : (execOp a.eval o).run P w = .ok (.enter f (xs.map a.eval).toArray) w := by
    have := execCall (P := P) (ev := a.eval) (caps := #[]) ho rfl hB w
    simpa using this
  unfold Oper.wp
  rw [e]
  refine Calls.mono h2 fun e w' ⟨x, p', s', v, hφ, he, hb, hsm, hm', hv⟩ => ?_
  subst he
  have hbb : (ρ.ren g).base = w0.base := hs.mem.base
  rw [hbb] at hb hm'
  have hkeep : Same S w S w' := ⟨fun _ h => h, fun b hb' => hsm.blk b (.inl hb')⟩
  have hl' : ([(1000000, curO c n F p' s')] : Heap).lookup 1000000 = some (curO c n F p' s') := by simp
  obtain ⟨cs, e1, g1, g2, g3, g4, g5, g6, g7⟩ := hm'.obj 1000000 _ hl' hpos
  have hheap : ∀ k q, ((id, curO c n F p' s') :: Hr : Heap).lookup k = some q → (k = id ∧ q = curO c n F p' s') ∨ (k ≠ id ∧ Hr.lookup k = some q) := by
    intro k q hq
    rcases lookup_put hq with ⟨rfl, rfl⟩ | ⟨h1, h2⟩
    · exact .inl ⟨rfl, rfl⟩
    · exact .inr ⟨h1, h2⟩
  have hst : St N w0 ρ S ⟨σ.env, (id, curO c n F p' s') :: Hr⟩ a w' := by
    refine ⟨hs.size, hs.defers, hs.below.step hb hkeep, ⟨hs.mem.base, Nat.le_trans hs.mem.low hb.size, fun b hb' => Nat.lt_of_lt_of_le (hs.mem.lt b hb') hb.size, ?_, ?_, ?_, ?_⟩, fun t s ht => (hs.env t s ht).keep hkeep (Rn.refl _ _)⟩
    · intro k q hq
      rcases hheap k q hq with ⟨rfl, rfl⟩ | ⟨_, hq⟩
      · exact g3
      · exact hmr.cap k q hq
    · intro k q hq hc
      rcases hheap k q hq with ⟨rfl, rfl⟩ | ⟨_, hq⟩
      · refine ⟨cs, e1, g1, g2, g3, g4, k5, k6, fun i j hi hj => ?_⟩
        obtain ⟨u, hu, hru⟩ := g7 i j hi hj
        refine ⟨u, hu, ?_⟩
        obtain ⟨u0, hu0, hr0⟩ := k7 0 0 Nat.zero_lt_one (Nat.zero_lt_succ 2)
        have hr0 : u0 = c ∧ D w S (.lst 1 n fun i _ => .int .u8 ((F i : Nat) : Int)) u0 := hr0
        unfold curO AObj.f at hru ⊢
        match j with
        | 0 =>
          have hru : u = c ∧ D w' _ _ u := hru
          exact ⟨hru.1, by rw [hru.1, ← hr0.1]; exact hr0.2.keep hkeep⟩
        | 1 => exact hru
        | 2 => exact hru
        | k + 3 => exact hru
      · obtain ⟨cs, e, h1, h2, h3, h4, h5, h6, h7⟩ := hmr.obj k q hq hc
        refine ⟨cs, e, by rw [hsm.blk _ (.inr (.inl ⟨k, q, hq, hc, rfl⟩))]; exact h1, h2, h3, h4, h5, h6, fun i j hi hj => ?_⟩
        obtain ⟨u, hu, hru⟩ := h7 i j hi hj
        exact ⟨u, hu, hru.keep hkeep (Rn.refl _ _)⟩
    · intro k k' q q' hq hq' hne hc hc'
      have old : ∀ k q, ((id, curO c n F p' s') :: Hr : Heap).lookup k = some q → ∃ q, σ.heap.lookup k = some q := by
        intro k q hq
        rcases hheap k q hq with ⟨rfl, rfl⟩ | ⟨_, hq⟩
        · exact ⟨_, hH⟩
        · exact ⟨q, (hr k q hq).1⟩
      obtain ⟨z, hz⟩ := old k q hq
      obtain ⟨z', hz'⟩ := old k' q' hq'
      exact hs.mem.inj k k' z z' hz hz' hne hc hc'
    · refine hmr.treeOf (Nat.le_refl _) (fun k m X hX => ?_) (fun k m X i b hX hi hb' => ?_) (fun k q hq hc => ?_)
      · rcases hheap k _ hX with ⟨_, h⟩ | ⟨_, h⟩
        · cases h
        · exact ⟨X, h, fun _ _ => rfl, rfl, rfl, rfl⟩
      · obtain ⟨q1, q2, q3, _⟩ := (hmr.tree k m X hX i hi).2 b hb'
        exact ⟨hsm.blk b (.inr (.inr ⟨k, m, X, i, hX, hi, hb'⟩)), Nat.lt_of_lt_of_le q2 hb.size, q3⟩
      · rcases hheap k q hq with ⟨rfl, rfl⟩ | ⟨_, hq⟩
        · exact .inr fun k2 m X i hX hi hb' => ((hs.mem.tree k2 m X (hr k2 _ hX).1 i hi).2 _ hb').2.2.2.1 k _ hH hc rfl
        · exact .inl ⟨q, hq, rfl⟩
  have hblk : ∀ k q, ((id, curO c n F p' s') :: Hr : Heap).lookup k = some q → (ρ k).2 ≠ 0 → (ρ k).1 < w.heap.size := by
    intro k q hq hc
    rcases hheap k q hq with ⟨rfl, rfl⟩ | ⟨_, hq⟩
    · exact hs.mem.blk hH hc
    · exact hmr.blk hq hc
  obtain ⟨w1, w2⟩ := hst.widen (T := newS w w') (fun b hb => hb.2) (fun k q hq hc hn => by have := hblk k q hq hc; have := hn.1; omega) (fun k m X i b hX hi hb' hn => by
    rcases hheap k _ hX with ⟨_, h⟩ | ⟨_, h⟩
    · cases h
    · have := ((hmr.tree k m X h i hi).2 b hb').2.1
      have := hn.1
      omega)
  exact h x p' s' v _ w' hφ w2 (hv.fr fun b hb => ⟨.inr hb, by rw [hs.mem.base]; exact Nat.le_trans hs.mem.low hb.1⟩)
theorem ARun.cur {f id d p s n : Nat} {c : Value} {F : Nat → Nat} {xs : List Operand} {ts : Array TypeId} {args : List SV} {X : Type} {φ : X → Nat → Nat → Prop} {r : X → SV} (ho : o.op = .call { callee := .value (.func f), args := xs.toArray, argTypes := ts })
    (hF : FnC P f n F args p s φ r) (hB : callB P f = true) (hk : KnG σ (σ.heap.filter fun p => p.1 != id) (fun _ => id) xs (.one (.ptr 1000000 3 0 0) :: args))
    (hH : σ.heap.lookup id = some (curO c n F p s))
    (hg : o.guard = none) (hd : o.dst = some d) (hN : d < N) (h : ∀ x p' s', φ x p' s' → ARun P N w0 ops Q rest ⟨(d, (r x).fr) :: σ.env, (id, curO c n F p' s') :: σ.heap.filter fun p => p.1 != id⟩) : ARun P N w0 ops Q (o :: rest) σ := by
  intro ρ S a w Q' hQ hs
  refine wpList_plain hg fun K hK => ?_
  refine hs.curCall ho hF hB hk hH (fun _ _ h => lookup_drop h) fun x p' s' v S' w' hφ hst hv => ?_
  rw [hd]
  exact hK _ _ (h x p' s' hφ ρ S' _ w' Q' hQ (hst.put hN hv))
theorem ARun.gcur {f id d p s n g t : Nat} {want b : Bool} {c : Value} {F : Nat → Nat} {xs : List Operand} {ts : Array TypeId} {args : List SV} {X : Type} [Inhabited X] {φ : X → Nat → Nat → Prop} {r : X → SV} (hgate : Gate σ t want b) (ho : o.op = .call { callee := .value (.func f), args := xs.toArray, argTypes := ts })
    (hF : FnC P f n F args p s φ r) (hB : callB P f = true) (hk : b = true → KnG σ (σ.heap.filter fun p => p.1 != id) (fun _ => id) xs (.one (.ptr 1000000 3 0 0) :: args))
    (hH : σ.heap.lookup id = some (curO c n F p s))
    (hg : o.guard = some (g, want)) (hgd : (ops[g]?).bind (·.dst) = some t) (ht : t < N) (hd : o.dst = some d) (hN : d < N) (h : ∀ x p' s', (b = true → φ x p' s') → (b = false → p' = p ∧ s' = s) → ARun P N w0 ops Q rest ⟨(d, .gd b (r x).fr) :: σ.env, (id, curO c n F p' s') :: σ.heap.filter fun p => p.1 != id⟩) : ARun P N w0 ops Q (o :: rest) σ := by
  intro ρ S a w Q' hQ hs
  have hw := hgate.sound (ops := ops) hs ht hg hgd
  refine wpList_step fun K hK => ?_
  cases b with
  | true =>
    rw [if_pos hw]
    refine hs.curCall ho hF hB (hk rfl) hH (fun _ _ h => lookup_drop h) fun x p' s' v S' w' hφ hst hv => ?_
    rw [hd]
    exact hK _ _ (h x p' s' (fun _ => hφ) (fun e => by cases e) ρ S' _ w' Q' hQ (hst.put hN (s := .gd true _) ⟨fun _ => hv, (fun e => by cases e)⟩))
  | false =>
    rw [if_neg (by rw [hw]; simp), hd]
    have hst : St N w0 ρ S ⟨σ.env, (id, curO c n F p s) :: σ.heap.filter fun p => p.1 != id⟩ a w := ⟨hs.size, hs.defers, hs.below, hs.mem.le' (fun k q hq => HLe.refl (by
      rcases lookup_put hq with ⟨rfl, rfl⟩ | ⟨_, hq⟩
      · exact hH
      · exact (lookup_drop hq).1)), hs.env⟩
    exact hK _ _ (h default p s (fun e => by cases e) (fun _ => ⟨rfl, rfl⟩) ρ S _ w Q' hQ (hst.put hN (s := .gd false _) ⟨(fun e => by cases e), fun _ => rfl⟩))
/-- A call of a function that yields fresh data of which only bounds are told. -/
theorem ARun.draw {f d : Nat} {xs : List Operand} {ts : Array TypeId} {args : List SV} {X : Type} {φ : X → Prop} {r : X → SV} (ho : o.op = .call { callee := .value (.func f), args := xs.toArray, argTypes := ts })
    (hF : FnE P f args φ r) (hB : callB P f = true) (hk : KnA σ xs args)
    (hg : o.guard = none) (hd : o.dst = some d) (hN : d < N) (h : ∀ x, φ x → ARun P N w0 ops Q rest ⟨(d, (r x).fr) :: σ.env, σ.heap⟩) : ARun P N w0 ops Q (o :: rest) σ := by
  intro ρ S a w Q' hQ hs
  refine wpList_plain hg fun K hK => ?_
  have h2 := hF w _ _ ⟨withOwn_lt hs, hs.pre⟩ (KnA.sound hs hk)
  have e : (execOp a.eval o).run P w = .ok (.enter f (xs.map a.eval).toArray) w := by
    have := execCall (P := P) (ev := a.eval) (caps := #[]) ho rfl hB w
    simpa using this
  unfold Oper.wp
  rw [e]
  refine Calls.mono h2 fun e w' ⟨x, v, hφ, he, hv, hb⟩ => ?_
  subst he
  obtain ⟨g1, g2⟩ := hs.grow hb
  have hlow := hs.mem.low
  have hbase := hs.mem.base
  rw [hd]
  exact hK _ _ (h x hφ ρ _ _ w' Q' hQ (g2.put hN (hv.fr fun b hb' => ⟨.inr hb', by have := hb'.1; omega⟩)))
/-- The value in a slot, named. -/
theorem AW.cv {b : Code} {Q2 : Exit → Sig → Prop} {t sz n : Nat} {F : Nat → Nat → AV} (ht : σ.env.lookup t = some (.one (.lst sz n F))) (hk : ∀ c, AW P N w0 b Q2 ⟨(t, .one (.cv c (.lst sz n F))) :: σ.env, σ.heap⟩) : AW P N w0 b Q2 σ := by
  intro ρ S a w Q' hQ hs
  have h0 := hs.env _ _ ht
  refine hk (a.tmps.getD t undef) ρ S a w Q' hQ ⟨hs.size, hs.defers, hs.below, hs.mem, fun u s hu => ?_⟩
  rcases lookup_put hu with ⟨rfl, rfl⟩ | ⟨_, hu⟩
  · exact ⟨rfl, h0⟩
  · exact hs.env u s hu
end
theorem OpensC.byte {P : Program} {t : TypeId} (ht : P.underlying t = some (.int .u8)) : OpensC P t (fun x : UInt8 => [.int .u8 ((x.toNat : Nat) : Int)]) := fun _ _ _ _ _ _ h => by
  obtain ⟨n, rfl, _, hw⟩ := DataW.trod_int ht h
  have hw2 : 0 ≤ n ∧ n ≤ 255 := by simpa [Lit.wf, IntKind.min, IntKind.max, IntKind.bits, IntKind.signed] using hw
  refine ⟨UInt8.ofNat n.toNat, _, _, rfl, ?_, rfl⟩
  show Value.int .u8 n = Value.int .u8 _
  rw [UInt8.toNat_ofNat']
  congr 1
  omega
end Go.Proofs.YticinemcmgggpabDoor

/-
  A calculus for walks, part 35: rows built of two or three strings, of four numbers.
-/
namespace Go.Proofs.YticinemcmgggpabDoor
open Go.ChangeShapes Go.WideShapes Go.ChangeAt Go.RowKit Go.BigFrame Go.Deep
set_option linter.unusedVariables false

set_option linter.unusedSimpArgs false
section
variable {P : Program} {σ : Sig} {o : Oper}
theorem FreshOp.strs2 {t e : Nat} {x y : Operand} {a1 a2 : ByteArray} (ho : o.op = .buildSlice t 2 #[(0, x), (1, y)]) (kx : Kn σ x (.one (.str a1))) (ky : Kn σ y (.one (.str a2)))
    (ht : P.underlying t = some (.slice e)) (hz : (P.info? e).map (fun i => (i.size, i.zero)) = some (1, some (.string ByteArray.empty))) : FreshOp P o σ (.one (.frs (.lst 1 2 fun i _ => .str (([a1, a2] : List ByteArray).getD i ByteArray.empty)))) := by
  constructor
  intro N w0 ρ S a w K Q' hs hK
  have e1 : a.eval x = .string a1 := (kx.sound hs).1
  have be1 := (kx.sound hs).2
  have e2 : a.eval y = .string a2 := (ky.sound hs).1
  have be2 := (ky.sound hs).2
  obtain ⟨i, hi, hi2⟩ := Option.map_eq_some_iff.1 hz
  simp only [Prod.mk.injEq] at hi2
  obtain ⟨z1, z2⟩ := hi2
  have er : (execOp a.eval o).run P w = .ok (.value (.slice (some ⟨w.heap.size, 0, none⟩) 2 2)) (w.alloc (.cells #[.string a1, .string a2] e)) := by
    generalize a.eval = ev at e1 e2 ⊢
    simp [execOp, ho, Instr.buildSlice, run_underlying ht, sizeOf, typeInfo, hi, z1, z2, zeroValue, e1, e2, go_sem]
  unfold Oper.wp
  rw [er]
  have hb : Below w.heap.size w (w.alloc (.cells #[.string a1, .string a2] e)) := (Below.refl _ _).alloc (Nat.le_refl _) _
  obtain ⟨g1, g2⟩ := hs.grow hb
  have hlt : ρ.base ≤ w.heap.size := by rw [hs.mem.base]; exact hs.mem.low
  refine hK _ _ _ g1 hb (fun b h => h.imp (fun h => h) (fun h => h.1)) g2 ⟨_, _, rfl, Nat.le_refl _, by decide, (fun h => by cases h), fun j hj => ⟨w.heap.size, 0, rfl, ⟨.inr ⟨Nat.le_refl _, by rw [World.heap_alloc, Array.size_push]; omega⟩, hlt⟩, fun q hq => ?_⟩⟩
  obtain rfl : q = 0 := by omega
  have hcell : ∀ p, (w.alloc (.cells #[.string a1, .string a2] e)).cell? ⟨w.heap.size, p, none⟩ = (#[Value.string a1, .string a2])[p]? := fun p => by simp [World.cell?, World.heap_alloc]
  match j, hj with
  | 0, _ => exact ⟨.string a1, by rw [hcell]; rfl, rfl, be1⟩
  | 1, _ => exact ⟨.string a2, by rw [hcell]; rfl, rfl, be2⟩
theorem FreshOp.strs3 {t e : Nat} {x y z : Operand} {a1 a2 a3 : ByteArray} (ho : o.op = .buildSlice t 3 #[(0, x), (1, y), (2, z)]) (kx : Kn σ x (.one (.str a1))) (ky : Kn σ y (.one (.str a2))) (kz : Kn σ z (.one (.str a3)))
    (ht : P.underlying t = some (.slice e)) (hz : (P.info? e).map (fun i => (i.size, i.zero)) = some (1, some (.string ByteArray.empty))) : FreshOp P o σ (.one (.frs (.lst 1 3 fun i _ => .str (([a1, a2, a3] : List ByteArray).getD i ByteArray.empty)))) := by
  constructor
  intro N w0 ρ S a w K Q' hs hK
  have e1 : a.eval x = .string a1 := (kx.sound hs).1
  have be1 := (kx.sound hs).2
  have e2 : a.eval y = .string a2 := (ky.sound hs).1
  have be2 := (ky.sound hs).2
  have e3 : a.eval z = .string a3 := (kz.sound hs).1
  have be3 := (kz.sound hs).2
  obtain ⟨i, hi, hi2⟩ := Option.map_eq_some_iff.1 hz
  simp only [Prod.mk.injEq] at hi2
  obtain ⟨z1, z2⟩ := hi2
  have er : (execOp a.eval o).run P w = .ok (.value (.slice (some ⟨w.heap.size, 0, none⟩) 3 3)) (w.alloc (.cells #[.string a1, .string a2, .string a3] e)) := by
    generalize a.eval = ev at e1 e2 e3 ⊢
    simp [execOp, ho, Instr.buildSlice, run_underlying ht, sizeOf, typeInfo, hi, z1, z2, zeroValue, e1, e2, e3, go_sem]
  unfold Oper.wp
  rw [er]
  have hb : Below w.heap.size w (w.alloc (.cells #[.string a1, .string a2, .string a3] e)) := (Below.refl _ _).alloc (Nat.le_refl _) _
  obtain ⟨g1, g2⟩ := hs.grow hb
  have hlt : ρ.base ≤ w.heap.size := by rw [hs.mem.base]; exact hs.mem.low
  refine hK _ _ _ g1 hb (fun b h => h.imp (fun h => h) (fun h => h.1)) g2 ⟨_, _, rfl, Nat.le_refl _, by decide, (fun h => by cases h), fun j hj => ⟨w.heap.size, 0, rfl, ⟨.inr ⟨Nat.le_refl _, by rw [World.heap_alloc, Array.size_push]; omega⟩, hlt⟩, fun q hq => ?_⟩⟩
  obtain rfl : q = 0 := by omega
  have hcell : ∀ p, (w.alloc (.cells #[.string a1, .string a2, .string a3] e)).cell? ⟨w.heap.size, p, none⟩ = (#[Value.string a1, .string a2, .string a3])[p]? := fun p => by simp [World.cell?, World.heap_alloc]
  match j, hj with
  | 0, _ => exact ⟨.string a1, by rw [hcell]; rfl, rfl, be1⟩
  | 1, _ => exact ⟨.string a2, by rw [hcell]; rfl, rfl, be2⟩
  | 2, _ => exact ⟨.string a3, by rw [hcell]; rfl, rfl, be3⟩
theorem FreshOp.quad {t e : Nat} {x y z u : Operand} {a1 a2 a3 a4 : Int} (ho : o.op = .buildSlice t 4 #[(0, x), (1, y), (2, z), (3, u)]) (kx : Kn σ x (.one (.int .i64 a1))) (ky : Kn σ y (.one (.int .i64 a2))) (kz : Kn σ z (.one (.int .i64 a3))) (ku : Kn σ u (.one (.int .i64 a4)))
    (ht : P.underlying t = some (.slice e)) (hz : (P.info? e).map (fun i => (i.size, i.zero)) = some (1, some (.int .i64 0))) : FreshOp P o σ (.one (.frs (.lst 1 4 fun i _ => .int .i64 (([a1, a2, a3, a4] : List Int).getD i 0)))) := by
  constructor
  intro N w0 ρ S a w K Q' hs hK
  have e1 : a.eval x = .int .i64 a1 := kx.sound hs
  have e2 : a.eval y = .int .i64 a2 := ky.sound hs
  have e3 : a.eval z = .int .i64 a3 := kz.sound hs
  have e4 : a.eval u = .int .i64 a4 := ku.sound hs
  obtain ⟨i, hi, hi2⟩ := Option.map_eq_some_iff.1 hz
  simp only [Prod.mk.injEq] at hi2
  obtain ⟨z1, z2⟩ := hi2
  have er : (execOp a.eval o).run P w = .ok (.value (.slice (some ⟨w.heap.size, 0, none⟩) 4 4)) (w.alloc (.cells #[.int .i64 a1, .int .i64 a2, .int .i64 a3, .int .i64 a4] e)) := by
    generalize a.eval = ev at e1 e2 e3 e4 ⊢
    simp [execOp, ho, Instr.buildSlice, run_underlying ht, sizeOf, typeInfo, hi, z1, z2, zeroValue, e1, e2, e3, e4, go_sem]
  unfold Oper.wp
  rw [er]
  have hb : Below w.heap.size w (w.alloc (.cells #[.int .i64 a1, .int .i64 a2, .int .i64 a3, .int .i64 a4] e)) := (Below.refl _ _).alloc (Nat.le_refl _) _
  obtain ⟨g1, g2⟩ := hs.grow hb
  have hlt : ρ.base ≤ w.heap.size := by rw [hs.mem.base]; exact hs.mem.low
  refine hK _ _ _ g1 hb (fun b h => h.imp (fun h => h) (fun h => h.1)) g2 ⟨_, _, rfl, Nat.le_refl _, by decide, (fun h => by cases h), fun j hj => ⟨w.heap.size, 0, rfl, ⟨.inr ⟨Nat.le_refl _, by rw [World.heap_alloc, Array.size_push]; omega⟩, hlt⟩, fun q hq => ?_⟩⟩
  obtain rfl : q = 0 := by omega
  have hcell : ∀ p, (w.alloc (.cells #[.int .i64 a1, .int .i64 a2, .int .i64 a3, .int .i64 a4] e)).cell? ⟨w.heap.size, p, none⟩ = (#[Value.int .i64 a1, .int .i64 a2, .int .i64 a3, .int .i64 a4])[p]? := fun p => by simp [World.cell?, World.heap_alloc]
  match j, hj with
  | 0, _ => exact ⟨.int .i64 a1, by rw [hcell]; rfl, rfl⟩
  | 1, _ => exact ⟨.int .i64 a2, by rw [hcell]; rfl, rfl⟩
  | 2, _ => exact ⟨.int .i64 a3, by rw [hcell]; rfl, rfl⟩
  | 3, _ => exact ⟨.int .i64 a4, by rw [hcell]; rfl, rfl⟩
end
end Go.Proofs.YticinemcmgggpabDoor

/-
  A calculus for walks, part 33: a call that is handed objects, rewrites them as it likes, and leaves other objects.
-/
namespace Go.Proofs.YticinemcmgggpabDoor
open Go.ChangeShapes Go.WideShapes Go.ChangeAt Go.RowKit Go.BigFrame Go.Deep
set_option linter.unusedVariables false

set_option linter.unusedSimpArgs false
/-- Values that speak of nothing but the objects K. -/
def AV.hx (K : List Nat) : AV → Bool
  | .ptr id _ _ _ => K.contains id
  | .own id _ _ => K.contains id
  | .tre id _ => K.contains id
  | .tl id _ _ _ => K.contains id
  | .int _ _ => true
  | .bool _ => true
  | .str _ => true
  | .con _ => true
  | .lst _ n _ => n == 0
  | _ => false
def SV.hx (K : List Nat) : SV → Bool
  | .one x => x.hx K
  | .agg l => l.all (AV.hx K)
  | .tup2 x y => x.hx K && y.hx K
  | .tup3 x y z => x.hx K && y.hx K && z.hx K
  | .tup4 _ _ _ _ => false
  | .gd _ _ => false
/-- ρn names the object g k as ρ' does k. -/
structure AtR (ρ' ρn : Rho) (k k' : Nat) : Prop where
  m : ρn.m k' = ρ'.m k
  v : ρn.tv k' = ρ'.tv k
  b : ρn.tb k' = ρ'.tb k
  n : ρn.tn k' = ρ'.tn k
section
variable {ρ ρ' ρn : Rho} {g g' : Nat → Nat} {K : List Nat} {w : World} {S S' : Nat → Prop}
theorem AV.hx_r (hat : ∀ k, K.contains k = true → AtR ρ' ρn k (g' k)) {x : AV} {v : Value} (h : x.hx K = true) (hr : R ρ' w S' x v) : R ρn w S (x.ren g') v := by
  cases x with
  | ptr id sz i j =>
    have hr : v = .pointer (some ⟨(ρ'.m id).1, i * sz + j, none⟩) := hr
    rw [← (hat id h).m] at hr
    exact hr
  | own id sz n =>
    have hr : ∃ A, v = .slice A n (ρ'.m id).2 ∧ n ≤ (ρ'.m id).2 ∧ (ρ'.m id).2 ≤ maxLen ∧ (A = some ⟨(ρ'.m id).1, 0, none⟩ ∨ (A = none ∧ (ρ'.m id).2 = 0)) := hr
    rw [← (hat id h).m] at hr
    exact hr
  | tl id sz q n =>
    have hr : ∃ A, v = .slice A (n - q) ((ρ'.m id).2 - q) ∧ q ≤ n ∧ n ≤ (ρ'.m id).2 ∧ (ρ'.m id).2 ≤ maxLen ∧ (A = some ⟨(ρ'.m id).1, q * sz, none⟩ ∨ (ρ'.m id).2 = q) := hr
    rw [← (hat id h).m] at hr
    exact hr
  | tre id i =>
    have hr : v = ρ'.tv id i ∧ i < ρ'.tn id ∧ ∃ A n c, v = .slice A n c := hr
    rw [← (hat id h).v, ← (hat id h).n] at hr
    exact hr
  | int k n => exact hr
  | bool b => exact hr
  | str s => exact hr
  | con c => exact hr
  | lst sz n f => exact AV.sc_r (x := .lst sz n f) h hr
  | ref _ _ => cases h
  | fn _ _ _ => cases h
  | frs _ => cases h
  | cv _ _ => cases h
theorem RL.hx_r (hat : ∀ k, K.contains k = true → AtR ρ' ρn k (g' k)) : ∀ {l : List AV} {us : List Value}, l.all (AV.hx K) = true → RL ρ' w S' l us → RL ρn w S (l.map (AV.ren g')) us
  | [], _, _, h => h
  | _ :: _, _, hh, ⟨u, us, e, h1, h2⟩ => by
    rw [List.all_cons, Bool.and_eq_true] at hh
    exact ⟨u, us, e, AV.hx_r hat hh.1 h1, RL.hx_r hat hh.2 h2⟩
theorem SV.hx_r (hat : ∀ k, K.contains k = true → AtR ρ' ρn k (g' k)) : ∀ {s : SV} {v : Value}, s.hx K = true → RS ρ' w S' s v → RS ρn w S (s.ren g') v
  | .one _, _, h, hr => AV.hx_r hat h hr
  | .agg _, _, h, ⟨us, e, hl⟩ => ⟨us, e, RL.hx_r hat h hl⟩
  | .tup2 _ _, _, h, ⟨a, b, e, h1, h2⟩ => by
    rw [SV.hx, Bool.and_eq_true] at h
    exact ⟨a, b, e, SV.hx_r hat h.1 h1, SV.hx_r hat h.2 h2⟩
  | .tup4 _ _ _ _, _, h, _ => by cases h
  | .tup3 _ _ _, _, h, ⟨a, b, c, e, h1, h2, h3⟩ => by
    rw [SV.hx, Bool.and_eq_true, Bool.and_eq_true] at h
    exact ⟨a, b, c, e, SV.hx_r hat h.1.1 h1, SV.hx_r hat h.1.2 h2, SV.hx_r hat h.2 h3⟩
  | .gd _ _, _, h, _ => by cases h
end
/-- p is the object q, its names by g. -/
def AObj.Rt (g : Nat → Nat) : AObj → AObj → Prop
  | .cells l, .cells m => m = l.map (AV.ren g)
  | .arr sz n f, .arr sz' n' f' => sz' = sz ∧ n' = n ∧ ∀ i j, i < n → j < sz → f' i j = (f i j).ren g
  | .trees n X, .trees n' X' => n' = n ∧ ∀ i, i < n → X' i = X i
  | _, _ => False
theorem AObj.Rt.shape {g : Nat → Nat} {q p : AObj} (h : AObj.Rt g q p) : p.sz = q.sz ∧ p.n = q.n := by
  cases q <;> cases p <;> first | exact h.elim | skip
  · have h : _ = _ := h
    subst h
    exact ⟨by simp [AObj.sz], rfl⟩
  · exact ⟨h.1, h.2.1⟩
  · exact ⟨rfl, rfl⟩
theorem AObj.Rt.at_ {g : Nat → Nat} {q p : AObj} (h : AObj.Rt g q p) {i j : Nat} (hi : i < q.n) (hj : j < q.sz) : p.f i j = (q.f i j).ren g := by
  cases q <;> cases p <;> first | exact h.elim | skip
  · rename_i l m
    have h : _ = _ := h
    subst h
    have hj : j < l.length := hj
    show (l.map (AV.ren g)).getD j _ = (l.getD j _).ren g
    rw [List.getD_eq_getElem?_getD, List.getD_eq_getElem?_getD, List.getElem?_map, List.getElem?_eq_getElem hj]
    rfl
  · exact h.2.2 i j hi hj
  · exact absurd hi (Nat.not_lt_zero _)
theorem AObj.Rt.trees {g : Nat → Nat} {q : AObj} {n : Nat} {X : Nat → AV} (h : AObj.Rt g q (.trees n X)) : ∃ X', q = .trees n X' ∧ ∀ i, i < n → X i = X' i := by
  cases q with
  | cells _ => exact h.elim
  | arr _ _ _ => exact h.elim
  | trees m Y => obtain ⟨rfl, h⟩ := h; exact ⟨Y, rfl, h⟩
theorem AObj.Rt.trees' {g : Nat → Nat} {p : AObj} {n : Nat} {X : Nat → AV} (h : AObj.Rt g (.trees n X) p) : ∃ X', p = .trees n X' ∧ ∀ i, i < n → X' i = X i := by
  cases p with
  | cells _ => exact h.elim
  | arr _ _ _ => exact h.elim
  | trees m Y => obtain ⟨rfl, h⟩ := h; exact ⟨Y, rfl, h⟩
def AObj.Hx (K : List Nat) : AObj → Prop
  | .cells l => l.all (AV.hx K) = true
  | .arr sz n f => ∀ i j, i < n → j < sz → (f i j).hx K = true
  | .trees _ _ => True
theorem AObj.Hx.at_ {K : List Nat} {q : AObj} (h : q.Hx K) {i j : Nat} (hi : i < q.n) (hj : j < q.sz) : (q.f i j).hx K = true := by
  cases q with
  | cells l =>
    have hj : j < l.length := hj
    show (l.getD j _).hx K = true
    rw [List.getD_eq_getElem?_getD, List.getElem?_eq_getElem hj]
    exact List.all_eq_true.1 h _ (List.getElem_mem hj)
  | arr sz n f => exact h i j hi hj
  | trees _ _ => exact absurd hi (Nat.not_lt_zero _)
/-- All of a heap is so. -/
def LkAll (P : Nat → AObj → Prop) : Heap → Prop
  | [] => True
  | (k, o) :: l => P k o ∧ LkAll P l
theorem LkAll.get {P : Nat → AObj → Prop} : ∀ {l : Heap}, LkAll P l → ∀ {k : Nat} {o : AObj}, l.lookup k = some o → P k o
  | [], _, _, _, h => by simp at h
  | (k', o') :: l, ⟨h1, h2⟩, k, o, h => by
    rcases lookup_put h with ⟨rfl, rfl⟩ | ⟨_, h⟩
    · exact h1
    · exact LkAll.get h2 h
def FrAll (σ : Sig) : List (Nat × Nat) → Prop
  | [] => True
  | (id, _) :: l => Fr id σ ∧ FrAll σ l
theorem FrAll.get {σ : Sig} : ∀ {l : List (Nat × Nat)}, FrAll σ l → ∀ {id k : Nat}, l.lookup id = some k → Fr id σ
  | [], _, _, _, h => by simp at h
  | (k', o') :: l, ⟨h1, h2⟩, k, o, h => by
    rcases lookup_put h with ⟨rfl, rfl⟩ | ⟨_, h⟩
    · exact h1
    · exact FrAll.get h2 h
/-- No two of a list are alike. -/
def distB : List Nat → Bool
  | [] => true
  | x :: l => !l.contains x && distB l
theorem distB_map {g : Nat → Nat} : ∀ {l : List Nat}, distB (l.map g) = true → ∀ k k', k ∈ l → k' ∈ l → k ≠ k' → g k ≠ g k'
  | [], _, _, _, h, _, _ => by cases h
  | x :: l, hd, k, k', h, h', hne => by
    rw [List.map_cons, distB, Bool.and_eq_true, Bool.not_eq_true'] at hd
    obtain ⟨h1, h2⟩ := hd
    have hno : ∀ y, y ∈ l → g x ≠ g y := fun y hy e => by
      have : (l.map g).contains (g x) = true := List.contains_iff_mem.2 (e ▸ List.mem_map_of_mem hy)
      rw [h1] at this; cases this
    rcases List.mem_cons.1 h with e1 | g1
    · rcases List.mem_cons.1 h' with e2 | g2
      · exact absurd (e1.trans e2.symm) hne
      · rw [e1]; exact hno k' g2
    · rcases List.mem_cons.1 h' with e2 | g2
      · rw [e2]; exact fun e => hno k g1 e.symm
      · exact distB_map h2 k k' g1 g2 hne
def Rho.mix (ρ ρ' : Rho) (T : List (Nat × Nat)) : Rho :=
  ⟨fun id => match T.lookup id with | some k => ρ'.m k | none => ρ.m id, ρ.base, fun id => match T.lookup id with | some k => ρ'.tv k | none => ρ.tv id, fun id => match T.lookup id with | some k => ρ'.tb k | none => ρ.tb id, fun id => match T.lookup id with | some k => ρ'.tn k | none => ρ.tn id⟩
theorem Rho.mix_old {ρ ρ' : Rho} {T : List (Nat × Nat)} {id : Nat} (h : T.lookup id = none) : Rho.At ρ (ρ.mix ρ' T) id := by
  constructor <;> simp only [Rho.mix, h]
theorem Rho.mix_new {ρ ρ' : Rho} {T : List (Nat × Nat)} {id k : Nat} (h : T.lookup id = some k) : AtR ρ' (ρ.mix ρ' T) k id := by
  constructor <;> simp only [Rho.mix, h]
theorem heap_key {H : Heap} {k : Nat} {o : AObj} (h : H.lookup k = some o) : k ∈ H.map (·.1) := List.mem_map.2 ⟨(k, o), lookup_mem h, rfl⟩
section
variable {P : Program} {N : Nat} {w0 : Start} {σ : Sig} {ops : Array Oper} {rest : List Oper} {o : Oper} {Q : Sig → Prop}
theorem St.mutx {ρ : Rho} {S : Nat → Prop} {a : Act} {w : World} (hs : St N w0 ρ S σ a w) {f : FuncId} {xs : List Operand} {args : List SV} {H H' Hr Hn : Heap} {r : SV} {g g' : Nat → Nat} {K : List Nat} {T : List (Nat × Nat)}
    (hF : FnG P f args H r H') (hk : KnG σ Hr g xs args)
    (hH : LkAll (fun id p => ∃ p', σ.heap.lookup (g id) = some p' ∧ AObj.Rt g p p') H)
    (hr : LkAll (fun id p => σ.heap.lookup id = some p ∧ ((H.map (·.1)).map g).contains id = false) Hr)
    (hg : distB ((H.map (·.1)).map g) = true) (hT : FrAll σ T)
    (hK : K.all (fun k => (Nat.ble 1000000 k && (g' k == g k) && (T.lookup (g k)).isNone) || (T.lookup (g' k) == some k)) = true) (hgi : distB (K.map g') = true)
    (hx : r.hx K = true)
    (hn : LkAll (fun id p => Hr.lookup id = some p ∨ ∃ k q, K.contains k = true ∧ g' k = id ∧ H'.lookup k = some q ∧ AObj.Rt g' q p ∧ q.Hx K) Hn) :
    Calls P f (xs.map a.eval).toArray w fun e w' => ∃ v ρn, e = .returned v ∧ St N w0 ρn S ⟨σ.env, Hn⟩ a w' ∧ RS ρn w' S (r.ren g') v := by
  have hHr : ∀ id p, Hr.lookup id = some p → σ.heap.lookup id = some p := fun id p h => (hr.get h).1
  have hoff : ∀ id p, Hr.lookup id = some p → ∀ k q, H.lookup k = some q → g k ≠ id := fun id p h k q hq e => by
    have h1 := (hr.get h).2
    have : ((H.map (·.1)).map g).contains id = true := List.contains_iff_mem.2 (e ▸ List.mem_map_of_mem (heap_key hq))
    rw [h1] at this; cases this
  have hgd : ∀ k k' q q', H.lookup k = some q → H.lookup k' = some q' → k ≠ k' → g k ≠ g k' := fun k k' q q' h h' => distB_map hg k k' (heap_key h) (heap_key h')
  have hgi' : ∀ k k', K.contains k = true → K.contains k' = true → k ≠ k' → g' k ≠ g' k' := fun k k' h h' => distB_map hgi k k' (List.contains_iff_mem.1 h) (List.contains_iff_mem.1 h')
  have hmr : MemOk w0.base ρ S Hr w := hs.mem.le' fun k p hk => HLe.refl (hHr k p hk)
  have hsame : Same S w (withOwn ρ Hr S) w := ⟨fun _ h => .inl h, fun _ _ => rfl⟩
  have hrb : (ρ.ren g).base = w0.base := hs.mem.base
  have hm : MemOk (ρ.ren g).base (ρ.ren g) (withOwn ρ Hr S) H w := by
    refine ⟨rfl, by rw [hrb]; exact hs.mem.low, ?_, ?_, ?_, ?_, ?_⟩
    · rintro b (hb | ⟨id, p, hp, hc, rfl⟩ | ⟨id, n, X, i, hX, hi, hb⟩)
      · exact hs.mem.lt b hb
      · exact hs.mem.blk (hHr id p hp) hc
      · exact ((hs.mem.tree id n X (hHr id _ hX) i hi).2 b hb).2.1
    · intro id p hp
      obtain ⟨p', hp', hrt⟩ := hH.get hp
      rw [← hrt.shape.2]
      exact hs.mem.cap (g id) p' hp'
    · intro id p hp hc
      obtain ⟨p', hp', hrt⟩ := hH.get hp
      obtain ⟨cs, e, h1, h2, h3, h4, h5, h6, h7⟩ := hs.mem.obj (g id) p' hp' hc
      rw [hrt.shape.1] at h2 h7
      rw [hrt.shape.2] at h3 h7
      refine ⟨cs, e, h1, h2, h3, h4, by rw [hrb]; exact h5, ?_, fun i j hi hj => ?_⟩
      · rintro (hb | ⟨id', p2, hp2, hc', e'⟩ | ⟨id', n', X', i', hX', hi', hb'⟩)
        · exact h6 hb
        · exact hs.mem.inj id' (g id) p2 p' (hHr id' p2 hp2) hp' (fun e => hoff id' p2 hp2 id p hp e.symm) hc' hc e'
        · exact ((hs.mem.tree id' n' X' (hHr id' _ hX') i' hi').2 _ hb').2.2.2.1 (g id) p' hp' hc rfl
      · obtain ⟨u, hu, hru⟩ := h7 i j hi hj
        rw [hrt.at_ hi hj] at hru
        exact ⟨u, hu, (R.ren hru).keep hsame (Rn.refl _ _)⟩
    · intro k k' q q' hq hq' hne hc hc'
      obtain ⟨p, hp, _⟩ := hH.get hq
      obtain ⟨p', hp', _⟩ := hH.get hq'
      exact hs.mem.inj _ _ p p' hp hp' (hgd k k' q q' hq hq' hne) hc hc'
    · intro id n X hX
      obtain ⟨p', hp', hrt⟩ := hH.get hX
      obtain ⟨X', rfl, hXX⟩ := hrt.trees'
      refine ⟨(hs.mem.tree0 (g id) n X' hp').1, fun i hi => ?_⟩
      obtain ⟨k1, k2⟩ := hs.mem.tree (g id) n X' hp' i hi
      rw [hXX i hi] at k1
      refine ⟨k1, fun b hb => ?_⟩
      obtain ⟨q1, q2, q3, q4, q5⟩ := k2 b hb
      refine ⟨by rw [hrb]; exact q1, q2, ?_, fun id' p2 hp2 hc => ?_, fun id' n' Y i' hY hi' hne => ?_⟩
      · rintro (hb2 | ⟨id', p2, hp2, hc', e'⟩ | ⟨id', n', Y, i', hY, hi', hb'⟩)
        · exact q3 hb2
        · exact q4 id' p2 (hHr id' p2 hp2) hc' e'
        · exact q5 id' n' Y i' (hHr id' _ hY) hi' (fun h => hoff id' _ hY id _ hX h.1.symm) hb'
      · obtain ⟨p3, hp3, _⟩ := hH.get hp2
        exact q4 (g id') p3 hp3 hc
      · obtain ⟨p3, hp3, hrt3⟩ := hH.get hY
        obtain ⟨Y', rfl, _⟩ := hrt3.trees'
        refine q5 (g id') n' Y' i' hp3 hi' fun h => hne ⟨?_, h.2⟩
        rcases Nat.decEq id' id with hd | hd
        · exact absurd h.1 (hgd id' id _ _ hY hX hd)
        · exact hd
  have h2 := hF (ρ.ren g) (withOwn ρ Hr S) w _ hm (show Pre ρ.base w by rw [hs.mem.base]; exact hs.preB) (hk.sound hs hmr hsame)
  refine Calls.mono h2 fun e w' ⟨v, ρ', S', he, hb, hsm, hbase, hids, hm', hv⟩ => ?_
  rw [hrb] at hb hm'
  have hkeep : Same S w S w' := ⟨fun _ h => h, fun b hb' => hsm.blk b (.inl hb')⟩
  have hSS : ∀ b, S b → S' b := fun b h => hsm.sub b (.inl h)
  have hnone : ∀ id, (σ.heap.lookup id).isSome = true → T.lookup id = none := fun id h => by
    cases hl : T.lookup id with
    | none => rfl
    | some k =>
      obtain ⟨p, hp⟩ := Option.isSome_iff_exists.1 h
      exact absurd rfl ((hT.get hl).heap.get hp).1
  have hnr : ∀ id p, Hr.lookup id = some p → T.lookup id = none := fun id p h => hnone id (by rw [hHr id p h]; rfl)
  have hat : ∀ k, K.contains k = true → AtR ρ' (ρ.mix ρ' T) k (g' k) := fun k hkk => by
    have := List.all_eq_true.1 hK k (List.contains_iff_mem.1 hkk)
    rw [Bool.or_eq_true] at this
    rcases this with h | h
    · rw [Bool.and_eq_true, Bool.and_eq_true] at h
      obtain ⟨⟨h1, h2⟩, h3⟩ := h
      have h2 : g' k = g k := by simpa using h2
      have h3 : T.lookup (g k) = none := by simpa using h3
      have i1 := hids k (Nat.le_of_ble_eq_true h1)
      have i2 := Rho.mix_old (ρ := ρ) (ρ' := ρ') h3
      rw [h2]
      exact ⟨i2.m.trans i1.m.symm, i2.v.trans i1.v.symm, i2.b.trans i1.b.symm, i2.n.trans i1.n.symm⟩
    · exact Rho.mix_new (by simpa using h)
  have hrn : ∀ p : Nat → Prop, (∀ id k, T.lookup id = some k → p id) → Rn ρ (ρ.mix ρ' T) p := fun p hp => ⟨rfl, fun id => by
    cases hl : T.lookup id with
    | none => exact .inl (Rho.mix_old hl)
    | some k => exact .inr (hp id k hl)⟩
  have hro : ∀ id p, Hr.lookup id = some p → (ρ.mix ρ' T) id = ρ id := fun id p h => (Rho.mix_old (hnr id p h)).m
  refine ⟨v, ρ.mix ρ' T, he, ⟨hs.size, hs.defers, ⟨hs.below.old.trans hb, hs.below.same.trans hkeep, fun id hid => (hs.below.ids id hid).trans ?_⟩, ⟨hs.mem.base, Nat.le_trans hs.mem.low hb.size, fun b hb' => Nat.lt_of_lt_of_le (hs.mem.lt b hb') hb.size, ?_, ?_, ?_, ?_⟩, fun t s ht => (hs.env t s ht).keep hkeep (hrn _ fun id k hl => ?_)⟩, SV.hx_r hat hx hv⟩
  · cases hl : T.lookup id with
    | none => exact Rho.mix_old hl
    | some k => have := (hT.get hl).small; omega
  · intro id p hp
    rcases hn.get hp with hp2 | ⟨k, q, hkk, rfl, hq, hrt, _⟩
    · rw [hro id p hp2]; exact hmr.cap id p hp2
    · have := hm'.cap k q hq
      rw [(hat k hkk).m, hrt.shape.2]; exact this
  · intro id p hp hc
    rcases hn.get hp with hp2 | ⟨k, q, hkk, rfl, hq, hrt, hqx⟩
    · rw [hro id p hp2] at hc ⊢
      obtain ⟨cs, e, h1, h2, h3, h4, h5, h6, h7⟩ := hmr.obj id p hp2 hc
      refine ⟨cs, e, by rw [hsm.blk _ (.inr (.inl ⟨id, p, hp2, hc, rfl⟩))]; exact h1, h2, h3, h4, h5, h6, fun i j hi hj => ?_⟩
      obtain ⟨u, hu, hru⟩ := h7 i j hi hj
      exact ⟨u, hu, hru.keep hkeep (hrn _ fun id' k' hl => ((hT.get hl).heap.get (hHr id p hp2)).2.at_ i j)⟩
    · rw [(hat k hkk).m] at hc ⊢
      obtain ⟨cs, e, h1, h2, h3, h4, h5, h6, h7⟩ := hm'.obj k q hq hc
      refine ⟨cs, e, h1, by rw [hrt.shape.1]; exact h2, by rw [hrt.shape.2]; exact h3, h4, h5, fun hb' => h6 (hSS _ hb'), fun i j hi hj => ?_⟩
      rw [hrt.shape.2] at hi
      rw [hrt.shape.1] at hj ⊢
      obtain ⟨u, hu, hru⟩ := h7 i j hi hj
      refine ⟨u, hu, ?_⟩
      rw [hrt.at_ hi hj]
      exact AV.hx_r hat (hqx.at_ hi hj) hru
  · intro id id' p p' hp hp' hne hc hc'
    rcases hn.get hp with hp2 | ⟨k, q, hkk, rfl, hq, hrt, hqx⟩
    · rw [hro id p hp2] at hc ⊢
      rcases hn.get hp' with hp3 | ⟨k', q', hkk', rfl, hq', hrt', hqx'⟩
      · rw [hro id' p' hp3] at hc' ⊢
        exact hmr.inj id id' p p' hp2 hp3 hne hc hc'
      · rw [(hat k' hkk').m] at hc' ⊢
        obtain ⟨_, _, _, _, _, _, _, h6, _⟩ := hm'.obj k' q' hq' hc'
        exact fun e => h6 (hsm.sub _ (.inr (.inl ⟨id, p, hp2, hc, e⟩)))
    · rw [(hat k hkk).m] at hc ⊢
      rcases hn.get hp' with hp3 | ⟨k', q', hkk', rfl, hq', hrt', hqx'⟩
      · rw [hro id' p' hp3] at hc' ⊢
        obtain ⟨_, _, _, _, _, _, _, h6, _⟩ := hm'.obj k q hq hc
        exact fun e => h6 (hsm.sub _ (.inr (.inl ⟨id', p', hp3, hc', e.symm⟩)))
      · rw [(hat k' hkk').m] at hc' ⊢
        exact hm'.inj k k' q q' hq hq' (fun e => hne (by rw [e])) hc hc'
  · intro id n X hX
    rcases hn.get hX with hp2 | ⟨k, q, hkk, rfl, hq, hrt, hqx⟩
    · have o2 := Rho.mix_old (ρ := ρ) (ρ' := ρ') (hnr id _ hp2)
      refine ⟨o2.n.trans (hmr.tree0 id n X hp2).1, fun i hi => ?_⟩
      obtain ⟨k1, k2⟩ := hmr.tree id n X hp2 i hi
      rw [o2.v, o2.b]
      have hin : ∀ b, ρ.tb id i b → withOwn ρ Hr S b := fun b hb' => .inr (.inr ⟨id, n, X, i, hp2, hi, hb'⟩)
      refine ⟨k1.keep fun b hb' => hsm.blk b (hin b hb'), fun b hb' => ?_⟩
      obtain ⟨q1, q2, q3, q4, q5⟩ := k2 b hb'
      refine ⟨q1, Nat.lt_of_lt_of_le q2 hb.size, q3, fun id' p' hp' hc => ?_, fun id' n' Y i' hY hi' hne => ?_⟩
      · rcases hn.get hp' with hp3 | ⟨k', q', hkk', rfl, hq', hrt', hqx'⟩
        · rw [hro id' p' hp3] at hc ⊢
          exact q4 id' p' hp3 hc
        · rw [(hat k' hkk').m] at hc ⊢
          obtain ⟨_, _, _, _, _, _, _, h6, _⟩ := hm'.obj k' q' hq' hc
          exact fun e => h6 (hsm.sub _ (by rw [e]; exact hin b hb'))
      · rcases hn.get hY with hp3 | ⟨k', q', hkk', rfl, hq', hrt', hqx'⟩
        · rw [(Rho.mix_old (ρ := ρ) (ρ' := ρ') (hnr id' _ hp3)).b]
          exact q5 id' n' Y i' hp3 hi' hne
        · obtain ⟨Y', rfl, _⟩ := hrt'.trees
          rw [(hat k' hkk').b]
          exact fun h => ((hm'.tree k' n' Y' hq' i' hi').2 b h).2.2.1 (hsm.sub _ (hin b hb'))
    · obtain ⟨X', rfl, hXX⟩ := hrt.trees
      have a2 := hat k hkk
      refine ⟨a2.n.trans (hm'.tree0 k n X' hq).1, fun i hi => ?_⟩
      obtain ⟨k1, k2⟩ := hm'.tree k n X' hq i hi
      rw [a2.v, a2.b, hXX i hi]
      refine ⟨k1, fun b hb' => ?_⟩
      obtain ⟨q1, q2, q3, q4, q5⟩ := k2 b hb'
      refine ⟨q1, q2, fun h => q3 (hSS b h), fun id' p' hp' hc => ?_, fun id' n' Y i' hY hi' hne => ?_⟩
      · rcases hn.get hp' with hp3 | ⟨k', q', hkk', rfl, hq', hrt', hqx'⟩
        · rw [hro id' p' hp3] at hc ⊢
          exact fun e => q3 (hsm.sub _ (.inr (.inl ⟨id', p', hp3, hc, e⟩)))
        · rw [(hat k' hkk').m] at hc ⊢
          exact q4 k' q' hq' hc
      · rcases hn.get hY with hp3 | ⟨k', q', hkk', rfl, hq', hrt', hqx'⟩
        · rw [(Rho.mix_old (ρ := ρ) (ρ' := ρ') (hnr id' _ hp3)).b]
          exact fun h => q3 (hsm.sub _ (.inr (.inr ⟨id', n', Y, i', hp3, hi', h⟩)))
        · obtain ⟨Y', rfl, _⟩ := hrt'.trees
          rw [(hat k' hkk').b]
          exact q5 k' n' Y' i' hq' hi' fun h => hne ⟨by rw [h.1], h.2⟩
  · exact List.all_eq_true.1 (hT.get hl).env _ (lookup_mem ht)
/-- A call that is handed objects, rewrites them as it likes, and leaves others. -/
theorem ARun.mutx {f d : Nat} {xs : List Operand} {ts : Array TypeId} {args : List SV} {H H' Hr Hn : Heap} {r : SV} {g g' : Nat → Nat} {K : List Nat} {T : List (Nat × Nat)} (ho : o.op = .call { callee := .value (.func f), args := xs.toArray, argTypes := ts })
    (hF : FnG P f args H r H') (hB : callB P f = true) (hk : KnG σ Hr g xs args)
    (hH : LkAll (fun id p => ∃ p', σ.heap.lookup (g id) = some p' ∧ AObj.Rt g p p') H)
    (hr : LkAll (fun id p => σ.heap.lookup id = some p ∧ ((H.map (·.1)).map g).contains id = false) Hr)
    (hg : distB ((H.map (·.1)).map g) = true) (hT : FrAll σ T)
    (hK : K.all (fun k => (Nat.ble 1000000 k && (g' k == g k) && (T.lookup (g k)).isNone) || (T.lookup (g' k) == some k)) = true) (hgi : distB (K.map g') = true)
    (hx : r.hx K = true)
    (hn : LkAll (fun id p => Hr.lookup id = some p ∨ ∃ k q, K.contains k = true ∧ g' k = id ∧ H'.lookup k = some q ∧ AObj.Rt g' q p ∧ q.Hx K) Hn)
    (hgd : o.guard = none) (hd : o.dst = some d) (hdN : d < N) {r' : SV} (hr' : r.ren g' = r') (h : ARun P N w0 ops Q rest ⟨(d, r') :: σ.env, Hn⟩) : ARun P N w0 ops Q (o :: rest) σ := by
  subst hr'
  intro ρ S a w Q' hQ hs
  refine wpList_plain hgd fun K' hK' => ?_
  have e : (execOp a.eval o).run P w = .ok (.enter f (xs.map a.eval).toArray) w := by
    have := execCall (P := P) (ev := a.eval) (caps := #[]) ho rfl hB w
    simpa using this
  unfold Oper.wp
  rw [e]
  refine Calls.mono (hs.mutx hF hk hH hr hg hT hK hgi hx hn) fun e w' ⟨v, ρn, he, hst, hv⟩ => ?_
  subst he
  rw [hd]
  exact hK' _ _ (h ρn S _ w' Q' hQ (hst.put hdN hv))
end
end Go.Proofs.YticinemcmgggpabDoor

/-
  A calculus for walks, part 34: functions that draw and hand on what others have drawn; they are called while the cursor is all that the caller holds.
-/
namespace Go.Proofs.YticinemcmgggpabDoor
open Go.ChangeShapes Go.WideShapes Go.ChangeAt Go.RowKit Go.BigFrame Go.Deep
set_option linter.unusedVariables false

set_option linter.unusedSimpArgs false
/-- The contract of a function that is handed a cursor and draws; what it yields may be what others drew. -/
def FnC2 (P : Program) (f : FuncId) (n : Nat) (F : Nat → Nat) (args : List SV) (p s : Nat) {X : Type} (φ : X → Nat → Nat → Prop) (r : X → SV) : Prop :=
  ∀ (c : Value) (ρ : Rho) (S : Nat → Prop) (w : World) (vs : List Value), MemOk ρ.base ρ S [(1000000, curO c n F p s)] w → Pre ρ.base w → RSs ρ w S (.one (.ptr 1000000 3 0 0) :: args) vs →
    Calls P f vs.toArray w fun e w' => ∃ x p' s' v S', φ x p' s' ∧ e = .returned v ∧ Below ρ.base w w' ∧ Same S w S' w' ∧ MemOk ρ.base ρ S' [(1000000, curO c n F p' s')] w' ∧ DR w' (freshS ρ S') (r x) v
/-- What a walk holds, seen as data that nobody else holds. -/
inductive Fx (H : Heap) : AV → AV → Prop
  | int {k : IntKind} {n : Int} : Fx H (.int k n) (.int k n)
  | bool {b : Bool} : Fx H (.bool b) (.bool b)
  | str {s : ByteArray} : Fx H (.str s) (.str s)
  | frs {x : AV} : Fx H (.frs x) x
  | cnil {sz : Nat} {g : Nat → Nat → AV} : Fx H (.con (.slice none 0 0)) (.lst sz 0 g)
  | own {id sz n : Nat} {g : Nat → Nat → AV} {o : AObj} : (id == 1000000) = false → H.lookup id = some o → o.sz = sz → n ≤ o.n → (∀ i j, i < n → j < sz → Fx H (o.f i j) (g i j)) → Fx H (.own id sz n) (.lst sz n g)
  | tre {id i n : Nat} {X : Nat → AV} : (id == 1000000) = false → H.lookup id = some (.trees n X) → i < n → Fx H (.tre id i) (X i)
/-- What is read when own rows are given up. -/
abbrev giveUp (ρ : Rho) (H : Heap) (S : Nat → Prop) : Nat → Prop := withOwn ρ (H.filter fun p => p.1 != 1000000) S
theorem lookup_keep {id : Nat} : ∀ {H : Heap} {k : Nat} {q : AObj}, H.lookup k = some q → k ≠ id → (H.filter fun p => p.1 != id).lookup k = some q
  | [], _, _, h, _ => by simp at h
  | (a, b) :: l, k, q, h, hne => by
    rcases lookup_put h with ⟨rfl, rfl⟩ | ⟨h1, h2⟩
    · rw [List.filter_cons_of_pos (by simpa using hne)]; simp
    · by_cases e : a = id
      · subst e
        rw [List.filter_cons_of_neg (by simp)]
        exact lookup_keep h2 hne
      · rw [List.filter_cons_of_pos (by simpa using e), List.lookup_cons, show (k == a) = false by simpa using h1]
        exact lookup_keep h2 hne
theorem Fx.sound {B : Nat} {ρ : Rho} {S : Nat → Prop} {H : Heap} {w : World} (hm : MemOk B ρ S H w) {x y : AV} (h : Fx H x y) : ∀ {v : Value}, R ρ w S x v → D w (freshS ρ (giveUp ρ H S)) y v := by
  induction h with
  | int => exact fun h => h
  | bool => exact fun h => h
  | str => exact fun h => h
  | frs => exact fun h => D.keep (S := freshS ρ S) ⟨fun _ hb => ⟨.inl hb.1, hb.2⟩, fun _ _ => rfl⟩ h
  | cnil =>
    intro v hv
    have e : v = Value.slice none 0 0 := hv
    exact ⟨none, 0, e, Nat.le_refl _, by decide, fun _ => rfl, fun i hi => absurd hi (by omega)⟩
  | @tre id i n X hid hX hi =>
    intro v hv
    obtain ⟨e, _⟩ := hv
    rw [e]
    obtain ⟨t1, t2⟩ := hm.tree id n X hX i hi
    exact t1.d fun b hb => ⟨.inr (.inr ⟨id, n, X, i, lookup_keep hX (by simpa using hid), hi, hb⟩), by rw [hm.base]; exact (t2 b hb).1⟩
  | @own id sz n g o hid ho hsz hn _ ih =>
    intro v hv
    subst hsz
    obtain ⟨A, hv, hn1, hn2, hA⟩ := hv
    refine ⟨A, _, hv, hn1, hn2, (fun e => by rcases hA with h | ⟨_, h⟩; (· rw [h] at e; cases e); (· exact h)), fun i hi => ?_⟩
    have hc : (ρ id).2 ≠ 0 := by omega
    obtain ⟨cs, e, k1, k2, k3, k4, k5, k6, k7⟩ := hm.obj id o ho hc
    refine ⟨(ρ id).1, 0, by rcases hA with h | ⟨_, h⟩; (· exact h); (· exact absurd h hc), ⟨.inr (.inl ⟨id, o, lookup_keep ho (by simpa using hid), hc, rfl⟩), by rw [hm.base]; exact k5⟩, fun j hj => ?_⟩
    obtain ⟨u, hu, hr⟩ := k7 i j (by omega) hj
    refine ⟨u, ?_, ih i j hi hj hr⟩
    simp [World.cell?, k1, hu]
def FxL (H : Heap) : List AV → List AV → Prop
  | [], [] => True
  | x :: l, y :: m => Fx H x y ∧ FxL H l m
  | _, _ => False
theorem FxL.sound {B : Nat} {ρ : Rho} {S : Nat → Prop} {H : Heap} {w : World} (hm : MemOk B ρ S H w) : ∀ {l m : List AV} {us : List Value}, FxL H l m → RL ρ w S l us → DL w (freshS ρ (giveUp ρ H S)) m us
  | [], [], _, _, h => h
  | _ :: _, _ :: _, _, ⟨g1, g2⟩, ⟨u, us, e, k1, k2⟩ => ⟨u, us, e, g1.sound hm k1, FxL.sound hm g2 k2⟩
  | [], _ :: _, _, h, _ => h.elim
  | _ :: _, [], _, h, _ => h.elim
def FxS (H : Heap) : SV → SV → Prop
  | .one x, .one y => Fx H x y
  | .agg l, .agg m => FxL H l m
  | .tup2 (.one a) (.one b), .tup2 (.one c) (.one d) => Fx H a c ∧ Fx H b d
  | .tup3 (.one a) (.one b) (.one e), .tup3 (.one c) (.one d) (.one f) => Fx H a c ∧ Fx H b d ∧ Fx H e f
  | _, _ => False
theorem FxS.sound {B : Nat} {ρ : Rho} {S : Nat → Prop} {H : Heap} {w : World} (hm : MemOk B ρ S H w) {s t : SV} {v : Value} (h : FxS H s t) (hr : RS ρ w S s v) : DR w (freshS ρ (giveUp ρ H S)) t v := by
  unfold FxS at h
  split at h
  · exact h.sound hm hr
  · obtain ⟨us, e, hl⟩ := hr
    exact ⟨us, e, FxL.sound hm h hl⟩
  · obtain ⟨a, b, e, g1, g2⟩ := hr
    exact ⟨a, b, e, h.1.sound hm g1, h.2.sound hm g2⟩
  · obtain ⟨a, b, c, e, g1, g2, g3⟩ := hr
    exact ⟨a, b, c, e, h.1.sound hm g1, h.2.1.sound hm g2, h.2.2.sound hm g3⟩
  · exact h.elim
def RetC2 (P : Program) (fn : Func) (c : Value) (n : Nat) (F : Nat → Nat) {X : Type} (φ : X → Nat → Nat → Prop) (r : X → SV) : Exit → Sig → Prop
  | .ret, σ => ∃ x p' s' t, φ x p' s' ∧ ResL P σ fn.results.toList t ∧ FxS σ.heap t (r x) ∧ σ.heap.lookup 1000000 = some (curO c n F p' s')
  | .normal, σ => ∃ x p' s' t, φ x p' s' ∧ ResL P σ fn.results.toList t ∧ FxS σ.heap t (r x) ∧ σ.heap.lookup 1000000 = some (curO c n F p' s')
  | _, _ => False
theorem cur_only {c : Value} {n p s : Nat} {F : Nat → Nat} {k : Nat} {q : AObj} (ho : ([(1000000, curO c n F p s)] : Heap).lookup k = some q) : k = 1000000 ∧ q = curO c n F p s := by
  rcases lookup_put ho with ⟨rfl, rfl⟩ | ⟨_, ho⟩
  · exact ⟨rfl, rfl⟩
  · simp at ho
theorem FnC2.of_body {P : Program} {f : FuncId} {fn : Func} {b : Code} {n : Nat} {F : Nat → Nat} {args : List SV} {p s : Nat} {X : Type} {φ : X → Nat → Nat → Prop} {r : X → SV} (hf : P.funcs[f]? = some fn) (hb : fn.body = some b) (hle : args.length + 1 ≤ fn.ntmps)
    (h : ∀ w0 c, AW P fn.ntmps w0 b (RetC2 P fn c n F φ r) ⟨enumE 0 (.one (.ptr 1000000 3 0 0) :: args), [(1000000, curO c n F p s)]⟩) : FnC2 P f n F args p s φ r := by
  intro c ρ0 S w vs hm hpre hd
  have hl := hd.len
  refine calls_of_wp hf hb ?_
  refine h ⟨ρ0.base, w, S, w, ρ0, hpre⟩ c ρ0 S _ w _ (fun e ρ S' σ a w' hs hq => ?_) ⟨?_, rfl, ⟨Below.refl _ _, Same.refl _ _, fun _ _ => .refl _ _⟩, hm, ?_⟩
  · have fin : (∃ x p' s' t, φ x p' s' ∧ ResL P σ fn.results.toList t ∧ FxS σ.heap t (r x) ∧ σ.heap.lookup 1000000 = some (curO c n F p' s')) → a.defers = [] ∧ ∃ v, (results fn a.tmps).run P w' = .ok v w' ∧
        (∃ x p' s' v' S', φ x p' s' ∧ Ending.returned v = .returned v' ∧ Below ρ0.base w w' ∧ Same S w S' w' ∧ MemOk ρ0.base ρ0 S' [(1000000, curO c n F p' s')] w' ∧ DR w' (freshS ρ0 S') (r x) v') := fun ⟨x, p', s', t, hφ, hr, hfw, hcur⟩ => by
      obtain ⟨v, hv, hrun⟩ := hr.run hs
      have hid := hs.below.ids 1000000 (Nat.le_refl _)
      have e1 : (ρ 1000000) = (ρ0 1000000) := hid.m
      have hpos : (ρ 1000000).2 ≠ 0 := hs.mem.pos hcur (i := 0) Nat.zero_lt_one
      obtain ⟨cs, e, g1, g2, g3, g4, g5, g6, g7⟩ := hs.mem.obj _ _ hcur hpos
      have hnot : ¬ giveUp ρ σ.heap S' (ρ 1000000).1 := by
        rintro (hb | ⟨id', p', hp', hc', e'⟩ | ⟨id', n', X', i', hX', hi', hb'⟩)
        · exact g6 hb
        · obtain ⟨h1, h2⟩ := lookup_drop hp'
          exact hs.mem.inj id' _ p' _ h1 hcur h2 hc' hpos e'
        · obtain ⟨h1, h2⟩ := lookup_drop hX'
          exact ((hs.mem.tree id' n' X' h1 i' hi').2 _ hb').2.2.2.1 _ _ hcur hpos rfl
      have hsame : Same S' w' (giveUp ρ σ.heap S') w' := ⟨fun _ h => .inl h, fun _ _ => rfl⟩
      have hfr : freshS ρ0 (giveUp ρ σ.heap S') = freshS ρ (giveUp ρ σ.heap S') := by
        have : ρ.base = ρ0.base := hs.mem.base
        funext b
        simp only [freshS, this]
      refine ⟨hs.defers, v, hrun, x, p', s', v, giveUp ρ σ.heap S', hφ, rfl, hs.below.old, hs.below.same.trans hsame, ?_, by rw [hfr]; exact hfw.sound hs.mem hv⟩
      rw [e1] at g1 g2 g3 g4 g5 g6 hnot
      refine ⟨rfl, hs.mem.low, ?_, fun id o ho => ?_, fun id o ho hc => ?_, fun id id' o o' ho ho' hne => ?_, fun id m X hX => ?_⟩
      · rintro q (hb | ⟨id, p, hp, hc, rfl⟩ | ⟨id, n, X, i, hX, hi, hb⟩)
        · exact hs.mem.lt q hb
        · exact hs.mem.blk (lookup_drop hp).1 hc
        · exact ((hs.mem.tree id n X (lookup_drop hX).1 i hi).2 q hb).2.1
      · obtain ⟨rfl, rfl⟩ := cur_only ho; exact g3
      · obtain ⟨rfl, rfl⟩ := cur_only ho
        refine ⟨cs, e, g1, g2, g3, g4, g5, hnot, fun i j hi hj => ?_⟩
        obtain ⟨u, hu, hr⟩ := g7 i j hi hj
        refine ⟨u, hu, ?_⟩
        unfold curO AObj.f at hr ⊢
        match j with
        | 0 =>
          have hr : u = c ∧ D w' S' _ u := hr
          exact ⟨hr.1, hr.2.keep hsame⟩
        | 1 => exact hr
        | 2 => exact hr
        | k + 3 => exact hr
      · exact absurd ((cur_only ho).1.trans (cur_only ho').1.symm) hne
      · cases (cur_only hX).2
    cases e
    case ret => exact fin hq
    case normal => exact fin hq
    all_goals exact hq.elim
  · simp [hl]; omega
  · intro t s' ht
    obtain ⟨j, u, e1, e2, e3⟩ := hd.get ht
    have hj : j < vs.length := (List.getElem?_eq_some_iff.1 e2).1
    have : ((vs.toArray ++ Array.replicate (fn.ntmps - vs.toArray.size) undef).getD t undef) = u := by
      rw [Array.getD_eq_getD_getElem?, Array.getElem?_append_left (by simp; omega)]
      simp [show t = j by omega, e2]
    show RS _ w S s' ((vs.toArray ++ Array.replicate (fn.ntmps - vs.toArray.size) undef).getD t undef)
    rw [this]
    exact e3
section
variable {P : Program} {N : Nat} {w0 : Start} {σ : Sig} {ops : Array Oper} {rest : List Oper} {o : Oper} {Q : Sig → Prop}
theorem withOwn_nil {ρ : Rho} {S : Nat → Prop} : withOwn ρ [] S = S := funext fun b => propext ⟨fun h => by
  rcases h with h | ⟨_, _, h, _⟩ | ⟨_, _, _, _, h, _⟩
  · exact h
  · simp at h
  · simp at h, .inl⟩
theorem ARun.cur2 {f id d p s n : Nat} {c : Value} {F : Nat → Nat} {xs : List Operand} {ts : Array TypeId} {args : List SV} {X : Type} {φ : X → Nat → Nat → Prop} {r : X → SV} (ho : o.op = .call { callee := .value (.func f), args := xs.toArray, argTypes := ts })
    (hF : FnC2 P f n F args p s φ r) (hB : callB P f = true) (hk : KnG σ [] (fun _ => id) xs (.one (.ptr 1000000 3 0 0) :: args))
    (hH : σ.heap.lookup id = some (curO c n F p s))
    (hg : o.guard = none) (hd : o.dst = some d) (hN : d < N) (h : ∀ x p' s', φ x p' s' → ARun P N w0 ops Q rest ⟨(d, (r x).fr) :: σ.env, [(id, curO c n F p' s')]⟩) : ARun P N w0 ops Q (o :: rest) σ := by
  intro ρ S a w Q' hQ hs
  refine wpList_plain hg fun K hK => ?_
  let g : Nat → Nat := fun _ => id
  have hpos : (ρ id).2 ≠ 0 := hs.mem.pos hH (i := 0) Nat.zero_lt_one
  obtain ⟨cs0, e0, k1, k2, k3, k4, k5, k6, k7⟩ := hs.mem.obj _ _ hH hpos
  have hmr : MemOk w0.base ρ S [] w := hs.mem.le' fun k q hq => by simp at hq
  have hsame : Same S w (withOwn ρ [] S) w := ⟨fun _ h => .inl h, fun _ _ => rfl⟩
  have hrb : (ρ.ren g).base = w0.base := hs.mem.base
  have hm : MemOk (ρ.ren g).base (ρ.ren g) S [(1000000, curO c n F p s)] w := by
    refine ⟨rfl, by rw [hrb]; exact hs.mem.low, hs.mem.lt, fun k q hq => ?_, fun k q hq hc => ?_, fun k k' q q' hq hq' hne => ?_, fun k m X hX => ?_⟩
    · obtain ⟨rfl, rfl⟩ := cur_only hq; exact k3
    · obtain ⟨rfl, rfl⟩ := cur_only hq
      refine ⟨cs0, e0, k1, k2, k3, k4, by rw [hrb]; exact k5, k6, fun i j hi hj => ?_⟩
      obtain ⟨u, hu, hru⟩ := k7 i j hi hj
      refine ⟨u, hu, ?_⟩
      unfold curO AObj.f at hru ⊢
      match j with
      | 0 => exact hru
      | 1 => exact hru
      | 2 => exact hru
      | k + 3 => exact hru
    · exact absurd ((cur_only hq).1.trans (cur_only hq').1.symm) hne
    · cases (cur_only hX).2
  have hks := hk.sound hs hmr hsame
  rw [withOwn_nil] at hks
  have h2 := hF c (ρ.ren g) S w _ hm (show Pre ρ.base w by rw [hs.mem.base]; exact hs.preB) hks
  have e : (execOp a.eval o).run P w = .ok (.enter f (xs.map a.eval).toArray) w := by
    have := execCall (P := P) (ev := a.eval) (caps := #[]) ho rfl hB w
    simpa using this
  unfold Oper.wp
  rw [e]
  refine Calls.mono h2 fun e w' ⟨x, p', s', v, S', hφ, he, hb, hsm, hm', hv⟩ => ?_
  subst he
  rw [hrb] at hb hm'
  rw [hd]
  have hl' : ([(1000000, curO c n F p' s')] : Heap).lookup 1000000 = some (curO c n F p' s') := by simp
  have hpos' : ((ρ.ren g) 1000000).2 ≠ 0 := hpos
  obtain ⟨cs, e1, g1, g2, g3, g4, g5, g6, g7⟩ := hm'.obj 1000000 _ hl' hpos'
  have only : ∀ k q, ([(id, curO c n F p' s')] : Heap).lookup k = some q → k = id ∧ q = curO c n F p' s' := by
    intro k q hq
    rcases lookup_put hq with ⟨rfl, rfl⟩ | ⟨_, h2⟩
    · exact ⟨rfl, rfl⟩
    · simp at h2
  have hst : St N w0 ρ S' ⟨σ.env, [(id, curO c n F p' s')]⟩ a w' := by
    refine ⟨hs.size, hs.defers, hs.below.step hb hsm, ⟨hs.mem.base, hm'.low, hm'.lt, fun k q hq => ?_, fun k q hq hc => ?_, fun k k' q q' hq hq' hne => ?_, fun k m X hX => ?_⟩, fun t s ht => (hs.env t s ht).keep hsm (Rn.refl _ _)⟩
    · obtain ⟨rfl, rfl⟩ := only k q hq; exact g3
    · obtain ⟨rfl, rfl⟩ := only k q hq
      refine ⟨cs, e1, g1, g2, g3, g4, g5, g6, fun i j hi hj => ?_⟩
      obtain ⟨u, hu, hru⟩ := g7 i j hi hj
      refine ⟨u, hu, ?_⟩
      unfold curO AObj.f at hru ⊢
      match j with
      | 0 => exact hru
      | 1 => exact hru
      | 2 => exact hru
      | k + 3 => exact hru
    · exact absurd ((only k q hq).1.trans (only k' q' hq').1.symm) hne
    · cases (only k _ hX).2
  exact hK _ _ (h x p' s' hφ ρ S' _ w' Q' hQ (hst.put hN ((show DR w' (freshS ρ S') (r x) v from hv).fr fun b hb => hb)))
end
end Go.Proofs.YticinemcmgggpabDoor

/-
  A calculus for walks, part 35: drawn regions whose operations with effects stand in one chain; one lexical walk serves every order.
-/
namespace Go.Proofs.YticinemcmgggpabDoor
open Go.ChangeShapes Go.WideShapes Go.ChangeAt Go.RowKit Go.BigFrame Go.Deep
set_option linter.unusedVariables false

set_option linter.unusedSimpArgs false
theorem Oper.wp_only {P : Program} {o : Oper} {a : Act} {w : World} {K : Act → World → Prop} {Q Q2 : Exit → Act → World → Prop} (h1 : ∀ c a w, ¬ Q2 (.panic c) a w) (h2 : ∀ a w, ¬ Q2 .outgrown a w) (hh : o.wp P a w K Q2) : o.wp P a w K Q := by
  unfold Oper.wp at *
  generalize (execOp a.eval o).run P w = r at *
  cases r with
  | ok n w' => cases n <;> simp only [Oper.upon] at hh ⊢ <;> first | exact hh | exact Calls.mono hh (fun e w'' he => by cases e <;> first | exact he | exact absurd he (h1 _ _ _) | (obtain ⟨_, _, he⟩ := he; exact absurd he (h2 _ _)))
  | halt x w' => cases x <;> simp only [Oper.upon] at hh ⊢ <;> first | exact hh | exact absurd hh (h1 _ _ _)
/-- A way back along the edges: each waits for the next. -/
def pathB (md : Region.Mode) (ops : Array Oper) : List Nat → Bool
  | i :: j :: r => Nat.blt j i && (match ops[i]? with | some o => o.after.any (fun e => Region.binds md e && e.on == j) | none => false) && pathB md ops (j :: r)
  | _ => true
theorem path_lt {md : Region.Mode} {ops : Array Oper} : ∀ {r : List Nat} {i j : Nat}, pathB md ops (i :: r) = true → j ∈ r → j < i
  | [], _, _, _, h => by cases h
  | k :: r, i, j, hp, h => by
    simp only [pathB, Bool.and_eq_true] at hp
    have hk : k < i := by simpa [Nat.blt_eq] using hp.1.1
    rcases List.mem_cons.1 h with e | h
    · rw [e]; exact hk
    · have := path_lt hp.2 h; omega
theorem path_all {md : Region.Mode} {ops : Array Oper} {listed : Array Bool} (hcl : ∀ j o, ops[j]? = some o → listed.getD j false = true → ∀ e ∈ o.after, Region.binds md e = true → listed.getD e.on false = true) :
    ∀ {r : List Nat} {i : Nat}, pathB md ops (i :: r) = true → (∀ o, ops[i]? = some o → ∀ e ∈ o.after, Region.binds md e = true → listed.getD e.on false = true) → ∀ j ∈ r, listed.getD j false = true
  | [], _, _, _, _, h => by cases h
  | k :: r, i, hp, hi, j, h => by
    simp only [pathB, Bool.and_eq_true] at hp
    have hk : listed.getD k false = true := by
      cases ho : ops[i]? with
      | none => rw [ho] at hp; cases hp.1.2
      | some o =>
        have h2 := hp.1.2
        simp only [ho] at h2
        obtain ⟨e, he, hb⟩ := Array.any_eq_true'.1 h2
        rw [Bool.and_eq_true, beq_iff_eq] at hb
        rw [← hb.2]; exact hi o ho e he hb.1
    rcases List.mem_cons.1 h with e | h
    · rw [e]; exact hk
    · exact path_all hcl hp.2 (fun o ho => hcl k o ho hk) j h
theorem path_ready {md : Region.Mode} {ops : Array Oper} {listed : Array Bool} (hcl : ∀ j o, ops[j]? = some o → listed.getD j false = true → ∀ e ∈ o.after, Region.binds md e = true → listed.getD e.on false = true) :
    ∀ {l : List Nat} {i j : Nat}, pathB md ops l = true → i ∈ l → j ∈ l → j < i → (∀ o, ops[i]? = some o → ∀ e ∈ o.after, Region.binds md e = true → listed.getD e.on false = true) → listed.getD j false = true
  | [], _, _, _, h, _, _, _ => by cases h
  | k :: r, i, j, hp, h, h', hji, hi => by
    have htail : pathB md ops r = true := by
      cases r with
      | nil => rfl
      | cons x r => simp only [pathB, Bool.and_eq_true] at hp; exact hp.2
    rcases List.mem_cons.1 h with e | h
    · rcases List.mem_cons.1 h' with e' | h'
      · omega
      · rw [← e] at hp; exact path_all hcl hp hi j h'
    · rcases List.mem_cons.1 h' with e' | h'
      · have := path_lt hp h; omega
      · exact path_ready hcl htail h h' hji hi
def consO (d : Option Nat) (s : SV) (e : Env) : Env := match d with | some d => (d, s) :: e | none => e
/-- What an operation with effects adds to the slots. -/
def FOk (d : Option Nat) (F : Env) (s : SV) : Prop := match d with | some d => F.lookup d = some s ∧ F.all (fun p => p.1 == d) = true | none => F = [] ∧ s = .one (.con undef)
/-- An operation with effects: whatever else is held. -/
def EffStep (P : Program) (N : Nat) (w0 : Start) (ops : Array Oper) (o : Oper) (σ : Sig) (new : List Nat) (F : Env) (H' : Heap) : Prop :=
  ∀ E : Env, (new.all fun id => E.all fun p => p.2.no id) = true → ∀ (Q : Sig → Prop) (rest : List Oper), ARun P N w0 ops Q rest ⟨F ++ (σ.env ++ E), H'⟩ → ARun P N w0 ops Q (o :: rest) ⟨σ.env ++ E, σ.heap⟩
def Sub (Hc H : Heap) : Prop := LkAll (fun id o => H.lookup id = some o) Hc
/-- The operation q waits for the operation k. -/
def edgeB (md : Region.Mode) (ops : Array Oper) (q k : Nat) : Bool := match ops[q]? with | some o => o.after.any (fun e => Region.binds md e && e.on == k) | none => false
inductive ADsE (P : Program) (N : Nat) (w0 : Start) (md : Region.Mode) (ops : Array Oper) (Hc He : Heap) (q : Nat) (effs : List Nat) : Nat → List Nat → List Oper → Sig → Sig → Prop
  | nil {k : Nat} {nw : List Nat} {σ : Sig} : ADsE P N w0 md ops Hc He q effs k nw [] σ σ
  | pure {k : Nat} {nw : List Nat} {o : Oper} {rest : List Oper} {σ τ : Sig} {d : Nat} {s : SV} {Hp : Heap} : effs.contains k = false → o.dst = some d → d < N → OpStep P ops o (Sig.only ⟨σ.env, Hp⟩ (o.looksAt ops)) s → (Hp = Hc ∨ (Hp = He ∧ edgeB md ops q k = true)) →
      mentB nw (σ.env.filter fun p => (o.looksAt ops).contains p.1) s = true → ADsE P N w0 md ops Hc He q effs (k + 1) nw rest ⟨(d, s) :: σ.env, σ.heap⟩ τ → ADsE P N w0 md ops Hc He q effs k nw (o :: rest) σ τ
  | eff {k : Nat} {nw new : List Nat} {o : Oper} {rest : List Oper} {σ τ : Sig} {s : SV} {F : Env} {H' : Heap} : effs.contains k = true → (∀ d, o.dst = some d → d < N) → EffStep P N w0 ops o (Sig.only σ (o.looksAt ops)) new F H' → FOk o.dst F s →
      (new.all fun id => σ.env.all fun p => p.2.no id) = true → mentB nw (σ.env.filter fun p => (o.looksAt ops).contains p.1) s = true → Sub Hc H' → (k < q → Sub He H') → ADsE P N w0 md ops Hc He q effs (k + 1) (new ++ nw) rest ⟨consO o.dst s σ.env, H'⟩ τ → ADsE P N w0 md ops Hc He q effs k nw (o :: rest) σ τ
section
variable {P : Program} {N : Nat} {w0 : Start} {ops : Array Oper} {md : Region.Mode} {Hc He : Heap} {q : Nat} {effs : List Nat}
theorem ADsE.lay {k0 : Nat} {nw0 : List Nat} {l : List Oper} {σ τ : Sig} (h : ADsE P N w0 md ops Hc He q effs k0 nw0 l σ τ) : ∃ (s : Nat → SV) (e : Nat → Env) (Hs : Nat → Heap) (nw nf : Nat → List Nat), e 0 = σ.env ∧ Hs 0 = σ.heap ∧ nw 0 = nw0 ∧ τ = ⟨e l.length, Hs l.length⟩ ∧
    ∀ k o, l[k]? = some o → (∀ d, o.dst = some d → d < N) ∧ e (k + 1) = consO o.dst (s k) (e k) ∧ nw (k + 1) = nf k ++ nw k ∧ mentB (nw k) ((e k).filter fun p => (o.looksAt ops).contains p.1) (s k) = true ∧ ((nf k).all fun id => (e k).all fun p => p.2.no id) = true ∧ (Sub Hc (Hs k) → Sub Hc (Hs (k + 1))) ∧ (k0 + k < q → Sub He (Hs k) → Sub He (Hs (k + 1))) ∧
      ((effs.contains (k0 + k) = false ∧ o.dst.isSome = true ∧ nf k = [] ∧ Hs (k + 1) = Hs k ∧ ∃ Hp, (Hp = Hc ∨ (Hp = He ∧ edgeB md ops q (k0 + k) = true)) ∧ OpStep P ops o (Sig.only ⟨e k, Hp⟩ (o.looksAt ops)) (s k)) ∨
       (effs.contains (k0 + k) = true ∧ ∃ F, EffStep P N w0 ops o (Sig.only ⟨e k, Hs k⟩ (o.looksAt ops)) (nf k) F (Hs (k + 1)) ∧ FOk o.dst F (s k))) := by
  induction h with
  | @nil k nw σ => exact ⟨fun _ => .one (.con undef), fun _ => σ.env, fun _ => σ.heap, fun _ => nw, fun _ => [], rfl, rfl, rfl, rfl, fun k o hk => by simp at hk⟩
  | @pure k1 nw1 o rest σ τ d0 s0 Hp hk hd hN hs hp hm _ ih =>
    obtain ⟨s, e, Hs, nw, nf, h1, h2, h3, h4, h5⟩ := ih
    refine ⟨fun k => if k = 0 then s0 else s (k - 1), fun k => if k = 0 then σ.env else e (k - 1), fun k => if k = 0 then σ.heap else Hs (k - 1), fun k => if k = 0 then nw1 else nw (k - 1), fun k => if k = 0 then [] else nf (k - 1), rfl, rfl, rfl, by rw [h4]; simp, fun k o' hk' => ?_⟩
    cases k with
    | zero =>
      simp at hk'
      subst hk'
      refine ⟨fun d e => by rw [hd] at e; cases e; exact hN, by simp [h1, hd, consO], by simp [h3], by simpa using hm, by simp, by simp [h2], by simp [h2], .inl ⟨by simpa using hk, by rw [hd]; rfl, by simp, by simp [h2], Hp, by simpa using hp, by simpa using hs⟩⟩
    | succ k =>
      obtain ⟨g1, g2, g3, g4, g5, g6, g6b, g7⟩ := h5 k o' (by simpa using hk')
      exact ⟨g1, by simpa using g2, by simpa using g3, by simpa using g4, by simpa using g5, by simpa using g6, by rw [show k1 + (k + 1) = k1 + 1 + k by omega]; simpa using g6b, by rw [show k1 + (k + 1) = k1 + 1 + k by omega]; simpa using g7⟩
  | @eff k1 nw1 new o rest σ τ s0 F H' hk hN hs hF hno hm hsub hsub2 _ ih =>
    obtain ⟨s, e, Hs, nw, nf, h1, h2, h3, h4, h5⟩ := ih
    refine ⟨fun k => if k = 0 then s0 else s (k - 1), fun k => if k = 0 then σ.env else e (k - 1), fun k => if k = 0 then σ.heap else Hs (k - 1), fun k => if k = 0 then nw1 else nw (k - 1), fun k => if k = 0 then new else nf (k - 1), rfl, rfl, rfl, by rw [h4]; simp, fun k o' hk' => ?_⟩
    cases k with
    | zero =>
      simp at hk'
      subst hk'
      refine ⟨hN, by simp [h1], by simp [h3], by simpa using hm, by simpa using hno, fun _ => by simpa [h2] using hsub, fun hlt _ => by simpa [h2] using hsub2 (by simpa using hlt), .inr ⟨by simpa using hk, F, by simpa [h2] using hs, by simpa using hF⟩⟩
    | succ k =>
      obtain ⟨g1, g2, g3, g4, g5, g6, g6b, g7⟩ := h5 k o' (by simpa using hk')
      exact ⟨g1, by simpa using g2, by simpa using g3, by simpa using g4, by simpa using g5, by simpa using g6, by rw [show k1 + (k + 1) = k1 + 1 + k by omega]; simpa using g6b, by rw [show k1 + (k + 1) = k1 + 1 + k by omega]; simpa using g7⟩
theorem consO_get {d : Option Nat} {s : SV} {e : Env} {t : Nat} {x : SV} (h : (consO d s e).lookup t = some x) : (d = some t ∧ x = s) ∨ (d ≠ some t ∧ e.lookup t = some x) := by
  cases d with
  | none => exact .inr ⟨by simp, h⟩
  | some d =>
    rcases lookup_put (show ((d, s) :: e).lookup t = some x from h) with ⟨rfl, rfl⟩ | ⟨hne, h⟩
    · exact .inl ⟨rfl, rfl⟩
    · exact .inr ⟨fun e => hne (Option.some.inj e).symm, h⟩
theorem consO_mem {d : Option Nat} {s : SV} {e : Env} {q : Nat × SV} (h : q ∈ consO d s e) : (∃ t, d = some t ∧ q = (t, s)) ∨ q ∈ e := by
  cases d with
  | none => exact .inr h
  | some d =>
    rcases List.mem_cons.1 (show q ∈ (d, s) :: e from h) with h | h
    · exact .inl ⟨d, rfl, h⟩
    · exact .inr h
theorem consO_mem' {d : Option Nat} {s : SV} {e : Env} {q : Nat × SV} (h : q ∈ e) : q ∈ consO d s e := by
  cases d with
  | none => exact h
  | some d => exact List.mem_cons_of_mem _ h
theorem lookup_app {α : Type} {t : Nat} {x : α} : ∀ {l m : List (Nat × α)}, (l ++ m).lookup t = some x → l.lookup t = some x ∨ (l.lookup t = none ∧ m.lookup t = some x)
  | [], m, h => .inr ⟨rfl, h⟩
  | (k, v) :: l, m, h => by
    rcases lookup_put (show ((k, v) :: (l ++ m)).lookup t = some x from h) with ⟨rfl, rfl⟩ | ⟨hne, h⟩
    · exact .inl (by simp)
    · have : (t == k) = false := by simpa using hne
      rcases lookup_app h with h | ⟨h1, h2⟩
      · exact .inl (by rw [List.lookup_cons, this]; exact h)
      · exact .inr ⟨by rw [List.lookup_cons, this]; exact h1, h2⟩
theorem lookup_none_app {α : Type} {t : Nat} : ∀ {l m : List (Nat × α)}, l.lookup t = none → (l ++ m).lookup t = m.lookup t
  | [], m, _ => rfl
  | (k, v) :: l, m, h => by
    rw [List.lookup_cons] at h
    cases hb : t == k with
    | true => rw [hb] at h; cases h
    | false =>
      rw [hb] at h
      show ((k, v) :: (l ++ m)).lookup t = _
      rw [List.lookup_cons, hb]; exact lookup_none_app h
theorem lookup_some_app {α : Type} {t : Nat} {x : α} : ∀ {l m : List (Nat × α)}, l.lookup t = some x → (l ++ m).lookup t = some x
  | [], m, h => by simp at h
  | (k, v) :: l, m, h => by
    show ((k, v) :: (l ++ m)).lookup t = _
    rw [List.lookup_cons] at h ⊢
    cases hb : t == k with
    | true => rw [hb] at h; exact h
    | false => rw [hb] at h; exact lookup_some_app h
theorem F_other {F : Env} {d t : Nat} (h : F.all (fun p => p.1 == d) = true) (hne : t ≠ d) : F.lookup t = none := by
  induction F with
  | nil => rfl
  | cons p F ih =>
    rw [List.all_cons, Bool.and_eq_true, beq_iff_eq] at h
    obtain ⟨k, v⟩ := p
    rw [List.lookup_cons, show (t == k) = false by have := h.1; simp at this; rw [this]; simpa using hne]
    exact ih h.2
/-- In the midst of such a region. -/
structure MidE (P : Program) (N : Nat) (w0 : Start) (ops : Array Oper) (md : Region.Mode) (effs : List Nat) (s : Nat → SV) (Hs : Nat → Heap) (σ : Sig) (listed : Array Bool) (ρ : Rho) (S : Nat → Prop) (a : Act) (w : World) : Prop where
  len : listed.size = ops.size
  closed : ∀ j o, ops[j]? = some o → listed.getD j false = true → ∀ e ∈ o.after, Region.binds md e = true → listed.getD e.on false = true
  mem : ∃ nx, nx ≤ ops.size ∧ (∀ j, j < nx → effs.contains j = true → listed.getD j false = true) ∧ (∀ j, nx ≤ j → j < ops.size → effs.contains j = true → listed.getD j false = false) ∧ (nx < ops.size → effs.contains nx = true) ∧ St N w0 ρ S ⟨[], Hs nx⟩ a w
  done : ∀ j o d, ops[j]? = some o → o.dst = some d → listed.getD j false = true → RS ρ w S (s j) (a.tmps.getD d undef)
  old : ∀ t x, σ.env.lookup t = some x → (∀ j o, ops[j]? = some o → o.dst = some t → listed.getD j false = false) → RS ρ w S x (a.tmps.getD t undef)
theorem any_orderE {path : List Nat} {σ τ : Sig} {Q : Exit → Act → World → Prop} (hord : ordB md ops = true) (hpath : pathB md ops path = true) (hin : effs.all (fun i => path.contains i) = true) (hqe : effs.contains q = true) (hc0 : Sub Hc σ.heap) (hc1 : Sub He σ.heap) (h : ADsE P N w0 md ops Hc He q effs 0 [] ops.toList σ τ)
    (hQ : ∀ ρ S a w, St N w0 ρ S τ a w → Q .normal a w) :
    ∀ (ρ : Rho) (S : Nat → Prop) (a : Act) (w : World), St N w0 ρ S σ a w → wpAny P md ops Q ops.size (Array.replicate ops.size false) a w := by
  obtain ⟨s, e, Hs, nw, nf, he0, hH0, hnw0, hτ, hst⟩ := h.lay
  have hlen : ops.toList.length = ops.size := by simp
  have hstep : ∀ k o, ops[k]? = some o → _ := fun k o hk => hst k o (by first | exact hk | (rw [Array.getElem?_toList]; exact hk) | simpa using hk)
  simp only [Nat.zero_add] at hstep
  have hget0 : ∀ k (hk : k < ops.size), ops[k]? = some (ops[k]'hk) := fun k hk => Array.getElem?_eq_getElem hk
  have hdst : ∀ (i j : Nat) (oi oj : Oper) (d : Nat), ops[i]? = some oi → ops[j]? = some oj → oi.dst = some d → oj.dst = some d → i = j := fun i j oi oj d hi hj h1 h2 => by
    rcases Nat.decEq i j with hd | hd
    · exact absurd (by rw [h1, h2]) ((ordB_pair hord hi hj).1 hd (by rw [h2]; simp))
    · exact hd
  -- what the laid slots hold
  have hget : ∀ k, k ≤ ops.size → ∀ t x, (e k).lookup t = some x → (∃ j o, j < k ∧ ops[j]? = some o ∧ o.dst = some t ∧ x = s j) ∨ ((∀ j o, j < k → ops[j]? = some o → o.dst ≠ some t) ∧ σ.env.lookup t = some x) := by
    intro k
    induction k with
    | zero => intro _ t x h; exact .inr ⟨fun j o hj => absurd hj (by omega), by rw [← he0]; exact h⟩
    | succ k ih =>
      intro hk t x h
      obtain ⟨_, g2, _⟩ := hstep k _ (hget0 k (by omega))
      rw [g2] at h
      rcases consO_get h with ⟨h1, rfl⟩ | ⟨h1, h2⟩
      · exact .inl ⟨k, _, by omega, hget0 k (by omega), h1, rfl⟩
      · rcases ih (by omega) t x h2 with ⟨j, o, hj, q1, q2, q3⟩ | ⟨q1, q2⟩
        · exact .inl ⟨j, o, by omega, q1, q2, q3⟩
        · refine .inr ⟨fun j o hj ho => ?_, q2⟩
          by_cases hjk : j = k
          · subst hjk; rw [hget0 j (by omega)] at ho; cases ho; exact h1
          · exact q1 j o (by omega) ho
  have hmem : ∀ k, k ≤ ops.size → ∀ q ∈ e k, (∃ j o t, j < k ∧ ops[j]? = some o ∧ o.dst = some t ∧ q = (t, s j)) ∨ q ∈ σ.env := by
    intro k
    induction k with
    | zero => intro _ q h; exact .inr (by rw [← he0]; exact h)
    | succ k ih =>
      intro hk q h
      obtain ⟨_, g2, _⟩ := hstep k _ (hget0 k (by omega))
      rw [g2] at h
      rcases consO_mem h with ⟨t, h1, h2⟩ | h
      · exact .inl ⟨k, _, t, by omega, hget0 k (by omega), h1, h2⟩
      · rcases ih (by omega) q h with ⟨j, o, t, hj, q1, q2, q3⟩ | h
        · exact .inl ⟨j, o, t, by omega, q1, q2, q3⟩
        · exact .inr h
  have hup : ∀ k, k ≤ ops.size → ∀ i, i ≤ k → ∀ q ∈ e i, q ∈ e k := by
    intro k
    induction k with
    | zero => intro _ i hi q h; obtain rfl : i = 0 := (by omega); exact h
    | succ k ih =>
      intro hk i hi q h
      by_cases hik : i = k + 1
      · subst hik; exact h
      · obtain ⟨_, g2, _⟩ := hstep k _ (hget0 k (by omega))
        rw [g2]
        exact consO_mem' (ih (by omega) i (by omega) q h)
  have hnwup : ∀ k, k ≤ ops.size → ∀ j, j < k → ∀ id ∈ nf j, id ∈ nw k := by
    intro k
    induction k with
    | zero => intro _ j hj; omega
    | succ k ih =>
      intro hk j hj id hid
      obtain ⟨_, _, g3, _⟩ := hstep k _ (hget0 k (by omega))
      rw [g3]
      by_cases hjk : j = k
      · subst hjk; exact List.mem_append_left _ hid
      · exact List.mem_append_right _ (ih (by omega) j (by omega) id hid)
  have hfr : ∀ j, j < ops.size → ∀ id ∈ nf j, ∀ q ∈ e j, q.2.no id = true := fun j hj id hid q hq => by
    obtain ⟨_, _, _, _, g5, _⟩ := hstep j _ (hget0 j hj)
    exact List.all_eq_true.1 (List.all_eq_true.1 g5 id hid) q hq
  -- what speaks of a new object stands behind what made it
  have hment : ∀ (listed : Array Bool) (_ : ∀ j o, ops[j]? = some o → listed.getD j false = true → ∀ e ∈ o.after, Region.binds md e = true → listed.getD e.on false = true) (k : Nat) (ok : Oper) (d : Nat), ops[k]? = some ok → ok.dst = some d → listed.getD k false = true → ∀ j id, j < ops.size → id ∈ nf j → (s k).no id = false → listed.getD j false = true := by
    intro listed hcl k
    induction k using Nat.strongRecOn with
    | _ k ih =>
      intro ok dk hok hdk hlk j id hj hid hn
      have hk : k < ops.size := (Array.getElem?_eq_some_iff.1 hok).1
      by_cases hjk : j = k
      · subst hjk; exact hlk
      · have hlt : j < k := by
          apply Classical.byContradiction
          intro hge
          have hin' : (dk, s k) ∈ e (k + 1) := by
            obtain ⟨_, g2, _⟩ := hstep k _ hok
            rw [g2, hdk]; exact List.mem_cons_self ..
          have := hfr j hj id hid _ (hup j (by omega) (k + 1) (by omega) _ hin')
          rw [hn] at this; cases this
        obtain ⟨_, _, _, g4, _⟩ := hstep k _ hok
        have h8 := List.all_eq_true.1 g4 id (hnwup k (by omega) j hlt id hid)
        rw [hn, Bool.false_or] at h8
        obtain ⟨q, hq, hqn⟩ := List.any_eq_true.1 h8
        obtain ⟨hqe, hql⟩ := List.mem_filter.1 hq
        simp only [Bool.not_eq_true'] at hqn
        rcases hmem k (by omega) q hqe with ⟨i, oi, t, hik, q1, q2, rfl⟩ | h0
        · have hli : listed.getD i false = true := by
            rcases (ordB_pair hord hok q1).2 _ q2 (by simpa using hql) with e1 | ⟨_, ed, hed, hb, hon⟩ | ⟨hn', _⟩
            · omega
            · rw [← hon]; exact hcl k _ hok hlk ed hed hb
            · omega
          exact ih i hik oi t q1 q2 hli j id hj hid hqn
        · have := hfr j hj id hid q (hup j (by omega) 0 (Nat.zero_le _) q (by rw [he0]; exact h0))
          rw [hqn] at this; cases this
  have hsub : ∀ k, k ≤ ops.size → Sub Hc (Hs k) := by
    intro k
    induction k with
    | zero => intro _; rw [hH0]; exact hc0
    | succ k ih =>
      intro hk
      obtain ⟨_, _, _, _, _, g6, _⟩ := hstep k _ (hget0 k (by omega))
      exact g6 (ih (by omega))
  have hsub2 : ∀ k, k ≤ ops.size → k ≤ q → Sub He (Hs k) := by
    intro k
    induction k with
    | zero => intro _ _; rw [hH0]; exact hc1
    | succ k ih =>
      intro hk hkq
      obtain ⟨_, _, _, _, _, _, g6, _⟩ := hstep k _ (hget0 k (by omega))
      exact g6 (by omega) (ih (by omega) (by omega))
  -- the next operation with effects
  have hnext : ∀ f k, f + k = ops.size → ∃ nx, k ≤ nx ∧ nx ≤ ops.size ∧ (∀ j, k ≤ j → j < nx → effs.contains j = false) ∧ (nx < ops.size → effs.contains nx = true) ∧ Hs nx = Hs k := by
    intro f
    induction f with
    | zero => intro k hk; exact ⟨k, Nat.le_refl _, by omega, fun j h1 h2 => by omega, fun h => by omega, rfl⟩
    | succ f ih =>
      intro k hk
      cases hc : effs.contains k with
      | true => exact ⟨k, Nat.le_refl _, by omega, fun j h1 h2 => by omega, fun _ => hc, rfl⟩
      | false =>
        obtain ⟨nx, h1, h2, h3, h4, h5⟩ := ih (k + 1) (by omega)
        refine ⟨nx, by omega, h2, fun j g1 g2 => ?_, h4, ?_⟩
        · by_cases hjk : j = k
          · rw [hjk]; exact hc
          · exact h3 j (by omega) g2
        · obtain ⟨_, _, _, _, _, _, _, g7⟩ := hstep k _ (hget0 k (by omega))
          rcases g7 with ⟨_, _, _, g, _⟩ | ⟨g, _⟩
          · rw [h5, g]
          · rw [hc] at g; cases g
  have key : ∀ fuel listed ρ S a w, unl listed ops.size = fuel → MidE P N w0 ops md effs s Hs σ listed ρ S a w → wpAny P md ops Q fuel listed a w := by
    intro fuel
    induction fuel with
    | zero =>
      intro listed ρ S a w hf hm
      have hall : ∀ j, j < ops.size → listed.getD j true = true := unl_zero _ hf
      have hallF : ∀ j, j < ops.size → listed.getD j false = true := fun j hj => by rw [← getD_tf (by rw [hm.len]; exact hj)]; exact hall j hj
      refine ⟨?_, ?_⟩
      · unfold Region.ready
        rw [List.filter_eq_nil_iff]
        intro i hi
        rw [hall i (List.mem_range.1 hi)]; simp
      · obtain ⟨nx, n1, n2, n3, n4, hH⟩ := hm.mem
        have hnx : nx = ops.size := by
          apply Classical.byContradiction
          intro hne
          have := n3 nx (Nat.le_refl _) (by omega) (n4 (by omega))
          rw [hallF nx (by omega)] at this; cases this
        subst hnx
        refine hQ ρ S a w ⟨hH.size, hH.defers, hH.below, by rw [hτ, hlen]; exact hH.mem, fun t x ht => ?_⟩
        rw [hτ, hlen] at ht
        rcases hget _ (Nat.le_refl _) t x ht with ⟨j, o, hj, q1, q2, rfl⟩ | ⟨h1, h2⟩
        · exact hm.done j o t q1 q2 (hallF j hj)
        · exact hm.old t x h2 fun j o ho hd => absurd hd (h1 j o (Array.getElem?_eq_some_iff.1 ho).1 ho)
    | succ fuel ih =>
      intro listed ρ S a w hf hm
      refine ⟨fun hnil => ?_, fun i hi => ?_⟩
      · exfalso
        have hex : ∃ j, j < ops.size ∧ listed.getD j true = false := by
          by_cases hall : ∀ j, j < ops.size → listed.getD j true = true
          · have : ∀ k, k ≤ ops.size → unl listed k = 0 := by
              intro k
              induction k with
              | zero => intro _; rfl
              | succ k ihk => intro hk; simp only [unl]; rw [ihk (by omega), hall k (by omega)]; rfl
            have := this _ (Nat.le_refl _)
            omega
          · apply Classical.byContradiction
            intro hno
            exact hall fun j hj => by
              cases hb : listed.getD j true with
              | true => rfl
              | false => exact absurd ⟨j, hj, hb⟩ hno
        obtain ⟨j0, hj0⟩ := hex
        obtain ⟨j, ⟨hj, hb⟩, hmin⟩ := exists_min (p := fun j => j < ops.size ∧ listed.getD j true = false) j0 hj0
        have : j ∈ Region.ready md ops listed := by
          refine mem_ready.2 ⟨hb, _, hget0 j hj, fun ed hed hbd => ?_⟩
          have hlt := ordB_after hord (hget0 j hj) ed hed hbd
          have h1 : listed.getD ed.on true = true := by
            cases hc : listed.getD ed.on true with
            | true => rfl
            | false => have := hmin ed.on ⟨by omega, hc⟩; omega
          rw [← getD_tf (by rw [hm.len]; omega)]; exact h1
        rw [hnil] at this
        cases this
      · obtain ⟨hun, o, ho, hpre⟩ := mem_ready.1 hi
        have hilt : i < ops.size := (Array.getElem?_eq_some_iff.1 ho).1
        have hunf : listed.getD i false = false := by rw [← getD_tf (by rw [hm.len]; exact hilt)]; exact hun
        obtain ⟨hN, hen, hnwi, hmen, hnoi, _, _, hop⟩ := hstep i o ho
        obtain ⟨nx, n1, n2, n3, n4, hH⟩ := hm.mem
        -- the slots that it looks at
        have hlook : ∀ t x, ((e i).filter fun p => (o.looksAt ops).contains p.1).lookup t = some x → RS ρ w S x (a.tmps.getD t undef) ∧ ((∃ j oj, ops[j]? = some oj ∧ oj.dst = some t ∧ listed.getD j false = true ∧ x = s j) ∨ (∀ j oj, ops[j]? = some oj → oj.dst = some t → listed.getD j false = false) ∧ σ.env.lookup t = some x) := by
          intro t x ht
          obtain ⟨htl, ht⟩ := lookup_filter ht
          rcases hget i (by omega) t x ht with ⟨j, oj, hj, q1, q2, rfl⟩ | ⟨h1, h2⟩
          · rcases (ordB_pair hord ho q1).2 _ q2 htl with e1 | ⟨_, ed, hed, hb, hon⟩ | ⟨hn, _⟩
            · omega
            · have hlj : listed.getD j false = true := by rw [← hon]; exact hpre ed hed hb
              exact ⟨hm.done j oj t q1 q2 hlj, .inl ⟨j, oj, q1, q2, hlj, rfl⟩⟩
            · exact absurd hj hn
          · have hno : ∀ j oj, ops[j]? = some oj → oj.dst = some t → listed.getD j false = false := fun j oj hj hdj => by
              rcases (ordB_pair hord ho hj).2 _ hdj htl with e1 | ⟨hlt, _⟩ | ⟨hn, ed, hed, hb, hon⟩
              · subst e1; exact hunf
              · exact absurd hdj (h1 j oj hlt hj)
              · cases hc : listed.getD j false with
                | false => rfl
                | true =>
                  have := hm.closed j _ hj hc ed hed hb
                  rw [hon, hunf] at this
                  cases this
            exact ⟨hm.old t x h2 hno, .inr ⟨hno, h2⟩⟩
        have hclosed' : ∀ j oj, ops[j]? = some oj → (listed.setIfInBounds i true).getD j false = true → ∀ ed ∈ oj.after, Region.binds md ed = true → (listed.setIfInBounds i true).getD ed.on false = true := by
          intro j oj hoj hl ed hed hb
          by_cases hji : j = i
          · subst hji
            rw [ho] at hoj
            obtain rfl := Option.some.inj hoj
            exact getD_set_true (hpre ed hed hb)
          · rw [getD_set_ne false (Ne.symm hji)] at hl
            exact getD_set_true (hm.closed j oj hoj hl ed hed hb)
        have hunl' : unl (listed.setIfInBounds i true) ops.size = fuel := by
          have := unl_set hun ops.size
          rw [if_pos hilt] at this
          omega
        have hqd : ∀ q', q' < nx → q' = q → listed.getD q' false = true := fun q' h1 h2 => by subst h2; exact n2 q' h1 hqe
        rcases hop with ⟨hpe, hds, hnf, hHn, Hp, hpp, hps⟩ | ⟨hee, F, heff, hF⟩
        · -- a quiet one
          obtain ⟨d, hd⟩ := Option.isSome_iff_exists.1 hds
          have hdN := hN d hd
          have hpn : Sub Hp (Hs nx) := by
            rcases hpp with rfl | ⟨rfl, hed⟩
            · exact hsub nx n1
            · refine hsub2 nx n1 ?_
              unfold edgeB at hed
              cases hq : ops[q]? with
              | none => rw [hq] at hed; cases hed
              | some oq =>
                simp only [hq] at hed
                obtain ⟨ed, hed1, hb⟩ := Array.any_eq_true'.1 hed
                rw [Bool.and_eq_true, beq_iff_eq] at hb
                apply Classical.byContradiction
                intro hgt
                have hqs : ops.size > q := (Array.getElem?_eq_some_iff.1 hq).1
                have hlq : listed.getD q false = true := hqd q (by omega) rfl
                have := hm.closed q oq hq hlq ed hed1 hb.1
                rw [hb.2, hunf] at this; cases this
          have hpre' : St N w0 ρ S (Sig.only ⟨e i, Hp⟩ (o.looksAt ops)) a w := ⟨hH.size, hH.defers, hH.below, hH.mem.le' fun id ob hob => HLe.refl (hpn.get hob), fun t x ht => (hlook t x ht).1⟩
          have hnext' : ∀ v S' w', Same S w S' w' → Below w.heap.size w w' → (∀ b, S' b → S b ∨ w.heap.size ≤ b) → St N w0 ρ S' (Sig.only ⟨e i, Hp⟩ (o.looksAt ops)) a w' → RS ρ w' S' (s i) v → wpAny P md ops Q fuel (listed.setIfInBounds i true) (a.put o.dst v) w' := by
            intro v S' w' hsame hbel hSS hs' hv
            have hj1 : St N w0 ρ S' ⟨[], oH none ++ Hs nx⟩ a w' := St.join (H1 := Hp) hH hbel hSS hsame rfl (fun _ _ => .refl _ _) (fun p h => by cases h) (fun p _ _ _ _ h => by cases h) ⟨hs'.size, hs'.defers, hs'.below, hs'.mem, fun t s hs => by simp at hs⟩ (fun p h => by cases h)
            have hj1 : St N w0 ρ S' ⟨[], Hs nx⟩ a w' := hj1
            refine ih _ ρ S' _ w' hunl' ⟨by simp [hm.len], hclosed', ⟨nx, n1, fun j h1 h2 => getD_set_true (n2 j h1 h2), fun j h1 h2 h3 => ?_, n4, ?_⟩, ?_, ?_⟩
            · have hji : i ≠ j := fun e => by rw [e, h3] at hpe; cases hpe
              rw [getD_set_ne false hji]; exact n3 j h1 h2 h3
            · rw [hd]; exact (hj1.put hdN hv).memOnly
            · intro j oj t hj hdj hl
              have hsz : d < a.tmps.size := by rw [hH.size]; exact hdN
              rw [hd, getD_put hsz]
              by_cases hji : j = i
              · subst hji
                rw [ho] at hj; cases hj
                rw [hd] at hdj; cases hdj
                rw [if_pos rfl]; exact hv
              · rw [if_neg (fun e => hji (hdst j i oj o t hj ho hdj (by rw [e]; exact hd)))]
                rw [getD_set_ne false (Ne.symm hji)] at hl
                exact (hm.done j oj t hj hdj hl).keep hsame (Rn.refl _ _)
            · intro t x ht hno
              have hsz : d < a.tmps.size := by rw [hH.size]; exact hdN
              have hti : t ≠ d := fun e => by
                have := hno i o ho (by rw [e]; exact hd)
                rw [show (listed.setIfInBounds i true).getD i false = true by simp [hm.len, hilt]] at this
                cases this
              rw [hd, getD_put hsz, if_neg hti]
              refine (hm.old t x ht fun j oj hj hdj => ?_).keep hsame (Rn.refl _ _)
              have hji : i ≠ j := fun e => by
                subst e
                rw [ho] at hj; cases hj
                rw [hd] at hdj; exact hti (Option.some.inj hdj).symm
              have := hno j oj hj hdj
              rwa [getD_set_ne false hji] at this
          have h1 := hps.run N w0 ρ S a w (wpAny P md ops Q fuel (listed.setIfInBounds i true)) Q hpre' hnext'
          unfold wpOp
          simp only [ho]
          split
          · rename_i hw; rw [if_pos hw] at h1; exact .inl h1
          · rename_i hw; rw [if_neg hw] at h1; exact h1
        · -- one with effects: it is the next of them
          have hinp : ∀ j, effs.contains j = true → j ∈ path := fun j hj => List.contains_iff_mem.1 (List.all_eq_true.1 hin j (List.contains_iff_mem.1 hj))
          have hnx : nx = i := by
            rcases Nat.lt_trichotomy nx i with hlt | heq | hgt
            · have := path_ready hm.closed hpath (hinp i hee) (hinp nx (n4 (by omega))) hlt (fun o' ho' => by rw [ho] at ho'; cases ho'; exact hpre)
              rw [n3 nx (Nat.le_refl _) (by omega) (n4 (by omega))] at this; cases this
            · exact heq
            · have := n2 i hgt hee
              rw [hunf] at this; cases this
          subst hnx
          let L : Env := (List.range ops.size).filterMap fun j => if listed.getD j false = true then ((ops[j]?).bind (·.dst)).map (fun d => (d, s j)) else none
          let O : Env := σ.env.filter fun p => (List.range ops.size).all fun j => !(listed.getD j false && ((ops[j]?).bind (·.dst)) == some p.1)
          have hL : ∀ q ∈ L, ∃ j oj, ops[j]? = some oj ∧ oj.dst = some q.1 ∧ listed.getD j false = true ∧ q.2 = s j := by
            intro q hq
            obtain ⟨j, hj, hjq⟩ := List.mem_filterMap.1 hq
            have hjl := List.mem_range.1 hj
            split at hjq
            · rename_i hl
              rw [hget0 j hjl] at hjq
              obtain ⟨d, hd, rfl⟩ := Option.map_eq_some_iff.1 hjq
              exact ⟨j, _, hget0 j hjl, hd, hl, rfl⟩
            · cases hjq
          have hLin : ∀ j oj d, ops[j]? = some oj → oj.dst = some d → listed.getD j false = true → (d, s j) ∈ L := by
            intro j oj d hj hd hl
            have hjl : j < ops.size := (Array.getElem?_eq_some_iff.1 hj).1
            refine List.mem_filterMap.2 ⟨j, List.mem_range.2 hjl, ?_⟩
            rw [if_pos hl, hj]
            show (oj.dst).map _ = _
            rw [hd]; rfl
          have hO : ∀ q ∈ O, q ∈ σ.env ∧ ∀ j oj, ops[j]? = some oj → oj.dst = some q.1 → listed.getD j false = false := by
            intro q hq
            obtain ⟨h1, h2⟩ := List.mem_filter.1 hq
            refine ⟨h1, fun j oj hj hd => ?_⟩
            have hjl : j < ops.size := (Array.getElem?_eq_some_iff.1 hj).1
            have := List.all_eq_true.1 h2 j (List.mem_range.2 hjl)
            rw [hj] at this
            cases hb : listed.getD j false with
            | false => rfl
            | true =>
              rw [hb] at this
              simp [hd] at this
          have hOlk : ∀ t x, O.lookup t = some x → σ.env.lookup t = some x := by
            intro t x
            show (σ.env.filter _).lookup t = some x → _
            generalize σ.env = en
            induction en with
            | nil => intro h; simp at h
            | cons p en ihh =>
              intro h
              obtain ⟨k, v⟩ := p
              by_cases hk : ((List.range ops.size).all fun j => !(listed.getD j false && ((ops[j]?).bind (·.dst)) == some k)) = true
              · rw [List.filter_cons_of_pos (by simpa using hk)] at h
                rcases lookup_put h with ⟨rfl, rfl⟩ | ⟨hne, h⟩
                · simp
                · rw [List.lookup_cons, show (t == k) = false by simpa using hne]; exact ihh h
              · rw [List.filter_cons_of_neg (by simpa using hk)] at h
                have hne : t ≠ k := by
                  intro e
                  subst e
                  obtain ⟨_, h2⟩ := List.mem_filter.1 (lookup_mem h)
                  exact hk (by simpa using h2)
                rw [List.lookup_cons, show (t == k) = false by simpa using hne]; exact ihh h
          have hOget : ∀ t x, σ.env.lookup t = some x → (∀ j oj, ops[j]? = some oj → oj.dst = some t → listed.getD j false = false) → O.lookup t = some x := by
            intro t x ht hno
            show (σ.env.filter _).lookup t = some x
            generalize σ.env = en at ht
            induction en with
            | nil => simp at ht
            | cons p en ihh =>
              obtain ⟨k, v⟩ := p
              rcases lookup_put ht with ⟨rfl, rfl⟩ | ⟨hne, ht⟩
              · rw [List.filter_cons_of_pos]
                · simp
                · rw [List.all_eq_true]
                  intro j hj
                  have hjl := List.mem_range.1 hj
                  rw [hget0 j hjl]
                  cases hb : listed.getD j false with
                  | false => rfl
                  | true =>
                    cases hd : decide (ops[j].dst = some t) with
                    | true => have := hno j _ (hget0 j hjl) (of_decide_eq_true hd); rw [hb] at this; cases this
                    | false => have := of_decide_eq_false hd; simp [this]
              · have hr := ihh ht
                by_cases hk : ((List.range ops.size).all fun j => !(listed.getD j false && ((ops[j]?).bind (·.dst)) == some k)) = true
                · rw [List.filter_cons_of_pos (by simpa using hk), List.lookup_cons, show (t == k) = false by simpa using hne]; exact hr
                · rw [List.filter_cons_of_neg (by simpa using hk)]; exact hr
          let E : Env := L ++ O
          have hLlk : ∀ j oj d, ops[j]? = some oj → oj.dst = some d → listed.getD j false = true → L.lookup d = some (s j) := by
            intro j oj d hj hd hl
            cases hlk : L.lookup d with
            | none =>
              exfalso
              have hm2 := hLin j oj d hj hd hl
              have : ∀ (l : Env), (d, s j) ∈ l → l.lookup d ≠ none := by
                intro l
                induction l with
                | nil => intro h; cases h
                | cons p l ihl =>
                  intro h
                  obtain ⟨k, v⟩ := p
                  rw [List.lookup_cons]
                  rcases List.mem_cons.1 h with h | h
                  · cases h; simp
                  · split
                    · simp
                    · exact ihl h
              exact this L hm2 hlk
            | some x =>
              obtain ⟨j', oj', q1, q2, q3, q4⟩ := hL _ (lookup_mem hlk)
              have : j' = j := hdst j' j oj' oj d q1 hj q2 hd
              subst this
              rw [show x = s j' from q4]
          have hLnone : ∀ t, (∀ j oj, ops[j]? = some oj → oj.dst = some t → listed.getD j false = false) → L.lookup t = none := by
            intro t hno
            cases hlk : L.lookup t with
            | none => rfl
            | some x =>
              obtain ⟨j', oj', q1, q2, q3, q4⟩ := hL _ (lookup_mem hlk)
              have := hno j' oj' q1 q2
              rw [q3] at this; cases this
          have hE : ((nf nx).all fun id => E.all fun p => p.2.no id) = true := by
            rw [List.all_eq_true]
            intro id hid
            rw [List.all_eq_true]
            intro q hq
            rcases List.mem_append.1 hq with hq | hq
            · obtain ⟨j, oj, q1, q2, q3, q4⟩ := hL q hq
              cases hn : q.2.no id with
              | true => rfl
              | false =>
                rw [q4] at hn
                have := hment listed hm.closed j oj _ q1 q2 q3 nx id hilt hid hn
                rw [hunf] at this; cases this
            · have hq2 := (hO q hq).1
              exact hfr nx hilt id hid q (hup nx (by omega) 0 (Nat.zero_le _) q (by rw [he0]; exact hq2))
          let pf : Env := (e nx).filter fun p => (o.looksAt ops).contains p.1
          have hpre' : St N w0 ρ S ⟨pf ++ E, Hs nx⟩ a w := by
            refine ⟨hH.size, hH.defers, hH.below, hH.mem, fun t x ht => ?_⟩
            rcases lookup_app ht with h1 | ⟨_, h1⟩
            · exact (hlook t x h1).1
            · rcases lookup_app h1 with h1 | ⟨_, h1⟩
              · obtain ⟨j, oj, q1, q2, q3, q4⟩ := hL _ (lookup_mem h1)
                rw [show x = s j from q4]
                exact hm.done j oj t q1 q2 q3
              · exact hm.old t x (hOlk t x h1) (hO _ (lookup_mem h1)).2
          let Q2 : Exit → Act → World → Prop := fun e a' w' => match e with | .normal => wpAny P md ops Q fuel (listed.setIfInBounds nx true) a' w' | _ => False
          have hfin : ∀ ρ' S' σ' a' w', St N w0 ρ' S' σ' a' w' → σ' = ⟨F ++ (pf ++ E), Hs (nx + 1)⟩ → Q2 .normal a' w' := by
            intro ρ' S' σ' a' w' hs' hσ
            subst hσ
            show wpAny P md ops Q fuel (listed.setIfInBounds nx true) a' w'
            obtain ⟨nx', m1, m2, m3, m4, m5⟩ := hnext (ops.size - (nx + 1)) (nx + 1) (by omega)
            -- what is held of the slots behind it
            have hEt : ∀ j oj d, ops[j]? = some oj → oj.dst = some d → listed.getD j false = true → (pf ++ E).lookup d = some (s j) := by
              intro j oj d hj hd hl
              cases hp : pf.lookup d with
              | none => rw [lookup_none_app hp]; exact lookup_some_app (hLlk j oj d hj hd hl)
              | some x =>
                rw [lookup_some_app hp]
                rcases (hlook d x hp).2 with ⟨j', oj', q1, q2, q3, q4⟩ | ⟨q1, _⟩
                · have : j' = j := hdst j' j oj' oj d q1 hj q2 hd
                  subst this; rw [q4]
                · have := q1 j oj hj hd; rw [hl] at this; cases this
            have hOt : ∀ t x, σ.env.lookup t = some x → (∀ j oj, ops[j]? = some oj → oj.dst = some t → listed.getD j false = false) → (pf ++ E).lookup t = some x := by
              intro t x ht hno
              cases hp : pf.lookup t with
              | none => rw [lookup_none_app hp, lookup_none_app (hLnone t hno)]; exact hOget t x ht hno
              | some y =>
                rw [lookup_some_app hp]
                rcases (hlook t y hp).2 with ⟨j', oj', q1, q2, q3, q4⟩ | ⟨_, q2⟩
                · have := hno j' oj' q1 q2; rw [q3] at this; cases this
                · rw [← q2]; exact ht
            have hFo : ∀ t, o.dst ≠ some t → F.lookup t = none := by
              intro t ht
              cases hd : o.dst with
              | none => rw [hd] at hF; rw [hF.1]; rfl
              | some d =>
                rw [hd] at hF ht
                exact F_other hF.2 (fun e => ht (by rw [e]))
            refine ih _ ρ' S' _ w' hunl' ⟨by simp [hm.len], hclosed', ⟨nx', m2, fun j h1 h2 => ?_, fun j h1 h2 h3 => ?_, m4, ?_⟩, ?_, ?_⟩
            · by_cases hj : j = nx
              · subst hj; simp [hm.len, hilt]
              · rcases Nat.lt_or_ge j nx with hlt | hge
                · exact getD_set_true (n2 j hlt h2)
                · have := m3 j (by omega) h1; rw [h2] at this; cases this
            · rw [getD_set_ne false (by omega)]; exact n3 j (by omega) h2 h3
            · rw [m5]; exact ⟨hs'.size, hs'.defers, hs'.below, hs'.mem, fun t s hs => by simp at hs⟩
            · intro j oj t hj hdj hl
              by_cases hji : j = nx
              · subst hji
                rw [ho] at hj; cases hj
                rw [hdj] at hF
                exact hs'.env t _ (lookup_some_app hF.1)
              · rw [getD_set_ne false (Ne.symm hji)] at hl
                refine hs'.env t _ ?_
                rw [lookup_none_app (hFo t fun e => hji (hdst j nx oj o t hj ho hdj e))]
                exact hEt j oj t hj hdj hl
            · intro t x ht hno
              have hti : o.dst ≠ some t := fun e => by
                have := hno nx o ho e
                rw [show (listed.setIfInBounds nx true).getD nx false = true by simp [hm.len, hilt]] at this
                cases this
              refine hs'.env t _ ?_
              rw [lookup_none_app (hFo t hti)]
              refine hOt t x ht fun j oj hj hdj => ?_
              have hji : nx ≠ j := fun e => by
                subst e
                rw [ho] at hj; cases hj
                exact hti hdj
              have := hno j oj hj hdj
              rwa [getD_set_ne false hji] at this
          have h1 := heff E hE (fun σ' => σ' = ⟨F ++ (pf ++ E), Hs (nx + 1)⟩) [] (fun ρ S a w Q'' hQ'' hs'' => hQ'' ρ S _ a w hs'' rfl) ρ S a w Q2 hfin hpre'
          unfold wpOp
          simp only [ho]
          unfold wpList at h1
          split
          · rename_i hw
            rw [if_pos hw] at h1
            rcases h1 with h1 | ⟨_, _, _, h1⟩
            · refine .inl (Oper.wp_only (Q2 := Q2) (fun _ _ _ h => h) (fun _ _ h => h) (Oper.wp_mono (fun a' w' h => ?_) h1))
              exact h
            · exact h1.elim
          · rename_i hw
            rw [if_neg hw] at h1
            exact h1
  intro ρ S a w hs
  obtain ⟨nx, m1, m2, m3, m4, m5⟩ := hnext ops.size 0 (by omega)
  refine key ops.size _ ρ S a w ?_ ⟨by simp, fun j o ho hl => ?_, ⟨nx, m2, fun j h1 h2 => ?_, fun j h1 h2 h3 => by simp [h2], m4, by rw [m5, hH0]; exact hs.memOnly⟩, fun j o d hj hd hl => ?_, fun t x ht _ => hs.env t x ht⟩
  · have : ∀ k, k ≤ ops.size → unl (Array.replicate ops.size false) k = k := by
      intro k
      induction k with
      | zero => intro _; rfl
      | succ k ihk => intro hk; simp only [unl]; rw [ihk (by omega)]; simp [show k < ops.size by omega]
    exact this _ (Nat.le_refl _)
  · exfalso
    by_cases hj : j < ops.size <;> simp [hj] at hl
  · have := m3 j (Nat.zero_le _) h1
    rw [h2] at this; cases this
  · exfalso
    have hjl : j < ops.size := (Array.getElem?_eq_some_iff.1 hj).1
    simp [hjl] at hl
/-- A drawn region with a chain of effects. -/
def ADE (P : Program) (N : Nat) (w0 : Start) (md : Region.Mode) (ops : Array Oper) (Hc He : Heap) (q : Nat) (effs : List Nat) (Q : Sig → Prop) (k : Nat) (nw : List Nat) (l : List Oper) (σ : Sig) : Prop := ∃ τ, ADsE P N w0 md ops Hc He q effs k nw l σ τ ∧ Q τ
theorem AW.anyE (effs path : List Nat) (Hc He : Heap) (q : Nat) {i : Nat} {l : List Oper} {Q : Exit → Sig → Prop} {σ : Sig} (hm : P.follows .mixedOrders = true) (hord : ordB .any l.toArray = true) (hpath : pathB .any l.toArray path = true) (hin : effs.all (fun i => path.contains i) = true) (hqe : effs.contains q = true) (hc0 : Sub Hc σ.heap) (hc1 : Sub He σ.heap)
    (h : ADE P N w0 .any l.toArray Hc He q effs (fun σ => Q .normal σ) 0 [] l σ) : AW P N w0 (.region i l.toArray true) Q σ := by
  intro ρ S a w Q' hQ hs
  obtain ⟨τ, h1, h2⟩ := h
  refine wp_region_any hm ?_
  exact any_orderE hord hpath hin hqe hc0 hc1 (by simpa using h1) (fun ρ S a w hs' => hQ _ ρ S τ a w hs' h2) ρ S a _ (hs.world ((Below.refl _ _).drew))
variable {Q : Sig → Prop} {σ : Sig} {o : Oper} {rest : List Oper} {k : Nat} {nw : List Nat}
theorem ADE.nil (h : Q σ) : ADE P N w0 md ops Hc He q effs Q k nw [] σ := ⟨σ, .nil, h⟩
theorem ADE.step {s : SV} {d : Nat} {Hp : Heap} (hh : Hp = Hc ∨ (Hp = He ∧ edgeB md ops q k = true)) (hp : OpStep P ops o (Sig.only ⟨σ.env, Hp⟩ (o.looksAt ops)) s) (hk : effs.contains k = false) (hd : o.dst = some d) (hN : d < N) (hm : mentB nw (σ.env.filter fun p => (o.looksAt ops).contains p.1) s = true) (h : ADE P N w0 md ops Hc He q effs Q (k + 1) nw rest (σ.put d s)) : ADE P N w0 md ops Hc He q effs Q k nw (o :: rest) σ :=
  let ⟨τ, h1, h2⟩ := h
  ⟨τ, .pure hk hd hN hp hh hm h1, h2⟩
theorem ADE.pure {s : SV} {d : Nat} (hp : PureOp P o (Sig.only ⟨σ.env, Hc⟩ (o.looksAt ops)) s) (hg : o.guard = none) (hd : o.dst = some d) (hN : d < N) (hk : effs.contains k = false) (hm : mentB nw (σ.env.filter fun p => (o.looksAt ops).contains p.1) s = true) (h : ADE P N w0 md ops Hc He q effs Q (k + 1) nw rest (σ.put d s)) : ADE P N w0 md ops Hc He q effs Q k nw (o :: rest) σ :=
  ADE.step (.inl rfl) (hp.fresh.step hg) hk hd hN hm h
theorem ADE.early {s : SV} {d : Nat} (hp : PureOp P o (Sig.only ⟨σ.env, He⟩ (o.looksAt ops)) s) (hg : o.guard = none) (hd : o.dst = some d) (hN : d < N) (he : edgeB md ops q k = true) (hk : effs.contains k = false) (hm : mentB nw (σ.env.filter fun p => (o.looksAt ops).contains p.1) s = true) (h : ADE P N w0 md ops Hc He q effs Q (k + 1) nw rest (σ.put d s)) : ADE P N w0 md ops Hc He q effs Q k nw (o :: rest) σ :=
  ADE.step (.inr ⟨rfl, he⟩) (hp.fresh.step hg) hk hd hN hm h
theorem ADE.fresh {s : SV} {d : Nat} (hp : FreshOp P o (Sig.only ⟨σ.env, Hc⟩ (o.looksAt ops)) s) (hg : o.guard = none) (hd : o.dst = some d) (hN : d < N) (hk : effs.contains k = false) (hm : mentB nw (σ.env.filter fun p => (o.looksAt ops).contains p.1) s = true) (h : ADE P N w0 md ops Hc He q effs Q (k + 1) nw rest (σ.put d s)) : ADE P N w0 md ops Hc He q effs Q k nw (o :: rest) σ :=
  ADE.step (.inl rfl) (hp.step hg) hk hd hN hm h
theorem ADE.eff {new : List Nat} {s : SV} {F : Env} {H' : Heap} (he : EffStep P N w0 ops o (Sig.only σ (o.looksAt ops)) new F H') (hF : FOk o.dst F s) (hk : effs.contains k = true) (hN : ∀ d, o.dst = some d → d < N) (hno : (new.all fun id => σ.env.all fun p => p.2.no id) = true) (hm : mentB nw (σ.env.filter fun p => (o.looksAt ops).contains p.1) s = true) (hsub : Sub Hc H') (hsub2 : k < q → Sub He H')
    (h : ADE P N w0 md ops Hc He q effs Q (k + 1) (new ++ nw) rest ⟨consO o.dst s σ.env, H'⟩) : ADE P N w0 md ops Hc He q effs Q k nw (o :: rest) σ :=
  let ⟨τ, h1, h2⟩ := h
  ⟨τ, .eff hk hN he hF hno hm hsub hsub2 h1, h2⟩
end
/-- A name that is new to what is held and to what else there is. -/
theorem Fr.ext {id : Nat} {env E : Env} {H : Heap} (h1 : Fr id ⟨env, H⟩) (h2 : E.all (fun p => p.2.no id) = true) : Fr id ⟨env ++ E, H⟩ := by
  refine ⟨?_, h1.heap⟩
  have := h1.envB
  rw [Bool.and_eq_true] at this ⊢
  exact ⟨this.1, by rw [show ((⟨env ++ E, H⟩ : Sig).env) = env ++ E from rfl, List.all_append, this.2, h2]; rfl⟩
theorem ARun.hle {P : Program} {N : Nat} {w0 : Start} {ops : Array Oper} {Q : Sig → Prop} {rest : List Oper} {e : Env} {H H' : Heap} (h : HeapLe H H') (hk : ARun P N w0 ops Q rest ⟨e, H'⟩) : ARun P N w0 ops Q rest ⟨e, H⟩ :=
  fun ρ S a w Q' hQ hs => hk ρ S a w Q' hQ ⟨hs.size, hs.defers, hs.below, hs.mem.le h, hs.env⟩
end Go.Proofs.YticinemcmgggpabDoor
