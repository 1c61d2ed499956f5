/-
  Part 3 of the proof: the texts of a seat's own library, joined.
-/
import Derived.Lib.ItoaLen
import Derived.Test.YtonfeiloekofdaaGreatDoorM1
import Derived.Test.YtonfeiloekofdaaGreatDoorM2
namespace Go.Proofs.YtonfeiloekofdaaGreatDoor
open Go.ChangeShapes Go.WideShapes Go.ChangeAt Go.RowKit Go.BigFrame Go.Deep
set_option linter.unusedVariables false
set_option linter.unusedSimpArgs false
section
variable {P : Program} {N : Nat} {w0 : Start} {σ : Sig} {ops : Array Oper} {rest : List Oper} {o : Oper} {Q : Sig → Prop}
theorem St.openRowC {ρ : Rho} {S : Nat → Prop} {a : Act} {w : World} (hs : St N w0 ρ S σ a w) {K q m sz c n id L : Nat} {X : Nat → AV} {f : Nat → Nat → AV} (hK : σ.heap.lookup K = some (.trees m X)) (hq : q < m) (hX : X q = .lst sz n f) (hcs : c < sz)
    (hlst : ∀ i, i < n → ∃ s k g, f i c = .lst s k g) (hscl : ∀ i j, i < n → j < sz → j ≠ c → (f i j).scl = true) (hf : Fr id σ) (hL : Fr L σ) (hne : id ≠ L) : ∃ ρ', St N w0 ρ' S ⟨σ.env, (id, .arr sz n fun i j => if j = c then .tre L i else f i j) :: (L, .trees n fun i => f i c) :: σ.heap.filter fun p => p.1 != K⟩ a w ∧ ∀ v, R ρ' w S (.tre K q) v → R ρ' w S (.own id sz n) v := by
  obtain ⟨t1, t2⟩ := hs.mem.tree K m X hK q hq
  rw [hX] at t1
  unfold Tr at t1
  obtain ⟨A, cp, e, hnc, hcm, hcase⟩ := t1
  obtain ⟨b, cs, F, hA, hblk, hcell, hFd⟩ : ∃ (b : Nat) (cs : Array Value) (F : Nat → Nat → Nat → Prop), (A = some ⟨b, 0, none⟩ ∨ (A = none ∧ cp = 0)) ∧ (cp ≠ 0 → ρ.tb K q b ∧ (∃ e, w.heap[b]? = some (.cells cs e (0, 0))) ∧ cs.size = cp * sz) ∧
      (∀ i j, i < n → j < sz → (∀ p, F i j p → ρ.tb K q p ∧ p ≠ b) ∧ ∃ u, cs[i * sz + j]? = some u ∧ Tr w (f i j) u (F i j)) ∧ ∀ i i', i < n → i' < n → i ≠ i' → ∀ p, F i c p → ¬ F i' c p := by
    rcases hcase with ⟨rfl, hA⟩ | ⟨b, cs, e', g1, g2, g3, g4, F, g5, g6⟩
    · rcases hA with hA | ⟨b, hA⟩
      · exact ⟨0, #[], fun _ _ _ => False, .inr ⟨hA, rfl⟩, fun h => absurd rfl h, fun i j hi => absurd hi (by omega), fun i i' hi => absurd hi (by omega)⟩
      · exact ⟨b, #[], fun _ _ _ => False, .inl hA, fun h => absurd rfl h, fun i j hi => absurd hi (by omega), fun i i' hi => absurd hi (by omega)⟩
    · exact ⟨b, cs, F, .inl g1, fun _ => ⟨g2, ⟨e', g3⟩, g4⟩, g5, fun i i' hi hi' hne p h1 => g6 i c i' c hi hcs hi' hcs (fun e => hne e.1) p h1⟩
  let ρ' : Rho := ⟨fun k => if k = id then (b, cp) else if k = L then (0, 0) else ρ k, ρ.base, fun k i => if k = L then cs.getD (i * sz + c) undef else ρ.tv k i, fun k i => if k = L then F i c else ρ.tb k i, fun k => if k = L then n else ρ.tn k⟩
  have hρA : ∀ k, k ≠ id → k ≠ L → Rho.At ρ ρ' k := fun k hk hk' => ⟨(if_neg hk).trans (if_neg hk'), by funext i; simp [ρ', hk'], by funext i; simp [ρ', hk'], by simp [ρ', hk']⟩
  have hmL : ρ' L = (0, 0) := (if_neg (Ne.symm hne)).trans (if_pos rfl)
  have hmid : ρ' id = (b, cp) := if_pos rfl
  have hm : ∀ k, k ≠ id → k ≠ L → ρ' k = ρ k := fun k hk hk' => (if_neg hk).trans (if_neg hk')
  have hkeep : ∀ {x : AV} {u : Value}, x.no id = true → x.no L = true → R ρ w S x u → R ρ' w S x u := fun {x u} hx hx' hr => hr.keep (ρ := ρ) (Same.refl _ _) ⟨rfl, fun p => by
    by_cases hp : p = id
    · subst hp; exact .inr hx
    · by_cases hp' : p = L
      · subst hp'; exact .inr hx'
      · exact .inl (hρA p hp hp')⟩
  have hget : ∀ k p, (σ.heap.filter fun p => p.1 != K).lookup k = some p → σ.heap.lookup k = some p ∧ k ≠ K ∧ k ≠ id ∧ k ≠ L ∧ p.No id ∧ p.No L := fun k p hp => by
    obtain ⟨f1, f2⟩ := filter_lookup hp
    exact ⟨f2, f1, (hf.heap.get f2).1, (hL.heap.get f2).1, (hf.heap.get f2).2, (hL.heap.get f2).2⟩
  have cases3 : ∀ {k : Nat} {p : AObj}, ((id, AObj.arr sz n fun i j => if j = c then .tre L i else f i j) :: (L, AObj.trees n fun i => f i c) :: σ.heap.filter fun p => p.1 != K).lookup k = some p → (k = id ∧ p = .arr sz n fun i j => if j = c then .tre L i else f i j) ∨ (k = L ∧ p = .trees n fun i => f i c) ∨ (σ.heap.filter fun p => p.1 != K).lookup k = some p := fun {k p} hp => by
    rcases lookup_put hp with ⟨rfl, rfl⟩ | ⟨_, hp⟩
    · exact .inl ⟨rfl, rfl⟩
    · rcases lookup_put hp with ⟨rfl, rfl⟩ | ⟨_, hp⟩
      · exact .inr (.inl ⟨rfl, rfl⟩)
      · exact .inr (.inr hp)
  have htL : ∀ i, i < n → Tr w (f i c) (ρ'.tv L i) (F i c) := fun i hi => by
    obtain ⟨_, u, hu, hT⟩ := hcell i c hi hcs
    show Tr w (f i c) (if L = L then cs.getD (i * sz + c) undef else _) (F i c)
    rw [if_pos rfl, Array.getD_eq_getD_getElem?, hu]; exact hT
  refine ⟨ρ', ?_, ?_⟩
  · refine ⟨hs.size, hs.defers, ⟨hs.below.old, hs.below.same, fun k hk => (hs.below.ids k hk).trans (hρA k (fun e => by have := hf.small; omega) (fun e => by have := hL.small; omega))⟩, ⟨hs.mem.base, hs.mem.low, hs.mem.lt, ?_, ?_, ?_, ?_⟩, fun t' s ht' => ?_⟩
    · intro k p hp
      rcases cases3 hp with ⟨rfl, rfl⟩ | ⟨rfl, rfl⟩ | hp
      · rw [hmid]; exact hnc
      · exact Nat.zero_le _
      · obtain ⟨h1, _, h3, h4, _⟩ := hget k p hp
        rw [hm k h3 h4]; exact hs.mem.cap k p h1
    · intro k p hp hc
      rcases cases3 hp with ⟨rfl, rfl⟩ | ⟨rfl, rfl⟩ | hp
      · rw [hmid] at hc ⊢
        obtain ⟨g1, ⟨e', g2⟩, g3⟩ := hblk hc
        obtain ⟨q1, q2, q3, _⟩ := t2 b g1
        refine ⟨cs, e', g2, g3, hnc, hcm, q1, q3, fun i j hi hj => ?_⟩
        have hi : i < n := hi
        have hj : j < sz := hj
        obtain ⟨_, u, hu, hT⟩ := hcell i j hi hj
        refine ⟨u, hu, ?_⟩
        show R ρ' w S (if j = c then .tre L i else f i j) u
        by_cases hjc : j ≠ c
        · rw [if_neg hjc]
          have hl := hscl i j hi hj hjc
          refine hkeep (scl_no hl _) (scl_no hl _) ?_
          generalize f i j = y at hT hl
          cases y <;> first | exact hT | cases hl
        obtain rfl : j = c := Decidable.not_not.1 hjc
        rw [if_pos rfl]
        show u = (if L = L then cs.getD (i * sz + j) undef else _) ∧ i < (if L = L then n else _) ∧ _
        rw [if_pos rfl, if_pos rfl]
        refine ⟨by rw [Array.getD_eq_getD_getElem?, hu]; rfl, hi, ?_⟩
        obtain ⟨s, k, g, hg⟩ := hlst i hi
        rw [hg] at hT
        obtain ⟨A', c', e'', _⟩ := hT
        exact ⟨A', k, c', e''⟩
      · exact absurd (by rw [hmL]) hc
      · obtain ⟨h1, _, h3, h4, h5, h6⟩ := hget k p hp
        rw [hm k h3 h4] at hc ⊢
        obtain ⟨cs2, e2, g1, g2, g3, g4, g5, g6, g7⟩ := hs.mem.obj k p h1 hc
        refine ⟨cs2, e2, g1, g2, g3, g4, g5, g6, fun i j hi hj => ?_⟩
        obtain ⟨u, hu, hr⟩ := g7 i j hi hj
        exact ⟨u, hu, hkeep (h5.at_ i j) (h6.at_ i j) hr⟩
    · have key : ∀ k p, (σ.heap.filter fun p => p.1 != K).lookup k = some p → (ρ k).2 ≠ 0 → cp ≠ 0 → (ρ k).1 ≠ b := fun k p hp hk hc => (t2 b (hblk hc).1).2.2.2.1 k p (hget k p hp).1 hk
      intro k k' p p' hp hp' hne' hc hc'
      rcases cases3 hp with ⟨rfl, rfl⟩ | ⟨rfl, rfl⟩ | hpp
      · rcases cases3 hp' with ⟨rfl, rfl⟩ | ⟨rfl, rfl⟩ | hp'
        · exact absurd rfl hne'
        · exact absurd (by rw [hmL]) hc'
        · obtain ⟨h1, _, h3, h4, _⟩ := hget k' p' hp'
          rw [hmid] at hc ⊢
          rw [hm k' h3 h4] at hc' ⊢
          exact fun e => key k' p' hp' hc' hc e.symm
      · exact absurd (by rw [hmL]) hc
      · have hp2 := hpp
        obtain ⟨h1, _, h3, h4, _⟩ := hget k p hp2
        rw [hm k h3 h4] at hc ⊢
        rcases cases3 hp' with ⟨rfl, rfl⟩ | ⟨rfl, rfl⟩ | hp'
        · rw [hmid] at hc' ⊢
          exact key k p hp2 hc hc'
        · exact absurd (by rw [hmL]) hc'
        · obtain ⟨h1', _, h3', h4', _⟩ := hget k' p' hp'
          rw [hm k' h3' h4'] at hc' ⊢
          exact hs.mem.inj k k' p p' h1 h1' hne' hc hc'
    · intro k n' Y hY
      rcases cases3 hY with ⟨_, e⟩ | ⟨rfl, e⟩ | hY
      · cases e
      · cases e
        refine ⟨if_pos rfl, fun i hi => ⟨?_, fun p hp => ?_⟩⟩
        · show Tr w (f i c) _ (if k = k then F i c else _)
          rw [if_pos rfl]; exact htL i hi
        · have hpF : F i c p := by
            have : (if k = k then F i c else ρ.tb k i) p := hp
            rwa [if_pos rfl] at this
          obtain ⟨k1, _⟩ := hcell i c hi hcs
          obtain ⟨g1, g2⟩ := k1 p hpF
          obtain ⟨q1, q2, q3, q4, q5⟩ := t2 p g1
          refine ⟨q1, q2, q3, fun id' o ho hc => ?_, fun id' m' Y' i' hY' hi' hne' => ?_⟩
          · rcases cases3 ho with ⟨rfl, rfl⟩ | ⟨rfl, rfl⟩ | ho
            · rw [hmid]; exact fun e => g2 e.symm
            · exact absurd (by rw [hmL]) hc
            · obtain ⟨h1, _, h3, h4, _⟩ := hget id' o ho
              rw [hm id' h3 h4] at hc ⊢
              exact q4 id' o h1 hc
          · rcases cases3 hY' with ⟨_, e⟩ | ⟨rfl, e⟩ | hY'
            · cases e
            · cases e
              show ¬ (if id' = id' then F i' c else ρ.tb id' i') p
              rw [if_pos rfl]
              exact hFd i i' hi hi' (fun e => hne' ⟨rfl, e.symm⟩) p hpF
            · obtain ⟨h1, h2, h3, h4, _⟩ := hget id' _ hY'
              show ¬ (if id' = k then F i' c else ρ.tb id' i') p
              rw [if_neg h4]
              exact q5 id' m' Y' i' h1 hi' (fun e => h2 e.1)
      · obtain ⟨h1, h2, h3, h4, _⟩ := hget k _ hY
        refine ⟨(if_neg h4).trans (hs.mem.tree0 k n' Y h1).1, fun i hi => ?_⟩
        have a1 := hρA k h3 h4
        obtain ⟨t3, t4⟩ := hs.mem.tree k n' Y h1 i hi
        rw [a1.v, a1.b]
        refine ⟨t3, fun p hp => ?_⟩
        obtain ⟨q1, q2, q3, q4, q5⟩ := t4 p hp
        refine ⟨q1, q2, q3, fun id' o ho hc => ?_, fun id' m' Y' i' hY' hi' hne' => ?_⟩
        · rcases cases3 ho with ⟨rfl, rfl⟩ | ⟨rfl, rfl⟩ | ho
          · rw [hmid] at hc ⊢
            intro e
            have e : b = p := e
            subst e
            exact q5 K m X q hK hq (fun e => h2 e.1.symm) (hblk hc).1
          · exact absurd (by rw [hmL]) hc
          · obtain ⟨g1, _, g3, g4, _⟩ := hget id' o ho
            rw [hm id' g3 g4] at hc ⊢
            exact q4 id' o g1 hc
        · rcases cases3 hY' with ⟨_, e⟩ | ⟨rfl, e⟩ | hY'
          · cases e
          · cases e
            show ¬ (if id' = id' then F i' c else ρ.tb id' i') p
            rw [if_pos rfl]
            intro hp'
            exact q5 K m X q hK hq (fun e => h2 e.1.symm) ((hcell i' c hi' hcs).1 p hp').1
          · obtain ⟨g1, _, g3, g4, _⟩ := hget id' _ hY'
            rw [(hρA id' g3 g4).b]
            exact q5 id' m' Y' i' g1 hi' hne'
    · exact (hs.env t' s ht').keep (ρ := ρ) (Same.refl _ _) ⟨rfl, fun p => by
          by_cases hp : p = id
          · subst hp; exact .inr (List.all_eq_true.1 hf.env _ (lookup_mem ht'))
          · by_cases hp' : p = L
            · subst hp'; exact .inr (List.all_eq_true.1 hL.env _ (lookup_mem ht'))
            · exact .inl (hρA p hp hp')⟩
  · have hKid : K ≠ id := (hf.heap.get hK).1
    have hKL : K ≠ L := (hL.heap.get hK).1
    rintro v ⟨hv, _⟩
    have hv2 : v = ρ'.tv K q := hv
    have e2 : ρ'.tv K q = ρ.tv K q := congrFun (hρA K hKid hKL).v q
    rw [e2, e] at hv2
    show ∃ B, v = Value.slice B n (ρ' id).2 ∧ n ≤ (ρ' id).2 ∧ (ρ' id).2 ≤ maxLen ∧ (B = some ⟨(ρ' id).1, 0, none⟩ ∨ (B = none ∧ (ρ' id).2 = 0))
    rw [hmid]
    exact ⟨A, hv2, hnc, hcm, hA⟩
theorem RL.setAt {ρ : Rho} {w : World} {S : Nat → Prop} {x y : AV} (hv : ∀ v, R ρ w S x v → R ρ w S y v) : ∀ {l : List AV} {us : List Value} {j : Nat}, RL ρ w S l us → l[j]? = some x → RL ρ w S (l.set j y) us
  | [], _, _, h, _ => h
  | z :: l, _, 0, ⟨u, us, e, h1, h2⟩, hj => by
    obtain rfl : z = x := by simpa using hj
    exact ⟨u, us, e, hv u h1, h2⟩
  | z :: l, _, j + 1, ⟨u, us, e, h1, h2⟩, hj => ⟨u, us, e, h1, RL.setAt hv h2 (by simpa using hj)⟩
theorem ARun.openAgg (t j K q m sz c n id L : Nat) (l l' : List AV) (X : Nat → AV) (f f' : Nat → Nat → AV) (ht : σ.env.lookup t = some (.agg l)) (hj : l[j]? = some (.tre K q)) (hl : l.set j (.own id sz n) = l') (hK : σ.heap.lookup K = some (.trees m X)) (hq : q < m) (hX : X q = .lst sz n f) (hcs : c < sz)
    (hlst : ∀ i, i < n → ∃ s k g, f i c = .lst s k g) (hscl : ∀ i j, i < n → j < sz → j ≠ c → (f i j).scl = true) (hf : Fr id σ) (hL : Fr L σ) (hne : id ≠ L) (hff : ∀ i j, i < n → j < sz → (if j = c then .tre L i else f i j) = f' i j)
    (h : ARun P N w0 ops Q rest ⟨(t, .agg l') :: σ.env, (id, .arr sz n f') :: (L, .trees n fun i => f i c) :: σ.heap.filter fun p => p.1 != K⟩) : ARun P N w0 ops Q rest σ := by
  intro ρ S a w Q' hQ hs
  obtain ⟨ρ', hs', hv⟩ := hs.openRowC hK hq hX hcs hlst hscl hf hL hne
  refine h ρ' S a w Q' hQ ⟨hs'.size, hs'.defers, hs'.below, hs'.mem.le' fun k p hp => ?_, fun t' s ht' => ?_⟩
  · rcases lookup_put hp with ⟨rfl, rfl⟩ | ⟨hne, hp⟩
    · exact ⟨AObj.arr sz n fun i j => if j = c then .tre L i else f i j, by rw [List.lookup_cons, beq_self_eq_true], rfl, Nat.le_refl _, fun i j hi hj => (hff i j hi hj)⟩
    · exact HLe.refl (by rw [List.lookup_cons, show (k == id) = false by simpa using hne]; exact hp)
  · rcases lookup_put ht' with ⟨rfl, rfl⟩ | ⟨_, ht2⟩
    · obtain ⟨us, e, hr⟩ := hs'.env _ _ ht
      exact ⟨us, e, by rw [← hl]; exact RL.setAt hv hr hj⟩
    · exact hs'.env t' s ht2
theorem R.setAt {ρ : Rho} {w : World} {S : Nat → Prop} {x y : AV} (hv : ∀ v, R ρ w S x v → R ρ w S y v) {l : List AV} {j q : Nat} {u : Value} (hj : l[j]? = some x) (hq : q < l.length) (hr : R ρ w S (l.getD q (.con undef)) u) : R ρ w S ((l.set j y).getD q (.con undef)) u := by
  by_cases hqj : q = j
  · subst hqj
    rw [List.getD_eq_getElem?_getD, hj] at hr
    rw [List.getD_eq_getElem?_getD, List.getElem?_set, if_pos rfl, if_pos hq]
    exact hv u hr
  · rw [List.getD_eq_getElem?_getD, List.getElem?_set, if_neg (fun e => hqj e.symm), ← List.getD_eq_getElem?_getD]; exact hr
theorem St.moveRowV {ρ : Rho} {S : Nat → Prop} {a : Act} {w : World} (hs : St N w0 ρ S σ a w) {id id2 : Nat} {ob : AObj} (hob : σ.heap.lookup id = some ob) (hT : ob.isT = false) (hf : Fr id2 σ) :
    ∃ ρ', St N w0 ρ' S ⟨σ.env, (id2, ob) :: σ.heap.filter fun p => p.1 != id⟩ a w ∧ ∀ sz n v, R ρ' w S (.own id sz n) v → R ρ' w S (.own id2 sz n) v := by
  have hne : id ≠ id2 := (hf.heap.get hob).1
  let ρ' : Rho := ⟨fun k => if k = id2 then ρ id else ρ k, ρ.base, ρ.tv, ρ.tb, ρ.tn⟩
  have hm : ∀ k, k ≠ id2 → ρ' k = ρ k := fun k hk => if_neg hk
  have hm2 : ρ' id2 = ρ id := if_pos rfl
  have hkeep : ∀ {x : AV} {u : Value}, x.no id2 = true → R ρ w S x u → R ρ' w S x u := R.noB (ρ := ρ) (ρ' := ρ') (id := id2) rfl hm (fun _ _ => rfl) (fun _ _ => rfl)
  -- every object of the new heap is one of the old
  have conv : ∀ {k p}, ((id2, ob) :: σ.heap.filter fun p => p.1 != id : Heap).lookup k = some p → ∃ k', σ.heap.lookup k' = some p ∧ ρ' k = ρ k' ∧ (k' = if k = id2 then id else k) ∧ p.No id2 := fun {k p} hp => by
    rcases lookup_put hp with ⟨rfl, rfl⟩ | ⟨hk, hp⟩
    · exact ⟨id, hob, hm2, (if_pos rfl).symm, (hf.heap.get hob).2⟩
    · obtain ⟨f1, f2⟩ := filter_lookup hp
      exact ⟨k, f2, hm k hk, (if_neg hk).symm, (hf.heap.get f2).2⟩
  refine ⟨ρ', ⟨hs.size, hs.defers, ⟨hs.below.old, hs.below.same, fun k hk => (hs.below.ids k hk).trans ⟨hm k (fun e => by have := hf.small; omega), rfl, rfl, rfl⟩⟩, ⟨hs.mem.base, hs.mem.low, hs.mem.lt, ?_, ?_, ?_, ?_⟩, fun t' s ht' => ?_⟩, fun sz n v h => ?_⟩
  · intro k p hp
    obtain ⟨k', h1, h2, _⟩ := conv hp
    rw [h2]; exact hs.mem.cap k' p h1
  · intro k p hp hc
    obtain ⟨k', h1, h2, _, h4⟩ := conv hp
    rw [h2] at hc ⊢
    obtain ⟨cs, e, g1, g2, g3, g4, g5, g6, g7⟩ := hs.mem.obj k' p h1 hc
    refine ⟨cs, e, g1, g2, g3, g4, g5, g6, fun i j hi hj => ?_⟩
    obtain ⟨u, hu, hr⟩ := g7 i j hi hj
    exact ⟨u, hu, hkeep (h4.at_ i j) hr⟩
  · intro k k' p p' hp hp' hkk hc hc'
    obtain ⟨q, h1, h2, h3, _⟩ := conv hp
    obtain ⟨q', h1', h2', h3', _⟩ := conv hp'
    rw [h2] at hc ⊢
    rw [h2'] at hc' ⊢
    refine hs.mem.inj q q' p p' h1 h1' (fun e => hkk ?_) hc hc'
    have f1 : k ≠ id := fun e => by
      subst e
      rcases lookup_put hp with ⟨e, _⟩ | ⟨_, hp⟩
      · exact hne e
      · exact (filter_lookup hp).1 rfl
    have f2 : k' ≠ id := fun e => by
      subst e
      rcases lookup_put hp' with ⟨e, _⟩ | ⟨_, hp'⟩
      · exact hne e
      · exact (filter_lookup hp').1 rfl
    rw [h3, h3'] at e
    by_cases a1 : k = id2 <;> by_cases a2 : k' = id2
    · rw [a1, a2]
    · rw [if_pos a1, if_neg a2] at e; exact absurd e.symm f2
    · rw [if_neg a1, if_pos a2] at e; exact absurd e f1
    · rwa [if_neg a1, if_neg a2] at e
  · refine hs.mem.treeOf (Nat.le_refl _) (fun k n' X hX => ?_) (fun k n' X i b hX hi hb => ⟨rfl, (((hs.mem.tree k n' X hX i hi).2) b hb).2.1, (((hs.mem.tree k n' X hX i hi).2) b hb).2.2.1⟩) (fun k p hp hc => ?_)
    · rcases lookup_put hX with ⟨_, rfl⟩ | ⟨_, hX⟩
      · cases hT
      · exact ⟨X, (filter_lookup hX).2, fun _ _ => rfl, rfl, rfl, rfl⟩
    · obtain ⟨k', h1, h2, _⟩ := conv hp
      rw [h2] at hc ⊢
      exact .inr fun k4 n4 X4 i4 hX4 hi4 hb4 => ((hs.mem.tree k4 n4 X4 hX4 i4 hi4).2 _ hb4).2.2.2.1 k' p h1 hc rfl
  · exact RS.noB (ρ := ρ) (ρ' := ρ') (id := id2) rfl hm (fun _ _ => rfl) (fun _ _ => rfl) (List.all_eq_true.1 hf.env _ (lookup_mem ht')) (hs.env t' s ht')
  · have h : ∃ A, v = Value.slice A n (ρ' id).2 ∧ n ≤ (ρ' id).2 ∧ (ρ' id).2 ≤ maxLen ∧ (A = some ⟨(ρ' id).1, 0, none⟩ ∨ (A = none ∧ (ρ' id).2 = 0)) := h
    rw [hm id hne] at h
    show ∃ A, v = Value.slice A n (ρ' id2).2 ∧ n ≤ (ρ' id2).2 ∧ (ρ' id2).2 ≤ maxLen ∧ (A = some ⟨(ρ' id2).1, 0, none⟩ ∨ (A = none ∧ (ρ' id2).2 = 0))
    rw [hm2]; exact h
theorem AW.moveCell {c0 : Code} {Q2 : Exit → Sig → Prop} (v j id id2 sz n : Nat) (l l' : List AV) {ob : AObj} (hv : σ.heap.lookup v = some (.cells l)) (hj : l[j]? = some (.own id sz n)) (hl : l.set j (.own id2 sz n) = l') (hob : σ.heap.lookup id = some ob) (hT : ob.isT = false) (hvi : v ≠ id) (hf : Fr id2 σ)
    (h : AW P N w0 c0 Q2 ⟨σ.env, (v, .cells l') :: (id2, ob) :: σ.heap.filter fun p => p.1 != id⟩) : AW P N w0 c0 Q2 σ := by
  intro ρ S a w Q' hQ hs
  obtain ⟨ρ', hs', hV⟩ := hs.moveRowV hob hT hf
  have hv2 : v ≠ id2 := (hf.heap.get hv).1
  have hv' : ((id2, ob) :: σ.heap.filter fun p => p.1 != id : Heap).lookup v = some (.cells l) := by
    rw [List.lookup_cons, show (v == id2) = false by simpa using hv2]
    show (σ.heap.filter fun p => p.1 != id).lookup v = _
    rw [lookup_filter_ne hvi]; exact hv
  refine h ρ' S a w Q' hQ ⟨hs'.size, hs'.defers, hs'.below, hs'.mem.reob hv' rfl (by simp [AObj.sz, ← hl]) rfl (fun i q u _ hq hr => ?_), hs'.env⟩
  rw [← hl]
  exact R.setAt (hV sz n) hj hq hr
theorem PureOp.lenTre {t : TypeId} {x : Operand} {K q m sz n : Nat} {X : Nat → AV} {f : Nat → Nat → AV} (ho : o.op = .call { callee := .builtin .len, args := #[x], argTypes := #[t] }) (hx : Kn σ x (.one (.tre K q))) (hK : σ.heap.lookup K = some (.trees m X)) (hq : q < m) (hX : X q = .lst sz n f) (ht : sliceB P t = true) : PureOp P o σ (.one (.int .i64 n)) := by
  refine PureOp.val fun N w0 ρ S ac w hs => ?_
  obtain ⟨e1, _⟩ := hx.sound hs
  obtain ⟨t1, _⟩ := hs.mem.tree K m X hK q hq
  rw [hX] at t1
  unfold Tr at t1
  obtain ⟨A, c, e, _⟩ := t1
  rw [e] at e1
  obtain ⟨e, he⟩ := sliceB_spec ht
  refine ⟨_, rfl, fun w' _ => ?_⟩
  generalize ac.eval = ev at e1 ⊢
  simp [execOp, ho, e1, resolve, invoke, builtin, Builtin.len_, run_underlying he, goInt, go_sem]
theorem ARun.treeLoad {o1 o2 o3 : Oper} {t t2 t3 : TypeId} {x y : Operand} {K q m sz n i fld off d1 d2 d3 : Nat} {k : IntKind} {mi : Int} {X : Nat → AV} {f : Nat → Nat → AV} {z : AV} (ho1 : o1.op = .indexAddr t x y) (ho2 : o2.op = .fieldAddr t2 (.tmp d1) fld) (ho3 : o3.op = .load t3 (.tmp d2))
    (hx : Kn σ x (.one (.tre K q))) (hK : σ.heap.lookup K = some (.trees m X)) (hq : q < m) (hX : X q = .lst sz n f) (hE : elemB P t sz = true) (hy : Kn σ y (.one (.int k mi))) (hm : mi = (i : Int)) (hi : i < n) (hF : fieldB P t2 fld off = true) (hoff : off < sz) (hT : plainB P t3 = true) (hz : f i off = z) (hsc : z.scl = true)
    (hg1 : o1.guard = none) (hg2 : o2.guard = none) (hg3 : o3.guard = none) (hd1 : o1.dst = some d1) (hd2 : o2.dst = some d2) (hd3 : o3.dst = some d3) (hN1 : d1 < N) (hN2 : d2 < N) (hN3 : d3 < N) (he1 : σ.env.lookup d1 = none) (he2 : σ.env.lookup d2 = none)
    (h : ARun P N w0 ops Q rest ⟨(d3, .one z) :: σ.env, σ.heap⟩) : ARun P N w0 ops Q (o1 :: o2 :: o3 :: rest) σ := by
  subst hm
  intro ρ S a w Q' hQ hs
  obtain ⟨ex, _⟩ := hx.sound hs
  obtain ⟨t1, _⟩ := hs.mem.tree K m X hK q hq
  rw [hX] at t1
  unfold Tr at t1
  obtain ⟨A, c, e, hnc, hcm, hcase⟩ := t1
  rw [e] at ex
  obtain ⟨b, cs, e', hA, hblk, u, hu, hTu⟩ : ∃ (b : Nat) (cs : Array Value) (e' : _), A = some ⟨b, 0, none⟩ ∧ w.heap[b]? = some (.cells cs e' (0, 0)) ∧ ∃ u, cs[i * sz + off]? = some u ∧ R ρ w S z u := by
    rcases hcase with ⟨hc, _⟩ | ⟨b, cs, e', g1, _, g3, _, F, g5, _⟩
    · omega
    · obtain ⟨_, u, hu, hT⟩ := g5 i off hi hoff
      refine ⟨b, cs, e', g1, g3, u, hu, ?_⟩
      rw [hz] at hT
      generalize z = zz at hT hsc
      cases zz <;> first | exact hT | cases hsc
  subst hA
  have ey : a.eval y = .int k (i : Int) := hy.sound hs
  have hcell : w.cell? ⟨b, i * sz + off, none⟩ = some u := by simp [World.cell?, hblk, hu]
  refine wpList_plain hg1 fun K1 hK1 => ?_
  have hrun1 : (execOp a.eval o1).run P w = .ok (.value (.pointer (some ⟨b, i * sz, none⟩))) w := by
    generalize a.eval = ev at ex ey ⊢
    simp only [execOp, ho1, ex, ey, Sem.run_bind, indexAt_run hE _ hi]
    simp [go_sem, Result.andThen, Addr.add]
    try omega
  unfold Oper.wp
  rw [hrun1]
  simp only [Oper.upon, hd1]
  have hs1 : St N w0 ρ S (σ.put d1 (.one (.con (.pointer (some ⟨b, i * sz, none⟩))))) (a.put (some d1) (.pointer (some ⟨b, i * sz, none⟩))) w := hs.put hN1 rfl
  refine hK1 _ _ (wpList_plain hg2 fun K2 hK2 => ?_)
  have ev1 : (a.put (some d1) (.pointer (some ⟨b, i * sz, none⟩))).eval (.tmp d1) = .pointer (some ⟨b, i * sz, none⟩) := by
    have h := hs1.env d1 (.one (.con (.pointer (some ⟨b, i * sz, none⟩)))) (by simp [Sig.put])
    exact h
  have hrun2 : (execOp (a.put (some d1) (.pointer (some ⟨b, i * sz, none⟩))).eval o2).run P w = .ok (.value (.pointer (some ⟨b, i * sz + off, none⟩))) w := by
    generalize (a.put (some d1) (.pointer (some ⟨b, i * sz, none⟩))).eval = ev at ev1 ⊢
    simp only [execOp, ho2, ev1, Sem.run_bind, fieldAt_run hF]
    simp [go_sem, Result.andThen, Addr.add]
  unfold Oper.wp
  rw [hrun2]
  simp only [Oper.upon, hd2]
  have hs2 := hs1.put (d := d2) (s := .one (.con (.pointer (some ⟨b, i * sz + off, none⟩)))) (v := .pointer (some ⟨b, i * sz + off, none⟩)) hN2 rfl
  refine hK2 _ _ (wpList_plain hg3 fun K3 hK3 => ?_)
  have ev2 : ((a.put (some d1) (.pointer (some ⟨b, i * sz, none⟩))).put (some d2) (.pointer (some ⟨b, i * sz + off, none⟩))).eval (.tmp d2) = .pointer (some ⟨b, i * sz + off, none⟩) := by
    have h := hs2.env d2 (.one (.con (.pointer (some ⟨b, i * sz + off, none⟩)))) (by simp [Sig.put])
    exact h
  have hrun3 : (execOp ((a.put (some d1) (.pointer (some ⟨b, i * sz, none⟩))).put (some d2) (.pointer (some ⟨b, i * sz + off, none⟩))).eval o3).run P w = .ok (.value u) w := by
    generalize ((a.put (some d1) (.pointer (some ⟨b, i * sz, none⟩))).put (some d2) (.pointer (some ⟨b, i * sz + off, none⟩))).eval = ev at ev2 ⊢
    simp only [execOp, ho3, ev2, Sem.run_bind, loadAt_one hT hcell]
    simp [go_sem, Result.andThen]
  unfold Oper.wp
  rw [hrun3]
  simp only [Oper.upon, hd3]
  have hs3 := hs2.put (d := d3) (s := .one z) (v := u) hN3 hTu
  refine hK3 _ _ (h ρ S _ w Q' hQ ⟨hs3.size, hs3.defers, hs3.below, hs3.mem, fun t' s ht' => ?_⟩)
  refine hs3.env t' s ?_
  simp only [Sig.put]
  rcases lookup_put ht' with ⟨rfl, rfl⟩ | ⟨hne, ht2⟩
  · simp
  · have n1 : t' ≠ d1 := fun e => by subst e; rw [he1] at ht2; cases ht2
    have n2 : t' ≠ d2 := fun e => by subst e; rw [he2] at ht2; cases ht2
    rw [List.lookup_cons, show (t' == d3) = false by simpa using hne]
    show ((d2, _) :: (d1, _) :: σ.env).lookup t' = _
    rw [List.lookup_cons, show (t' == d2) = false by simpa using n2]
    show ((d1, _) :: σ.env).lookup t' = _
    rw [List.lookup_cons, show (t' == d1) = false by simpa using n1]
    exact ht2
end
theorem Fr.consE {id t : Nat} {s : SV} {env : Env} {H : Heap} (hs : s.no id = true) (h : Fr id ⟨env, H⟩) : Fr id ⟨(t, s) :: env, H⟩ :=
  ⟨by rw [Bool.and_eq_true]; exact ⟨by simpa [Nat.blt_eq] using h.small, by rw [List.all_cons, Bool.and_eq_true]; exact ⟨hs, h.env⟩⟩, h.heap⟩
theorem Fr.consH {id k : Nat} {o : AObj} {env : Env} {H : Heap} (hk : k ≠ id) (ho : o.No id) (h : Fr id ⟨env, H⟩) : Fr id ⟨env, (k, o) :: H⟩ := ⟨h.envB, hk, ho, h.heap⟩
theorem FrH.filt {id : Nat} {p : Nat × AObj → Bool} : ∀ {H : Heap}, FrH id H → FrH id (H.filter p)
  | [], _ => trivial
  | (k, o) :: H, ⟨h1, h2, h3⟩ => by
    cases hp : p (k, o) with
    | true => rw [List.filter_cons_of_pos hp]; exact ⟨h1, h2, FrH.filt h3⟩
    | false => rw [List.filter_cons_of_neg (by rw [hp]; decide)]; exact FrH.filt h3
theorem Fr.filt {id : Nat} {p : Nat × AObj → Bool} {env : Env} {H : Heap} (h : Fr id ⟨env, H⟩) : Fr id ⟨env, H.filter p⟩ := ⟨h.envB, h.heap.filt⟩
theorem KnR.tl {σ : Sig} {y : Operand} {id sz q n m : Nat} {ob : AObj} {g : Nat → Nat → AV} (k1 : Kn σ y (.one (.tl id sz q n))) (k2 : σ.heap.lookup id = some ob) (k3 : ob.sz = sz) (k4 : n ≤ ob.n) (hm : m = n - q) (k5 : ∀ i j, i < m → j < sz → ob.f (q + i) j = g i j) : KnR σ y sz m g :=
  .gen (SrcOk.tl k1 k2 k3 k4 hm k5).src
end Go.Proofs.YtonfeiloekofdaaGreatDoor

namespace Go.Proofs.YtonfeiloekofdaaGreatDoor
open Go.ChangeShapes Go.WideShapes Go.ChangeAt Go.RowKit Go.BigFrame Go.Deep
set_option linter.unusedVariables false
set_option linter.unusedSimpArgs false
section
variable {P : Program} {N : Nat} {w0 : Start} {σ : Sig} {ops : Array Oper} {rest : List Oper} {o : Oper} {Q : Sig → Prop}
theorem FreshOp.strs4 {t e : Nat} {x1 x2 x3 x4 : Operand} {a1 a2 a3 a4 : ByteArray} (ho : o.op = .buildSlice t 4 #[(0, x1), (1, x2), (2, x3), (3, x4)]) (k1 : Kn σ x1 (.one (.str a1))) (k2 : Kn σ x2 (.one (.str a2))) (k3 : Kn σ x3 (.one (.str a3))) (k4 : Kn σ x4 (.one (.str a4)))
    (ht : P.underlying t = some (.slice e)) (hz : (P.info? e).map (fun i => (i.size, i.zero)) = some (1, some (.string ByteArray.empty))) : FreshOp P o σ (.one (.frs (.lst 1 4 fun i _ => .str (([a1, a2, a3, a4] : List ByteArray).getD i ByteArray.empty)))) := by
  constructor
  intro N w0 ρ S a w K Q' hs hK
  have e1 : a.eval x1 = .string a1 := (k1.sound hs).1
  have be1 := (k1.sound hs).2
  have e2 : a.eval x2 = .string a2 := (k2.sound hs).1
  have be2 := (k2.sound hs).2
  have e3 : a.eval x3 = .string a3 := (k3.sound hs).1
  have be3 := (k3.sound hs).2
  have e4 : a.eval x4 = .string a4 := (k4.sound hs).1
  have be4 := (k4.sound hs).2
  obtain ⟨i, hi, hi2⟩ := Option.map_eq_some_iff.1 hz
  simp only [Prod.mk.injEq] at hi2
  obtain ⟨z1, z2⟩ := hi2
  have er : (execOp a.eval o).run P w = .ok (.value (.slice (some ⟨w.heap.size, 0, none⟩) 4 4)) (w.alloc (.cells #[.string a1, .string a2, .string a3, .string a4] e)) := by
    generalize a.eval = ev at e1 e2 e3 e4 ⊢
    simp [execOp, ho, Instr.buildSlice, run_underlying ht, sizeOf, typeInfo, hi, z1, z2, zeroValue, e1, e2, e3, e4, go_sem]
  unfold Oper.wp
  rw [er]
  have hb : Below w.heap.size w (w.alloc (.cells #[.string a1, .string a2, .string a3, .string a4] e)) := (Below.refl _ _).alloc (Nat.le_refl _) _
  obtain ⟨g1, g2⟩ := hs.grow hb
  have hlt : ρ.base ≤ w.heap.size := by rw [hs.mem.base]; exact hs.mem.low
  refine hK _ _ _ g1 hb (fun b h => h.imp (fun h => h) (fun h => h.1)) g2 ⟨_, _, rfl, Nat.le_refl _, by decide, (fun h => by cases h), fun j hj => ⟨w.heap.size, 0, rfl, ⟨.inr ⟨Nat.le_refl _, by rw [World.heap_alloc, Array.size_push]; omega⟩, hlt⟩, fun q hq => ?_⟩⟩
  obtain rfl : q = 0 := by omega
  have hcell : ∀ p, (w.alloc (.cells #[.string a1, .string a2, .string a3, .string a4] e)).cell? ⟨w.heap.size, p, none⟩ = (#[Value.string a1, .string a2, .string a3, .string a4])[p]? := fun p => by simp [World.cell?, World.heap_alloc]
  match j, hj with
  | 0, _ => exact ⟨.string a1, by rw [hcell]; rfl, rfl, be1⟩
  | 1, _ => exact ⟨.string a2, by rw [hcell]; rfl, rfl, be2⟩
  | 2, _ => exact ⟨.string a3, by rw [hcell]; rfl, rfl, be3⟩
  | 3, _ => exact ⟨.string a4, by rw [hcell]; rfl, rfl, be4⟩
theorem FreshOp.strs6 {t e : Nat} {x1 x2 x3 x4 x5 x6 : Operand} {a1 a2 a3 a4 a5 a6 : ByteArray} (ho : o.op = .buildSlice t 6 #[(0, x1), (1, x2), (2, x3), (3, x4), (4, x5), (5, x6)]) (k1 : Kn σ x1 (.one (.str a1))) (k2 : Kn σ x2 (.one (.str a2))) (k3 : Kn σ x3 (.one (.str a3))) (k4 : Kn σ x4 (.one (.str a4))) (k5 : Kn σ x5 (.one (.str a5))) (k6 : Kn σ x6 (.one (.str a6)))
    (ht : P.underlying t = some (.slice e)) (hz : (P.info? e).map (fun i => (i.size, i.zero)) = some (1, some (.string ByteArray.empty))) : FreshOp P o σ (.one (.frs (.lst 1 6 fun i _ => .str (([a1, a2, a3, a4, a5, a6] : List ByteArray).getD i ByteArray.empty)))) := by
  constructor
  intro N w0 ρ S a w K Q' hs hK
  have e1 : a.eval x1 = .string a1 := (k1.sound hs).1
  have be1 := (k1.sound hs).2
  have e2 : a.eval x2 = .string a2 := (k2.sound hs).1
  have be2 := (k2.sound hs).2
  have e3 : a.eval x3 = .string a3 := (k3.sound hs).1
  have be3 := (k3.sound hs).2
  have e4 : a.eval x4 = .string a4 := (k4.sound hs).1
  have be4 := (k4.sound hs).2
  have e5 : a.eval x5 = .string a5 := (k5.sound hs).1
  have be5 := (k5.sound hs).2
  have e6 : a.eval x6 = .string a6 := (k6.sound hs).1
  have be6 := (k6.sound hs).2
  obtain ⟨i, hi, hi2⟩ := Option.map_eq_some_iff.1 hz
  simp only [Prod.mk.injEq] at hi2
  obtain ⟨z1, z2⟩ := hi2
  have er : (execOp a.eval o).run P w = .ok (.value (.slice (some ⟨w.heap.size, 0, none⟩) 6 6)) (w.alloc (.cells #[.string a1, .string a2, .string a3, .string a4, .string a5, .string a6] e)) := by
    generalize a.eval = ev at e1 e2 e3 e4 e5 e6 ⊢
    simp [execOp, ho, Instr.buildSlice, run_underlying ht, sizeOf, typeInfo, hi, z1, z2, zeroValue, e1, e2, e3, e4, e5, e6, go_sem]
  unfold Oper.wp
  rw [er]
  have hb : Below w.heap.size w (w.alloc (.cells #[.string a1, .string a2, .string a3, .string a4, .string a5, .string a6] e)) := (Below.refl _ _).alloc (Nat.le_refl _) _
  obtain ⟨g1, g2⟩ := hs.grow hb
  have hlt : ρ.base ≤ w.heap.size := by rw [hs.mem.base]; exact hs.mem.low
  refine hK _ _ _ g1 hb (fun b h => h.imp (fun h => h) (fun h => h.1)) g2 ⟨_, _, rfl, Nat.le_refl _, by decide, (fun h => by cases h), fun j hj => ⟨w.heap.size, 0, rfl, ⟨.inr ⟨Nat.le_refl _, by rw [World.heap_alloc, Array.size_push]; omega⟩, hlt⟩, fun q hq => ?_⟩⟩
  obtain rfl : q = 0 := by omega
  have hcell : ∀ p, (w.alloc (.cells #[.string a1, .string a2, .string a3, .string a4, .string a5, .string a6] e)).cell? ⟨w.heap.size, p, none⟩ = (#[Value.string a1, .string a2, .string a3, .string a4, .string a5, .string a6])[p]? := fun p => by simp [World.cell?, World.heap_alloc]
  match j, hj with
  | 0, _ => exact ⟨.string a1, by rw [hcell]; rfl, rfl, be1⟩
  | 1, _ => exact ⟨.string a2, by rw [hcell]; rfl, rfl, be2⟩
  | 2, _ => exact ⟨.string a3, by rw [hcell]; rfl, rfl, be3⟩
  | 3, _ => exact ⟨.string a4, by rw [hcell]; rfl, rfl, be4⟩
  | 4, _ => exact ⟨.string a5, by rw [hcell]; rfl, rfl, be5⟩
  | 5, _ => exact ⟨.string a6, by rw [hcell]; rfl, rfl, be6⟩
theorem FreshOp.pairL {t e : Nat} {x y : Operand} {a1 a2 : Int} (ho : o.op = .buildSlice t 2 #[(0, x), (1, y)]) (hx : Kn σ x (.one (.int .i64 a1))) (hy : Kn σ y (.one (.int .i64 a2)))
    (ht : P.underlying t = some (.slice e)) (hz : (P.info? e).map (fun i => (i.size, i.zero)) = some (1, some (.int .i64 0))) : FreshOp P o σ (.one (.frs (.lst 1 2 fun i _ => .int .i64 (([a1, a2] : List Int).getD i 0)))) := by
  constructor
  intro N w0 ρ S a w K Q' hs hK
  have e1 : a.eval x = .int .i64 a1 := hx.sound hs
  have e2 : a.eval y = .int .i64 a2 := hy.sound hs
  obtain ⟨i, hi, hi2⟩ := Option.map_eq_some_iff.1 hz
  simp only [Prod.mk.injEq] at hi2
  obtain ⟨z1, z2⟩ := hi2
  have er : (execOp a.eval o).run P w = .ok (.value (.slice (some ⟨w.heap.size, 0, none⟩) 2 2)) (w.alloc (.cells #[.int .i64 a1, .int .i64 a2] e)) := by
    generalize a.eval = ev at e1 e2 ⊢
    simp [execOp, ho, Instr.buildSlice, run_underlying ht, sizeOf, typeInfo, hi, z1, z2, zeroValue, e1, e2, go_sem]
  unfold Oper.wp
  rw [er]
  have hb : Below w.heap.size w (w.alloc (.cells #[.int .i64 a1, .int .i64 a2] e)) := (Below.refl _ _).alloc (Nat.le_refl _) _
  obtain ⟨g1, g2⟩ := hs.grow hb
  have hlt : ρ.base ≤ w.heap.size := by rw [hs.mem.base]; exact hs.mem.low
  refine hK _ _ _ g1 hb (fun b h => h.imp (fun h => h) (fun h => h.1)) g2 ⟨_, _, rfl, Nat.le_refl _, by decide, (fun h => by cases h), fun j hj => ⟨w.heap.size, 0, rfl, ⟨.inr ⟨Nat.le_refl _, by rw [World.heap_alloc, Array.size_push]; omega⟩, hlt⟩, fun q hq => ?_⟩⟩
  obtain rfl : q = 0 := by omega
  have hcell : ∀ p, (w.alloc (.cells #[.int .i64 a1, .int .i64 a2] e)).cell? ⟨w.heap.size, p, none⟩ = (#[Value.int .i64 a1, .int .i64 a2])[p]? := fun p => by simp [World.cell?, World.heap_alloc]
  match j, hj with
  | 0, _ => exact ⟨.int .i64 a1, by rw [hcell]; rfl, rfl⟩
  | 1, _ => exact ⟨.int .i64 a2, by rw [hcell]; rfl, rfl⟩
theorem AW.openCell {c0 : Code} {Q2 : Exit → Sig → Prop} (v j K q m sz c n id L : Nat) (l l' : List AV) (X : Nat → AV) (f f' : Nat → Nat → AV) (hv : σ.heap.lookup v = some (.cells l)) (hj : l[j]? = some (.tre K q)) (hl : l.set j (.own id sz n) = l') (hK : σ.heap.lookup K = some (.trees m X)) (hvK : v ≠ K) (hq : q < m) (hX : X q = .lst sz n f) (hcs : c < sz)
    (hlst : ∀ i, i < n → ∃ s k g, f i c = .lst s k g) (hscl : ∀ i j, i < n → j < sz → j ≠ c → (f i j).scl = true) (hf : Fr id σ) (hL : Fr L σ) (hne : id ≠ L) (hff : ∀ i j, i < n → j < sz → (if j = c then .tre L i else f i j) = f' i j)
    (h : AW P N w0 c0 Q2 ⟨σ.env, (v, .cells l') :: (id, .arr sz n f') :: (L, .trees n fun i => f i c) :: σ.heap.filter fun p => p.1 != K⟩) : AW P N w0 c0 Q2 σ := by
  intro ρ S a w Q' hQ hs
  obtain ⟨ρ', hs', hV⟩ := hs.openRowC hK hq hX hcs hlst hscl hf hL hne
  have hv1 : v ≠ id := (hf.heap.get hv).1
  have hv2 : v ≠ L := (hL.heap.get hv).1
  have hm : MemOk w0.base ρ' S ((id, .arr sz n f') :: (L, .trees n fun i => f i c) :: σ.heap.filter fun p => p.1 != K) w := hs'.mem.le' fun k p hp => by
    rcases lookup_put hp with ⟨rfl, rfl⟩ | ⟨hne, hp⟩
    · exact ⟨AObj.arr sz n fun i j => if j = c then .tre L i else f i j, by rw [List.lookup_cons, beq_self_eq_true], rfl, Nat.le_refl _, fun i j hi hj => (hff i j hi hj)⟩
    · exact HLe.refl (by rw [List.lookup_cons, show (k == id) = false by simpa using hne]; exact hp)
  have hv' : ((id, AObj.arr sz n f') :: (L, .trees n fun i => f i c) :: σ.heap.filter fun p => p.1 != K : Heap).lookup v = some (.cells l) := by
    rw [List.lookup_cons, show (v == id) = false by simpa using hv1]
    show ((L, _) :: σ.heap.filter fun p => p.1 != K : Heap).lookup v = _
    rw [List.lookup_cons, show (v == L) = false by simpa using hv2]
    show (σ.heap.filter fun p => p.1 != K).lookup v = _
    rw [lookup_filter_ne hvK]; exact hv
  refine h ρ' S a w Q' hQ ⟨hs'.size, hs'.defers, hs'.below, hm.reob hv' rfl (by simp [AObj.sz, ← hl]) rfl (fun i q u _ hq hr => ?_), hs'.env⟩
  rw [← hl]
  exact R.setAt hV hj hq hr
theorem D.lstEq {w : World} {S : Nat → Prop} {sz n n' : Nat} {f f' : Nat → Nat → AV} (hn : n = n') (hf : ∀ i j, i < n → j < sz → f i j = f' i j) {v : Value} (h : D w S (.lst sz n f) v) : D w S (.lst sz n' f') v := by
  subst hn
  unfold D at h ⊢
  obtain ⟨A, c, e, h1, h2, h3, h4⟩ := h
  refine ⟨A, c, e, h1, h2, h3, fun i hi => ?_⟩
  obtain ⟨b, off, hA, hS, hc⟩ := h4 i hi
  refine ⟨b, off, hA, hS, fun j hj => ?_⟩
  obtain ⟨u, hu, hr⟩ := hc j hj
  exact ⟨u, hu, hf i j hi hj ▸ hr⟩
theorem PureOp.lstEq {sz n n' : Nat} {f f' : Nat → Nat → AV} (h : PureOp P o σ (.one (.lst sz n f))) (hn : n = n') (hf : ∀ i j, i < n → j < sz → f i j = f' i j) : PureOp P o σ (.one (.lst sz n' f')) := fun N w0 ρ S a w hs => by
  obtain ⟨v, h1, h2⟩ := h N w0 ρ S a w hs
  have h1 : D w S (.lst sz n f) v := h1
  exact ⟨v, show D w S (.lst sz n' f') v from h1.lstEq hn hf, h2⟩
end
end Go.Proofs.YtonfeiloekofdaaGreatDoor

namespace Go.Proofs.YtonfeiloekofdaaGreatDoor
open Go.ChangeShapes Go.WideShapes Go.ChangeAt Go.RowKit Go.BigFrame Go.Deep
set_option linter.unusedVariables false
set_option linter.unusedSimpArgs false
theorem f0_ : callB Tryz.prog 49 = true := by kernel_rfl
theorem f1_ : callB Tryz.prog 71 = true := by kernel_rfl
theorem vd1_cv_3_59_.u64 : convB Tryz.prog 3 59 .u64 = true := by kernel_rfl
theorem vd1_cv_59_3_.i64 : convB Tryz.prog 59 3 .i64 = true := by kernel_rfl
theorem vd1_cv_5_3_.i64 : convB Tryz.prog 5 3 .i64 = true := by kernel_rfl
theorem f2_ : elemB Tryz.prog 22 1 = true := by kernel_rfl
theorem f3_ : elemB Tryz.prog 66 1 = true := by kernel_rfl
theorem f4_ : elemB Tryz.prog 81 1 = true := by kernel_rfl
theorem f5_ : fieldB Tryz.prog 61 0 0 = true := by kernel_rfl
theorem f6_ : fieldB Tryz.prog 61 1 1 = true := by kernel_rfl
theorem f7_ : fieldB Tryz.prog 61 2 2 = true := by kernel_rfl
theorem f8_ : plainB Tryz.prog 22 = true := by kernel_rfl
theorem f9_ : plainB Tryz.prog 3 = true := by kernel_rfl
theorem f10_ : plainB Tryz.prog 5 = true := by kernel_rfl
theorem f11_ : plainB Tryz.prog 59 = true := by kernel_rfl
theorem f12_ : plainB Tryz.prog 9 = true := by kernel_rfl
theorem f13_ : sliceB Tryz.prog 22 = true := by kernel_rfl
theorem f14_ : sliceB Tryz.prog 66 = true := by kernel_rfl
theorem f15_ : sliceB Tryz.prog 81 = true := by kernel_rfl
theorem f16_ : sizeB Tryz.prog 3 1 = true := by kernel_rfl
theorem f17_ : sizeB Tryz.prog 59 1 = true := by kernel_rfl
theorem v_Next (n : Nat) (F : Nat → Nat) (hF : ∀ i, F i < 256) (p s : Nat) (hp : p ≤ 2000000000) (hs : s < 18446744073709551616) : FnC Tryz.prog 71 n F [] p s (fun (x : Nat) p' s' => x < 256 ∧ CurOk p 1 p' s') (fun (x : Nat) => .one (.int .i64 (x : Int))) := by
 have hF' := hF p
 refine FnC.of_body (fn := Tryz.f71) Tryz.func71 rfl (nB rfl) ?_
 intro w0 c
 show AW _ 62 _ _ _ _
 refine AW.seq ?_
 refine AW.region ?_
 refine pu (.assign rfl .int) rfl rfl rfl ?_
 refine ARun.nil ?_
 refine AW.seq ?_
 refine AW.region ?_
 refine pu (.assign rfl .int) rfl rfl rfl ?_
 refine ARun.nil ?_
 refine AW.seq ?_
 refine AW.seq ?_
 refine AW.any (by kernel_rfl) (by kernel_rfl) ?_
 refine AD.pure (PureOp.move rfl (.tmp rfl)) rfl rfl (nB rfl) ?_
 refine AD.pure (PureOp.nilPtr rfl (.tmp rfl)) rfl rfl (nB rfl) ?_
 refine AD.pure (PureOp.fieldPtr rfl (.tmp rfl) f6_) rfl rfl (nB rfl) ?_
 refine AD.pure (PureOp.loadPtr rfl (.tmp rfl) f9_ rfl rfl (nB rfl) (nB rfl)) rfl rfl (nB rfl) ?_
 refine AD.pure (PureOp.move rfl (.tmp rfl)) rfl rfl (nB rfl) ?_
 refine AD.pure (PureOp.nilPtr rfl (.tmp rfl)) rfl rfl (nB rfl) ?_
 refine AD.pure (PureOp.fieldPtr rfl (.tmp rfl) f5_) rfl rfl (nB rfl) ?_
 refine AD.pure (PureOp.loadPtr rfl (.tmp rfl) f8_ rfl rfl (nB rfl) (nB rfl)) rfl rfl (nB rfl) ?_
 refine AD.pure (PureOp.lenLst rfl (.cv (.tmp rfl)) f13_) rfl rfl (nB rfl) ?_
 refine AD.pure (PureOp.intOp rfl (.tmp rfl) (.tmp rfl) rfl) rfl rfl (nB rfl) ?_
 refine AD.nil ?_
 refine AW.cond (.tmp rfl) (fun hb1 => ?_) (fun hb1 => ?_)
 ·
  replace hb1 := of_decide_eq_true hb1
  refine AW.any (by kernel_rfl) (by kernel_rfl) ?_
  refine AD.pure (PureOp.move rfl (.tmp rfl)) rfl rfl (nB rfl) ?_
  refine AD.pure (PureOp.nilPtr rfl (.tmp rfl)) rfl rfl (nB rfl) ?_
  refine AD.pure (PureOp.fieldPtr rfl (.tmp rfl) f5_) rfl rfl (nB rfl) ?_
  refine AD.pure (PureOp.loadPtr rfl (.tmp rfl) f8_ rfl rfl (nB rfl) (nB rfl)) rfl rfl (nB rfl) ?_
  refine AD.pure (PureOp.move rfl (.tmp rfl)) rfl rfl (nB rfl) ?_
  refine AD.pure (PureOp.nilPtr rfl (.tmp rfl)) rfl rfl (nB rfl) ?_
  refine AD.pure (PureOp.fieldPtr rfl (.tmp rfl) f6_) rfl rfl (nB rfl) ?_
  refine AD.pure (PureOp.loadPtr rfl (.tmp rfl) f9_ rfl rfl (nB rfl) (nB rfl)) rfl rfl (nB rfl) ?_
  refine AD.pure (PureOp.indexLst (i := p) rfl (.cv (.tmp rfl)) f2_ (.tmp rfl) rfl (by omega)) rfl rfl (nB rfl) ?_
  refine AD.pure (PureOp.loadRef rfl (.tmp rfl) f10_ (nB rfl)) rfl rfl (nB rfl) ?_
  refine AD.pure (PureOp.conv (b := ((F p : Nat) : Int)) rfl (.tmp rfl) vd1_cv_5_3_.i64 (wrap_id (by omega) (by omega))) rfl rfl (nB rfl) ?_
  refine AD.pure (PureOp.assign rfl (.tmp rfl)) rfl rfl (nB rfl) ?_
  refine AD.nil ?_
  refine AW.seq ?_
  refine AW.region ?_
  refine pu (.move rfl (.tmp rfl)) rfl rfl rfl ?_
  refine pu (.nilPtr rfl (.tmp rfl)) rfl rfl rfl ?_
  refine pu (.fieldPtr rfl (.tmp rfl) f6_) rfl rfl rfl ?_
  refine pu (.loadPtr rfl (.tmp rfl) f9_ rfl rfl (nB rfl) (nB rfl)) rfl rfl rfl ?_
  refine pu (.add (c := ((p + 1 : Nat) : Int)) rfl (.tmp rfl) .int (by rw [wrap_id (by omega) (by omega)]; omega)) rfl rfl rfl ?_
  refine pu (.nilPtr rfl (.tmp rfl)) rfl rfl rfl ?_
  refine pu (.fieldPtr rfl (.tmp rfl) f6_) rfl rfl rfl ?_
  refine ARun.store rfl (.tmp rfl) (.tmp rfl) trivial rfl (nB rfl) f16_ rfl rfl ?_
  refine ARun.nil ?_
  refine AW.seq ?_
  refine AW.region ?_
  refine pu (.move rfl (.tmp rfl)) rfl rfl rfl ?_
  refine pu (.move rfl (.tmp rfl)) rfl rfl rfl ?_
  refine pu (.nilPtr rfl (.tmp rfl)) rfl rfl rfl ?_
  refine pu (.fieldPtr rfl (.tmp rfl) f7_) rfl rfl rfl ?_
  refine pu (.loadPtr rfl (.tmp rfl) f11_ rfl rfl (nB rfl) (nB rfl)) rfl rfl rfl ?_
  refine pu (.mulU (c := (((s * 6364136223846793005) % 18446744073709551616 : Nat) : Int)) rfl (.tmp rfl) .int (by rw [IntKind.wrap_u64]; omega)) rfl rfl rfl ?_
  refine pu (.move rfl (.tmp rfl)) rfl rfl rfl ?_
  refine pu (.conv (b := ((F p : Nat) : Int)) rfl (.tmp rfl) vd1_cv_3_59_.u64 (by rw [IntKind.wrap_u64]; omega)) rfl rfl rfl ?_
  refine pu (.addU (c := (((((s * 6364136223846793005) % 18446744073709551616) + (F p)) % 18446744073709551616 : Nat) : Int)) rfl (.tmp rfl) (.tmp rfl) (by rw [IntKind.wrap_u64]; omega)) rfl rfl rfl ?_
  refine pu (.addU (c := (((((((s * 6364136223846793005) % 18446744073709551616) + (F p)) % 18446744073709551616) + 1442695040888963407) % 18446744073709551616 : Nat) : Int)) rfl (.tmp rfl) .int (by rw [IntKind.wrap_u64]; omega)) rfl rfl rfl ?_
  refine pu (.nilPtr rfl (.tmp rfl)) rfl rfl rfl ?_
  refine pu (.fieldPtr rfl (.tmp rfl) f7_) rfl rfl rfl ?_
  refine ARun.store rfl (.tmp rfl) (.tmp rfl) trivial rfl (nB rfl) f17_ rfl rfl ?_
  refine ARun.nil ?_
  refine AW.seq ?_
  refine AW.seq ?_
  refine AW.any (by kernel_rfl) (by kernel_rfl) ?_
  refine AD.pure (PureOp.move rfl (.tmp rfl)) rfl rfl (nB rfl) ?_
  refine AD.pure (PureOp.nilPtr rfl (.tmp rfl)) rfl rfl (nB rfl) ?_
  refine AD.pure (PureOp.fieldPtr rfl (.tmp rfl) f6_) rfl rfl (nB rfl) ?_
  refine AD.pure (PureOp.loadPtr rfl (.tmp rfl) f9_ rfl rfl (nB rfl) (nB rfl)) rfl rfl (nB rfl) ?_
  refine AD.pure (PureOp.move rfl (.tmp rfl)) rfl rfl (nB rfl) ?_
  refine AD.pure (PureOp.nilPtr rfl (.tmp rfl)) rfl rfl (nB rfl) ?_
  refine AD.pure (PureOp.fieldPtr rfl (.tmp rfl) f5_) rfl rfl (nB rfl) ?_
  refine AD.pure (PureOp.loadPtr rfl (.tmp rfl) f8_ rfl rfl (nB rfl) (nB rfl)) rfl rfl (nB rfl) ?_
  refine AD.pure (PureOp.lenLst rfl (.cv (.tmp rfl)) f13_) rfl rfl (nB rfl) ?_
  refine AD.pure (PureOp.intOp rfl (.tmp rfl) (.tmp rfl) rfl) rfl rfl (nB rfl) ?_
  refine AD.nil ?_
  refine AW.cond (.tmp rfl) (fun hb2 => ?_) (fun hb2 => ?_)
  ·
   replace hb2 := of_decide_eq_true hb2
   refine AW.seq ?_
   refine AW.region ?_
   refine pu (.move rfl (.tmp rfl)) rfl rfl rfl ?_
   refine pu (.assign rfl (.tmp rfl)) rfl rfl rfl ?_
   refine ARun.nil ?_
   exact AW.ret (show ∃ x p' s' t, _ ∧ ResL _ _ [.tmp 2] t ∧ _ ∧ _ from ⟨(F p), (p + 1), ((((((s * 6364136223846793005) % 18446744073709551616) + (F p)) % 18446744073709551616) + 1442695040888963407) % 18446744073709551616), _, ⟨by first | omega | exact Nat.mod_lt _ (by decide), ⟨by omega, by omega, Nat.mod_lt _ (by decide)⟩⟩, .inl ⟨_, rfl, .tmp rfl⟩, .int, rfl⟩)
  ·
   replace hb2 := of_decide_eq_false hb2
   refine AW.skip ?_
   refine AW.seq ?_
   refine AW.region ?_
   refine pu (.move rfl (.tmp rfl)) rfl rfl rfl ?_
   refine pu (.nilPtr rfl (.tmp rfl)) rfl rfl rfl ?_
   refine pu (.fieldPtr rfl (.tmp rfl) f7_) rfl rfl rfl ?_
   refine pu (.loadPtr rfl (.tmp rfl) f11_ rfl rfl (nB rfl) (nB rfl)) rfl rfl rfl ?_
   refine pu (.shr40 (a := (((((s * 6364136223846793005) % 18446744073709551616) + (F p)) % 18446744073709551616) + 1442695040888963407) % 18446744073709551616) rfl (.tmp rfl) .int) rfl rfl rfl ?_
   refine pu (.and255 (a := ((((((s * 6364136223846793005) % 18446744073709551616) + (F p)) % 18446744073709551616) + 1442695040888963407) % 18446744073709551616) / 1099511627776) rfl (.tmp rfl) .int (by omega)) rfl rfl rfl ?_
   refine pu (.conv (b := (((((((((s * 6364136223846793005) % 18446744073709551616) + (F p)) % 18446744073709551616) + 1442695040888963407) % 18446744073709551616) / 1099511627776) % 256 : Nat) : Int)) rfl (.tmp rfl) vd1_cv_59_3_.i64 (wrap_id (by omega) (by omega))) rfl rfl rfl ?_
   refine pu (.assign rfl (.tmp rfl)) rfl rfl rfl ?_
   refine ARun.nil ?_
   exact AW.ret (show ∃ x p' s' t, _ ∧ ResL _ _ [.tmp 2] t ∧ _ ∧ _ from ⟨((((((((s * 6364136223846793005) % 18446744073709551616) + (F p)) % 18446744073709551616) + 1442695040888963407) % 18446744073709551616) / 1099511627776) % 256), (p + 1), ((((((s * 6364136223846793005) % 18446744073709551616) + (F p)) % 18446744073709551616) + 1442695040888963407) % 18446744073709551616), _, ⟨by first | omega | exact Nat.mod_lt _ (by decide), ⟨by omega, by omega, Nat.mod_lt _ (by decide)⟩⟩, .inl ⟨_, rfl, .tmp rfl⟩, .int, rfl⟩)
 ·
  replace hb1 := of_decide_eq_false hb1
  refine AW.skip ?_
  refine AW.seq ?_
  refine AW.region ?_
  refine pu (.move rfl (.tmp rfl)) rfl rfl rfl ?_
  refine pu (.nilPtr rfl (.tmp rfl)) rfl rfl rfl ?_
  refine pu (.fieldPtr rfl (.tmp rfl) f6_) rfl rfl rfl ?_
  refine pu (.loadPtr rfl (.tmp rfl) f9_ rfl rfl (nB rfl) (nB rfl)) rfl rfl rfl ?_
  refine pu (.add (c := ((p + 1 : Nat) : Int)) rfl (.tmp rfl) .int (by rw [wrap_id (by omega) (by omega)]; omega)) rfl rfl rfl ?_
  refine pu (.nilPtr rfl (.tmp rfl)) rfl rfl rfl ?_
  refine pu (.fieldPtr rfl (.tmp rfl) f6_) rfl rfl rfl ?_
  refine ARun.store rfl (.tmp rfl) (.tmp rfl) trivial rfl (nB rfl) f16_ rfl rfl ?_
  refine ARun.nil ?_
  refine AW.seq ?_
  refine AW.region ?_
  refine pu (.move rfl (.tmp rfl)) rfl rfl rfl ?_
  refine pu (.move rfl (.tmp rfl)) rfl rfl rfl ?_
  refine pu (.nilPtr rfl (.tmp rfl)) rfl rfl rfl ?_
  refine pu (.fieldPtr rfl (.tmp rfl) f7_) rfl rfl rfl ?_
  refine pu (.loadPtr rfl (.tmp rfl) f11_ rfl rfl (nB rfl) (nB rfl)) rfl rfl rfl ?_
  refine pu (.mulU (c := (((s * 6364136223846793005) % 18446744073709551616 : Nat) : Int)) rfl (.tmp rfl) .int (by rw [IntKind.wrap_u64]; omega)) rfl rfl rfl ?_
  refine pu (.move rfl (.tmp rfl)) rfl rfl rfl ?_
  refine pu (.conv (b := 0) rfl (.tmp rfl) vd1_cv_3_59_.u64 (by rw [IntKind.wrap_u64]; omega)) rfl rfl rfl ?_
  refine pu (.addU (c := (((((s * 6364136223846793005) % 18446744073709551616) + 0) % 18446744073709551616 : Nat) : Int)) rfl (.tmp rfl) (.tmp rfl) (by rw [IntKind.wrap_u64]; omega)) rfl rfl rfl ?_
  refine pu (.addU (c := (((((((s * 6364136223846793005) % 18446744073709551616) + 0) % 18446744073709551616) + 1442695040888963407) % 18446744073709551616 : Nat) : Int)) rfl (.tmp rfl) .int (by rw [IntKind.wrap_u64]; omega)) rfl rfl rfl ?_
  refine pu (.nilPtr rfl (.tmp rfl)) rfl rfl rfl ?_
  refine pu (.fieldPtr rfl (.tmp rfl) f7_) rfl rfl rfl ?_
  refine ARun.store rfl (.tmp rfl) (.tmp rfl) trivial rfl (nB rfl) f17_ rfl rfl ?_
  refine ARun.nil ?_
  refine AW.seq ?_
  refine AW.seq ?_
  refine AW.any (by kernel_rfl) (by kernel_rfl) ?_
  refine AD.pure (PureOp.move rfl (.tmp rfl)) rfl rfl (nB rfl) ?_
  refine AD.pure (PureOp.nilPtr rfl (.tmp rfl)) rfl rfl (nB rfl) ?_
  refine AD.pure (PureOp.fieldPtr rfl (.tmp rfl) f6_) rfl rfl (nB rfl) ?_
  refine AD.pure (PureOp.loadPtr rfl (.tmp rfl) f9_ rfl rfl (nB rfl) (nB rfl)) rfl rfl (nB rfl) ?_
  refine AD.pure (PureOp.move rfl (.tmp rfl)) rfl rfl (nB rfl) ?_
  refine AD.pure (PureOp.nilPtr rfl (.tmp rfl)) rfl rfl (nB rfl) ?_
  refine AD.pure (PureOp.fieldPtr rfl (.tmp rfl) f5_) rfl rfl (nB rfl) ?_
  refine AD.pure (PureOp.loadPtr rfl (.tmp rfl) f8_ rfl rfl (nB rfl) (nB rfl)) rfl rfl (nB rfl) ?_
  refine AD.pure (PureOp.lenLst rfl (.cv (.tmp rfl)) f13_) rfl rfl (nB rfl) ?_
  refine AD.pure (PureOp.intOp rfl (.tmp rfl) (.tmp rfl) rfl) rfl rfl (nB rfl) ?_
  refine AD.nil ?_
  refine AW.cond (.tmp rfl) (fun hb3 => ?_) (fun hb3 => ?_)
  ·
   replace hb3 := of_decide_eq_true hb3
   refine AW.seq ?_
   refine AW.region ?_
   refine pu (.move rfl (.tmp rfl)) rfl rfl rfl ?_
   refine pu (.assign rfl (.tmp rfl)) rfl rfl rfl ?_
   refine ARun.nil ?_
   exact AW.ret (show ∃ x p' s' t, _ ∧ ResL _ _ [.tmp 2] t ∧ _ ∧ _ from ⟨0, (p + 1), ((((((s * 6364136223846793005) % 18446744073709551616) + 0) % 18446744073709551616) + 1442695040888963407) % 18446744073709551616), _, ⟨by first | omega | exact Nat.mod_lt _ (by decide), ⟨by omega, by omega, Nat.mod_lt _ (by decide)⟩⟩, .inl ⟨_, rfl, .tmp rfl⟩, .int, rfl⟩)
  ·
   replace hb3 := of_decide_eq_false hb3
   refine AW.skip ?_
   refine AW.seq ?_
   refine AW.region ?_
   refine pu (.move rfl (.tmp rfl)) rfl rfl rfl ?_
   refine pu (.nilPtr rfl (.tmp rfl)) rfl rfl rfl ?_
   refine pu (.fieldPtr rfl (.tmp rfl) f7_) rfl rfl rfl ?_
   refine pu (.loadPtr rfl (.tmp rfl) f11_ rfl rfl (nB rfl) (nB rfl)) rfl rfl rfl ?_
   refine pu (.shr40 (a := (((((s * 6364136223846793005) % 18446744073709551616) + 0) % 18446744073709551616) + 1442695040888963407) % 18446744073709551616) rfl (.tmp rfl) .int) rfl rfl rfl ?_
   refine pu (.and255 (a := ((((((s * 6364136223846793005) % 18446744073709551616) + 0) % 18446744073709551616) + 1442695040888963407) % 18446744073709551616) / 1099511627776) rfl (.tmp rfl) .int (by omega)) rfl rfl rfl ?_
   refine pu (.conv (b := (((((((((s * 6364136223846793005) % 18446744073709551616) + 0) % 18446744073709551616) + 1442695040888963407) % 18446744073709551616) / 1099511627776) % 256 : Nat) : Int)) rfl (.tmp rfl) vd1_cv_59_3_.i64 (wrap_id (by omega) (by omega))) rfl rfl rfl ?_
   refine pu (.assign rfl (.tmp rfl)) rfl rfl rfl ?_
   refine ARun.nil ?_
   exact AW.ret (show ∃ x p' s' t, _ ∧ ResL _ _ [.tmp 2] t ∧ _ ∧ _ from ⟨((((((((s * 6364136223846793005) % 18446744073709551616) + 0) % 18446744073709551616) + 1442695040888963407) % 18446744073709551616) / 1099511627776) % 256), (p + 1), ((((((s * 6364136223846793005) % 18446744073709551616) + 0) % 18446744073709551616) + 1442695040888963407) % 18446744073709551616), _, ⟨by first | omega | exact Nat.mod_lt _ (by decide), ⟨by omega, by omega, Nat.mod_lt _ (by decide)⟩⟩, .inl ⟨_, rfl, .tmp rfl⟩, .int, rfl⟩)
theorem v_Pick (n : Nat) (F : Nat → Nat) (hF : ∀ i, F i < 256) (p s : Nat) (hp : p ≤ 1900000000) (hs : s < 18446744073709551616) (m : Nat) (hm : m ≤ 1000000) : FnC Tryz.prog 49 n F [.one (.int .i64 (m : Int))] p s (fun (x : Nat) p' s' => (x < m ∨ x = 0) ∧ CurOk p 2 p' s') (fun (x : Nat) => .one (.int .i64 (x : Int))) := by
 refine FnC.of_body (fn := Tryz.f49) Tryz.func49 rfl (nB rfl) ?_
 intro w0 c
 show AW _ 20 _ _ _ _
 refine AW.seq ?_
 refine AW.region ?_
 refine pu (.assign rfl .int) rfl rfl rfl ?_
 refine ARun.nil ?_
 refine AW.seq ?_
 refine AW.seq ?_
 refine AW.region ?_
 refine pu (.move rfl (.tmp rfl)) rfl rfl rfl ?_
 refine pu (.intOp rfl (.tmp rfl) .int rfl) rfl rfl rfl ?_
 refine ARun.nil ?_
 refine AW.cond (.tmp rfl) (fun hb1 => ?_) (fun hb1 => ?_)
 ·
  replace hb1 := of_decide_eq_true hb1
  refine AW.seq ?_
  refine AW.region ?_
  refine pu (.assign rfl .int) rfl rfl rfl ?_
  refine ARun.nil ?_
  have _hm : 0 < m → ∀ y : Nat, y % m < m := fun h y => Nat.mod_lt _ h
  exact AW.ret (show ∃ x p' s' t, _ ∧ ResL _ _ [.tmp 4] t ∧ _ ∧ _ from ⟨0, p, s, _, ⟨by first | exact .inr rfl | exact .inl (Nat.mod_lt _ (by omega)), ⟨by omega, by omega, by omega⟩⟩, .inl ⟨_, rfl, .tmp rfl⟩, .int, rfl⟩)
 ·
  replace hb1 := of_decide_eq_false hb1
  refine AW.skip ?_
  refine AW.seq ?_
  refine AW.region ?_
  refine pu (.move rfl (.tmp rfl)) rfl rfl rfl ?_
  refine ARun.cur (id := 1000000) rfl (v_Next n F hF p s (by omega) (by omega)) f1_ ⟨.inr (.tmp rfl), trivial⟩ rfl rfl rfl (nB rfl) (fun x2 p3 sd4 hc5 => ?_)
  obtain ⟨hc5x, hc5c⟩ := hc5
  obtain ⟨hc51, hc52, hc53⟩ := hc5c
  refine pu (.assign rfl (.tmp rfl)) rfl rfl rfl ?_
  refine ARun.nil ?_
  refine AW.seq ?_
  refine AW.seq ?_
  refine AW.region ?_
  refine pu (.move rfl (.tmp rfl)) rfl rfl rfl ?_
  refine pu (.intOp rfl (.tmp rfl) .int rfl) rfl rfl rfl ?_
  refine ARun.nil ?_
  refine AW.cond (.tmp rfl) (fun hb6 => ?_) (fun hb6 => ?_)
  ·
   replace hb6 := of_decide_eq_true hb6
   refine AW.region ?_
   refine pu (.move rfl (.tmp rfl)) rfl rfl rfl ?_
   refine pu (.mul (c := ((x2 * 256 : Nat) : Int)) rfl (.tmp rfl) .int (by rw [wrap_id (by omega) (by omega)]; omega)) rfl rfl rfl ?_
   refine pu (.move rfl (.tmp rfl)) rfl rfl rfl ?_
   refine ARun.cur (id := 1000000) rfl (v_Next n F hF p3 sd4 (by omega) (by omega)) f1_ ⟨.inr (.tmp rfl), trivial⟩ rfl rfl rfl (nB rfl) (fun x7 p8 sd9 hc10 => ?_)
   obtain ⟨hc10x, hc10c⟩ := hc10
   obtain ⟨hc101, hc102, hc103⟩ := hc10c
   refine pu (.add (c := ((x2 * 256 + x7 : Nat) : Int)) rfl (.tmp rfl) (.tmp rfl) (by rw [wrap_id (by omega) (by omega)]; omega)) rfl rfl rfl ?_
   refine pu (.assign rfl (.tmp rfl)) rfl rfl rfl ?_
   refine ARun.nil ?_
   refine AW.seq ?_
   refine AW.region ?_
   refine pu (.move rfl (.tmp rfl)) rfl rfl rfl ?_
   refine pu (.move rfl (.tmp rfl)) rfl rfl rfl ?_
   refine pu (.rem (a := x2 * 256 + x7) (b := m) rfl (.tmp rfl) (.tmp rfl) rfl (by omega) (by omega)) rfl rfl rfl ?_
   refine pu (.assign rfl (.tmp rfl)) rfl rfl rfl ?_
   refine ARun.nil ?_
   have _hm : 0 < m → ∀ y : Nat, y % m < m := fun h y => Nat.mod_lt _ h
   exact AW.ret (show ∃ x p' s' t, _ ∧ ResL _ _ [.tmp 4] t ∧ _ ∧ _ from ⟨((x2 * 256 + x7) % m), p8, sd9, _, ⟨by first | exact .inr rfl | exact .inl (Nat.mod_lt _ (by omega)), ⟨by omega, by omega, by omega⟩⟩, .inl ⟨_, rfl, .tmp rfl⟩, .int, rfl⟩)
  ·
   replace hb6 := of_decide_eq_false hb6
   refine AW.skip ?_
   refine AW.seq ?_
   refine AW.region ?_
   refine pu (.move rfl (.tmp rfl)) rfl rfl rfl ?_
   refine pu (.move rfl (.tmp rfl)) rfl rfl rfl ?_
   refine pu (.rem (a := x2) (b := m) rfl (.tmp rfl) (.tmp rfl) rfl (by omega) (by omega)) rfl rfl rfl ?_
   refine pu (.assign rfl (.tmp rfl)) rfl rfl rfl ?_
   refine ARun.nil ?_
   have _hm : 0 < m → ∀ y : Nat, y % m < m := fun h y => Nat.mod_lt _ h
   exact AW.ret (show ∃ x p' s' t, _ ∧ ResL _ _ [.tmp 4] t ∧ _ ∧ _ from ⟨(x2 % m), p3, sd4, _, ⟨by first | exact .inr rfl | exact .inl (Nat.mod_lt _ (by omega)), ⟨by omega, by omega, by omega⟩⟩, .inl ⟨_, rfl, .tmp rfl⟩, .int, rfl⟩)
theorem v_One (n : Nat) (F : Nat → Nat) (hF : ∀ i, F i < 256) (p s : Nat) (hp : p ≤ 1800000000) (hs : s < 18446744073709551616) (m : Nat) (hm : m ≤ 1000000) : FnC Tryz.prog 35 n F [.one (.int .i64 (m : Int))] p s (fun (x : Bool) p' s' => CurOk p 2 p' s') (fun (x : Bool) => .one (.bool x)) := by
 refine FnC.of_body (fn := Tryz.f35) Tryz.func35 rfl (nB rfl) ?_
 intro w0 c
 show AW _ 9 _ _ _ _
 refine AW.seq ?_
 refine AW.region ?_
 refine pu (.assign rfl .bool) rfl rfl rfl ?_
 refine ARun.nil ?_
 refine AW.seq ?_
 refine AW.region ?_
 refine pu (.move rfl (.tmp rfl)) rfl rfl rfl ?_
 refine pu (.move rfl (.tmp rfl)) rfl rfl rfl ?_
 refine ARun.cur (id := 1000000) rfl (v_Pick n F hF p s (by omega) (by omega) m (by omega)) f0_ ⟨.inr (.tmp rfl), .inl ⟨_, (.tmp rfl), .int⟩, trivial⟩ rfl rfl rfl (nB rfl) (fun x1 p2 sd3 hc4 => ?_)
 obtain ⟨hc4x, hc4c⟩ := hc4
 obtain ⟨hc41, hc42, hc43⟩ := hc4c
 refine pu (.intOp rfl (.tmp rfl) .int rfl) rfl rfl rfl ?_
 refine pu (.assign rfl (.tmp rfl)) rfl rfl rfl ?_
 refine ARun.nil ?_
 exact AW.ret (show ∃ x p' s' t, _ ∧ ResL _ _ [.tmp 4] t ∧ _ ∧ _ from ⟨(decide ((x1 : Int) = 0)), p2, sd3, _, ⟨by omega, by omega, by omega⟩, .inl ⟨_, rfl, .tmp rfl⟩, .bool, rfl⟩)
theorem v_Of (n : Nat) (F : Nat → Nat) (hF : ∀ i, F i < 256) (p s : Nat) (hp : p ≤ 1800000000) (hs : s < 18446744073709551616) (l : List ByteArray) (hl : 1 ≤ l.length ∧ l.length ≤ 1000) : FnC Tryz.prog 54 n F [.one (.lst 1 l.length (fun i0 _ => .str (l.getD i0 ByteArray.empty)))] p s (fun (x : ByteArray) p' s' => x ∈ l ∧ CurOk p 2 p' s') (fun (x : ByteArray) => .one (.str x)) := by
 refine FnC.of_body (fn := Tryz.f54) Tryz.func54 rfl (nB rfl) ?_
 intro w0 c
 show AW _ 12 _ _ _ _
 refine AW.seq ?_
 refine AW.region ?_
 refine pu (.assign rfl (.str (by decide))) rfl rfl rfl ?_
 refine ARun.nil ?_
 refine AW.seq ?_
 refine AW.region ?_
 refine pu (.move rfl (.tmp rfl)) rfl rfl rfl ?_
 refine pu (.move rfl (.tmp rfl)) rfl rfl rfl ?_
 refine pu (.move rfl (.tmp rfl)) rfl rfl rfl ?_
 refine pu (.lenLst rfl (.tmp rfl) f14_) rfl rfl rfl ?_
 refine ARun.cur (id := 1000000) rfl (v_Pick n F hF p s (by omega) (by omega) l.length (by omega)) f0_ ⟨.inr (.tmp rfl), .inl ⟨_, (.tmp rfl), .int⟩, trivial⟩ rfl rfl rfl (nB rfl) (fun x1 p2 sd3 hc4 => ?_)
 obtain ⟨hc4x, hc4c⟩ := hc4
 obtain ⟨hc41, hc42, hc43⟩ := hc4c
 refine pu (.indexLst (i := x1) rfl (.tmp rfl) f3_ (.tmp rfl) rfl (by rcases hc4x with hx | hx <;> omega)) rfl rfl rfl ?_
 refine pu (.loadRef rfl (.tmp rfl) f12_ (nB rfl)) rfl rfl rfl ?_
 refine pu (.assign rfl (.tmp rfl)) rfl rfl rfl ?_
 refine ARun.nil ?_
 have hlt : x1 < l.length := by rcases hc4x with hx | hx <;> omega
 exact AW.ret (show ∃ x p' s' t, _ ∧ ResL _ _ [.tmp 4] t ∧ _ ∧ _ from ⟨(l.getD x1 ByteArray.empty), p2, sd3, _, ⟨by rw [List.getD_eq_getElem?_getD, List.getElem?_eq_getElem hlt]; exact List.getElem_mem _, ⟨by omega, by omega, by omega⟩⟩, .inl ⟨_, rfl, .tmp rfl⟩, .str, rfl⟩)
theorem v_Among (n : Nat) (F : Nat → Nat) (hF : ∀ i, F i < 256) (p s : Nat) (hp : p ≤ 1800000000) (hs : s < 18446744073709551616) (l : List Int) (hl : 1 ≤ l.length ∧ l.length ≤ 1000) : FnC Tryz.prog 55 n F [.one (.lst 1 l.length (fun i0 _ => .int .i64 (l.getD i0 0)))] p s (fun (x : Int) p' s' => x ∈ l ∧ CurOk p 2 p' s') (fun (x : Int) => .one (.int .i64 x)) := by
 refine FnC.of_body (fn := Tryz.f55) Tryz.func55 rfl (nB rfl) ?_
 intro w0 c
 show AW _ 12 _ _ _ _
 refine AW.seq ?_
 refine AW.region ?_
 refine pu (.assign rfl .int) rfl rfl rfl ?_
 refine ARun.nil ?_
 refine AW.seq ?_
 refine AW.region ?_
 refine pu (.move rfl (.tmp rfl)) rfl rfl rfl ?_
 refine pu (.move rfl (.tmp rfl)) rfl rfl rfl ?_
 refine pu (.move rfl (.tmp rfl)) rfl rfl rfl ?_
 refine pu (.lenLst rfl (.tmp rfl) f15_) rfl rfl rfl ?_
 refine ARun.cur (id := 1000000) rfl (v_Pick n F hF p s (by omega) (by omega) l.length (by omega)) f0_ ⟨.inr (.tmp rfl), .inl ⟨_, (.tmp rfl), .int⟩, trivial⟩ rfl rfl rfl (nB rfl) (fun x1 p2 sd3 hc4 => ?_)
 obtain ⟨hc4x, hc4c⟩ := hc4
 obtain ⟨hc41, hc42, hc43⟩ := hc4c
 refine pu (.indexLst (i := x1) rfl (.tmp rfl) f4_ (.tmp rfl) rfl (by rcases hc4x with hx | hx <;> omega)) rfl rfl rfl ?_
 refine pu (.loadRef rfl (.tmp rfl) f9_ (nB rfl)) rfl rfl rfl ?_
 refine pu (.assign rfl (.tmp rfl)) rfl rfl rfl ?_
 refine ARun.nil ?_
 have hlt : x1 < l.length := by rcases hc4x with hx | hx <;> omega
 exact AW.ret (show ∃ x p' s' t, _ ∧ ResL _ _ [.tmp 4] t ∧ _ ∧ _ from ⟨(l.getD x1 0), p2, sd3, _, ⟨by rw [List.getD_eq_getElem?_getD, List.getElem?_eq_getElem hlt]; exact List.getElem_mem _, ⟨by omega, by omega, by omega⟩⟩, .inl ⟨_, rfl, .tmp rfl⟩, .int, rfl⟩)
end Go.Proofs.YtonfeiloekofdaaGreatDoor

namespace Go.Proofs.YtonfeiloekofdaaGreatDoor
open Go.ChangeShapes Go.WideShapes Go.ChangeAt Go.RowKit Go.BigFrame Go.Deep
set_option linter.unusedVariables false
set_option linter.unusedSimpArgs false
theorem f18_ : callB Tryz.prog 37 = true := by kernel_rfl
theorem f19_ : callB Tryz.prog 56 = true := by kernel_rfl
theorem f20_ : stringB Tryz.prog 9 = true := by kernel_rfl
theorem v_l1In (n lo hi : Int) : Fn Tryz.prog 37 [.one (.int .i64 n), .one (.int .i64 lo), .one (.int .i64 hi)] (.one (.bool (inB lo hi n))) := by
 refine Fn.of_body (fn := Tryz.f37) Tryz.func37 rfl (nB rfl) trivial ?_
 intro w0
 show AW _ 15 _ _ _ _
 refine AW.seq ?_
 refine AW.region ?_
 refine pu (.assign rfl .bool) rfl rfl rfl ?_
 refine ARun.nil ?_
 refine AW.seq ?_
 refine AW.region ?_
 refine pu (.move rfl (.tmp rfl)) rfl rfl rfl ?_
 refine pu (.move rfl (.tmp rfl)) rfl rfl rfl ?_
 refine pu (.intOp rfl (.tmp rfl) (.tmp rfl) rfl) rfl rfl rfl ?_
 refine pu (.move rfl (.tmp rfl)) rfl rfl rfl ?_
 refine ARun.gpure (want := true) (.tt rfl) (fun hg1 => PureOp.move rfl (.tmp rfl)) rfl rfl (nB rfl) rfl (nB rfl) ?_
 refine ARun.gpure (want := true) (.tt rfl) (fun hg2 => PureOp.move rfl (.tmp rfl)) rfl rfl (nB rfl) rfl (nB rfl) ?_
 refine ARun.gpure (want := true) (.tt rfl) (fun hg3 => PureOp.intOp rfl (.gtmp rfl hg3) (.gtmp rfl hg3) rfl) rfl rfl (nB rfl) rfl (nB rfl) ?_
 refine pu (.pick rfl (.tmp rfl) (fun hp4 => .gtmp rfl hp4) (fun _ => .bool)) rfl rfl rfl ?_
 refine pu (.assign rfl (.tmp rfl)) rfl rfl rfl ?_
 refine ARun.nil ?_
 refine AW.ret (show ResL _ _ [.tmp 6] _ from resB rfl ?_)
 exact inB_cond _ _ _
theorem v_within (n lo hi : Int) : Fn Tryz.prog 56 [.one (.int .i64 n), .one (.int .i64 lo), .one (.int .i64 hi)] (.one (.bool (inB lo hi n))) := by
 refine Fn.of_body (fn := Tryz.f56) Tryz.func56 rfl (nB rfl) trivial ?_
 intro w0
 show AW _ 15 _ _ _ _
 refine AW.seq ?_
 refine AW.region ?_
 refine pu (.assign rfl .bool) rfl rfl rfl ?_
 refine ARun.nil ?_
 refine AW.seq ?_
 refine AW.region ?_
 refine pu (.move rfl (.tmp rfl)) rfl rfl rfl ?_
 refine pu (.move rfl (.tmp rfl)) rfl rfl rfl ?_
 refine pu (.intOp rfl (.tmp rfl) (.tmp rfl) rfl) rfl rfl rfl ?_
 refine pu (.move rfl (.tmp rfl)) rfl rfl rfl ?_
 refine ARun.gpure (want := true) (.tt rfl) (fun hg1 => PureOp.move rfl (.tmp rfl)) rfl rfl (nB rfl) rfl (nB rfl) ?_
 refine ARun.gpure (want := true) (.tt rfl) (fun hg2 => PureOp.move rfl (.tmp rfl)) rfl rfl (nB rfl) rfl (nB rfl) ?_
 refine ARun.gpure (want := true) (.tt rfl) (fun hg3 => PureOp.intOp rfl (.gtmp rfl hg3) (.gtmp rfl hg3) rfl) rfl rfl (nB rfl) rfl (nB rfl) ?_
 refine pu (.pick rfl (.tmp rfl) (fun hp4 => .gtmp rfl hp4) (fun _ => .bool)) rfl rfl rfl ?_
 refine pu (.assign rfl (.tmp rfl)) rfl rfl rfl ?_
 refine ARun.nil ?_
 refine AW.ret (show ResL _ _ [.tmp 6] _ from resB rfl ?_)
 exact inB_cond _ _ _
def chBad (s : ByteArray) (d : Bool) (k : Nat) : Bool :=
  !(cond (cond (decide (97 ≤ byteAt s k)) (decide (byteAt s k ≤ 122)) false) true (cond (cond d (decide (48 ≤ byteAt s k)) false) (decide (byteAt s k ≤ 57)) false))
def nameB (s : ByteArray) (d : Bool) : Bool := (List.range s.size).all (fun j => !chBad s d j) && inB 1 8 (s.size : Int)
theorem v_l3Name (s : ByteArray) (d : Bool) : Fn Tryz.prog 62 [.one (.str s), .one (.bool d)] (.one (.bool (nameB s d))) := by
 refine Fn.of_body (fn := Tryz.f62) Tryz.func62 rfl (nB rfl) trivial ?_
 intro w0
 show AW _ 41 _ _ _ _
 refine AW.boundS (t := 0) rfl fun hx => ?_
 refine AW.seq ?_
 refine AW.region ?_
 refine pu (.assign rfl .bool) rfl rfl rfl ?_
 refine ARun.nil ?_
 refine AW.seq ?_
 refine AW.seq ?_
 refine AW.region ?_
 refine pu (.assign rfl .int) rfl rfl rfl ?_
 refine ARun.nil ?_
 refine AW.block ?_
 refine AW.loop (ι := Nat) (fun k => ⟨[(0, .one (.str s)), (1, .one (.bool d)), (5, .one (.int .i64 (k : Int)))], []⟩) (fun k => k ≤ s.size ∧ ∀ j, j < k → chBad s d j = false) (fun k => s.size - k) 0 ⟨Nat.zero_le _, fun j hj => absurd hj (by omega)⟩ ⟨⟨⟨_, rfl, rfl⟩, ⟨_, rfl, rfl⟩, ⟨_, rfl, rfl⟩, trivial⟩, trivial⟩ ?_
 intro k hI
 obtain ⟨hk, hks⟩ := hI
 refine AW.seq ?_
 refine AW.seq ?_
 refine AW.region ?_
 refine pu (.move rfl (.tmp rfl)) rfl rfl rfl ?_
 refine pu (.move rfl (.tmp rfl)) rfl rfl rfl ?_
 refine pu (.lenStr rfl (.tmp rfl) f20_) rfl rfl rfl ?_
 refine pu (.intOp rfl (.tmp rfl) (.tmp rfl) rfl) rfl rfl rfl ?_
 refine ARun.nil ?_
 refine AW.cond (.tmp rfl) (fun hb1 => ?_) (fun hb1 => ?_)
 ·
  replace hb1 := of_decide_eq_true hb1
  have hkl : k < s.size := by omega
  refine AW.skip ?_
  refine AW.seq ?_
  refine AW.block ?_
  refine AW.seq ?_
  refine AW.region ?_
  refine pu (.move rfl (.tmp rfl)) rfl rfl rfl ?_
  refine pu (.move rfl (.tmp rfl)) rfl rfl rfl ?_
  refine pu (.indexStrAt (i := k) rfl (.tmp rfl) f20_ (.tmp rfl) rfl (by omega)) rfl rfl rfl ?_
  refine pu (.intOp rfl (.tmp rfl) .int rfl) rfl rfl rfl ?_
  refine pu (.move rfl (.tmp rfl)) rfl rfl rfl ?_
  refine ARun.gpure (want := true) (.tt rfl) (fun hg2 => PureOp.move rfl (.tmp rfl)) rfl rfl (nB rfl) rfl (nB rfl) ?_
  refine ARun.gpure (want := true) (.tt rfl) (fun hg3 => PureOp.move rfl (.tmp rfl)) rfl rfl (nB rfl) rfl (nB rfl) ?_
  refine ARun.gpure (want := true) (.tt rfl) (fun hg4 => PureOp.indexStrAt (i := k) rfl (.gtmp rfl hg4) f20_ (.gtmp rfl hg4) rfl (by have q := hg4; simp only [Bool.cond_true_left, Bool.cond_false_right, Bool.not_eq_true', Bool.or_eq_false_iff, Bool.not_eq_false', Bool.and_eq_true, Bool.not_not, decide_eq_true_eq, decide_eq_false_iff_not, inB] at q; omega)) rfl rfl (nB rfl) rfl (nB rfl) ?_
  refine ARun.gpure (want := true) (.tt rfl) (fun hg5 => PureOp.intOp rfl (.gtmp rfl hg5) .int rfl) rfl rfl (nB rfl) rfl (nB rfl) ?_
  refine pu (.pick rfl (.tmp rfl) (fun hp6 => .gtmp rfl hp6) (fun _ => .bool)) rfl rfl rfl ?_
  refine pu (.move rfl (.tmp rfl)) rfl rfl rfl ?_
  refine ARun.gpure (want := false) (.tf rfl) (fun hg8 => PureOp.move rfl (.tmp rfl)) rfl rfl (nB rfl) rfl (nB rfl) ?_
  refine ARun.gpure (want := false) (.tf rfl) (fun hg9 => PureOp.move rfl (.gtmp rfl hg9)) rfl rfl (nB rfl) rfl (nB rfl) ?_
  refine ARun.gpure (want := true) (.gt rfl) (fun hg10 => PureOp.move rfl (.tmp rfl)) rfl rfl (nB rfl) rfl (nB rfl) ?_
  refine ARun.gpure (want := true) (.gt rfl) (fun hg11 => PureOp.move rfl (.tmp rfl)) rfl rfl (nB rfl) rfl (nB rfl) ?_
  refine ARun.gpure (want := true) (.gt rfl) (fun hg12 => PureOp.indexStrAt (i := k) rfl (.gtmp rfl hg12) f20_ (.gtmp rfl hg12) rfl (by have q := hg12; simp only [Bool.cond_true_left, Bool.cond_false_right, Bool.not_eq_true', Bool.or_eq_false_iff, Bool.not_eq_false', Bool.and_eq_true, Bool.not_not, decide_eq_true_eq, decide_eq_false_iff_not, inB] at q; omega)) rfl rfl (nB rfl) rfl (nB rfl) ?_
  refine ARun.gpure (want := true) (.gt rfl) (fun hg13 => PureOp.intOp rfl (.gtmp rfl hg13) .int rfl) rfl rfl (nB rfl) rfl (nB rfl) ?_
  refine ARun.gpure (want := false) (.tf rfl) (fun hg14 => PureOp.pick rfl (.gtmp rfl hg14) (fun hp15 => .gtmp rfl (and_mk hg14 hp15)) (fun _ => .bool)) rfl rfl (nB rfl) rfl (nB rfl) ?_
  refine ARun.gpure (want := false) (.tf rfl) (fun hg17 => PureOp.move rfl (.gtmp rfl hg17)) rfl rfl (nB rfl) rfl (nB rfl) ?_
  refine ARun.gpure (want := true) (.gt rfl) (fun hg18 => PureOp.move rfl (.tmp rfl)) rfl rfl (nB rfl) rfl (nB rfl) ?_
  refine ARun.gpure (want := true) (.gt rfl) (fun hg19 => PureOp.move rfl (.tmp rfl)) rfl rfl (nB rfl) rfl (nB rfl) ?_
  refine ARun.gpure (want := true) (.gt rfl) (fun hg20 => PureOp.indexStrAt (i := k) rfl (.gtmp rfl hg20) f20_ (.gtmp rfl hg20) rfl (by have q := hg20; simp only [Bool.cond_true_left, Bool.cond_false_right, Bool.not_eq_true', Bool.or_eq_false_iff, Bool.not_eq_false', Bool.and_eq_true, Bool.not_not, decide_eq_true_eq, decide_eq_false_iff_not, inB] at q; omega)) rfl rfl (nB rfl) rfl (nB rfl) ?_
  refine ARun.gpure (want := true) (.gt rfl) (fun hg21 => PureOp.intOp rfl (.gtmp rfl hg21) .int rfl) rfl rfl (nB rfl) rfl (nB rfl) ?_
  refine ARun.gpure (want := false) (.tf rfl) (fun hg22 => PureOp.pick rfl (.gtmp rfl hg22) (fun hp23 => .gtmp rfl (and_mk hg22 hp23)) (fun _ => .bool)) rfl rfl (nB rfl) rfl (nB rfl) ?_
  refine pu (.pick rfl (.tmp rfl) (fun _ => .bool) (fun hp26 => .gtmp rfl (not_of hp26))) rfl rfl rfl ?_
  refine pu (.not rfl (.tmp rfl)) rfl rfl rfl ?_
  refine ARun.nil ?_
  refine AW.cond (.tmp rfl) (fun hb27 => ?_) (fun hb27 => ?_)
  ·
   have hbd : chBad s d k = true := hb27
   refine AW.seq ?_
   refine AW.region ?_
   refine pu (.assign rfl .bool) rfl rfl rfl ?_
   refine ARun.nil ?_
   refine AW.ret (show ResL _ _ [.tmp 4] _ from resB rfl ?_)
   have hno : (List.range s.size).all (fun j => !chBad s d j) = false := rng_no hkl (by rw [hbd]; rfl)
   unfold nameB; rw [hno]; rfl
  ·
   have hbd : chBad s d k = false := hb27
   refine AW.skip ?_
   refine AW.region ?_
   refine pu (.move rfl (.tmp rfl)) rfl rfl rfl ?_
   refine pu (.add (c := ((k + 1 : Nat) : Int)) rfl (.tmp rfl) .int (by rw [wrap_id (by omega) (by omega)]; omega)) rfl rfl rfl ?_
   refine pu (.assign rfl (.tmp rfl)) rfl rfl rfl ?_
   refine ARun.nil ?_
   exact ⟨k + 1, ⟨by omega, rng_succ (p := fun j => chBad s d j = false) hks hbd⟩, by dsimp only; omega, ⟨⟨⟨_, rfl, rfl⟩, ⟨_, rfl, rfl⟩, ⟨_, rfl, rfl⟩, trivial⟩, trivial⟩⟩
 ·
  replace hb1 := of_decide_eq_false hb1
  have hkl : ¬ k < s.size := by omega
  have hall : (List.range s.size).all (fun j => !chBad s d j) = true := rng_yes (fun j hj => by rw [hks j (by omega)]; rfl)
  refine AW.exit ?_
  refine AW.seq ?_
  refine AW.region ?_
  refine pu (.move rfl (.tmp rfl)) rfl rfl rfl ?_
  refine pu (.lenStr rfl (.tmp rfl) f20_) rfl rfl rfl ?_
  refine pu (.call rfl (v_l1In (s.size : Int) 1 8) ⟨⟨_, (.tmp rfl), .int⟩, ⟨_, .int, .int⟩, ⟨_, .int, .int⟩, trivial⟩ f18_ trivial) rfl rfl rfl ?_
  refine pu (.assign rfl (.tmp rfl)) rfl rfl rfl ?_
  refine ARun.nil ?_
  refine AW.ret (show ResL _ _ [.tmp 4] _ from resB rfl ?_)
  unfold nameB; rw [hall]; rfl
def chBadI (s : ByteArray) (d : Bool) (k : Nat) : Bool :=
  cond (cond (decide (byteAt s k < 97)) true (decide (122 < byteAt s k))) (cond (cond (!d) true (decide (byteAt s k < 48))) true (decide (57 < byteAt s k))) false
theorem chBad_eq (s : ByteArray) (d : Bool) (k : Nat) : chBad s d k = chBadI s d k := by
      unfold chBad chBadI
      have u (a b : Int) : decide (a < b) = !decide (b ≤ a) := by rw [← decide_not]; exact decide_eq_decide.2 (by omega)
      simp only [u]
      generalize decide ((97 : Int) ≤ _) = a1
      generalize decide (_ ≤ (122 : Int)) = a2
      generalize decide ((48 : Int) ≤ _) = a3
      generalize decide (_ ≤ (57 : Int)) = a4
      revert a1 a2 a3 a4 d; decide
theorem v_isWord (s : ByteArray) (d : Bool) : Fn Tryz.prog 57 [.one (.str s), .one (.bool d)] (.one (.bool (nameB s d))) := by
 refine Fn.of_body (fn := Tryz.f57) Tryz.func57 rfl (nB rfl) trivial ?_
 intro w0
 show AW _ 41 _ _ _ _
 refine AW.boundS (t := 0) rfl fun hx => ?_
 refine AW.seq ?_
 refine AW.region ?_
 refine pu (.assign rfl .bool) rfl rfl rfl ?_
 refine ARun.nil ?_
 refine AW.seq ?_
 refine AW.seq ?_
 refine AW.region ?_
 refine pu (.move rfl (.tmp rfl)) rfl rfl rfl ?_
 refine pu (.lenStr rfl (.tmp rfl) f20_) rfl rfl rfl ?_
 refine pu (.move rfl .int) rfl rfl rfl ?_
 refine ARun.nil ?_
 refine AW.block ?_
 refine AW.loop (ι := Nat) (fun k => ⟨[(0, .one (.str s)), (1, .one (.bool d)), (7, .one (.int .i64 (s.size : Int))), (8, .one (.int .i64 (k : Int)))], []⟩) (fun k => k ≤ s.size ∧ ∀ j, j < k → chBad s d j = false) (fun k => s.size - k) 0 ⟨Nat.zero_le _, fun j hj => absurd hj (by omega)⟩ ⟨⟨⟨_, rfl, rfl⟩, ⟨_, rfl, rfl⟩, ⟨_, rfl, rfl⟩, ⟨_, rfl, rfl⟩, trivial⟩, trivial⟩ ?_
 intro k hI
 obtain ⟨hk, hks⟩ := hI
 refine AW.seq ?_
 refine AW.region ?_
 refine pu (.intOp rfl (.tmp rfl) (.tmp rfl) rfl) rfl rfl rfl ?_
 refine ARun.nil ?_
 refine AW.seq ?_
 refine AW.cond (.tmp rfl) (fun hb1 => ?_) (fun hb1 => ?_)
 ·
  replace hb1 := of_decide_eq_true hb1
  have hkl : k < s.size := by omega
  refine AW.skip ?_
  refine AW.seq ?_
  refine AW.block ?_
  refine AW.seq ?_
  refine AW.region ?_
  refine pu (.move rfl (.tmp rfl)) rfl rfl rfl ?_
  refine pu (.assign rfl (.tmp rfl)) rfl rfl rfl ?_
  refine ARun.nil ?_
  refine AW.seq ?_
  refine AW.region ?_
  refine pu (.move rfl (.tmp rfl)) rfl rfl rfl ?_
  refine pu (.move rfl (.tmp rfl)) rfl rfl rfl ?_
  refine pu (.indexStrAt (i := k) rfl (.tmp rfl) f20_ (.tmp rfl) rfl (by omega)) rfl rfl rfl ?_
  refine pu (.intOp rfl (.tmp rfl) .int rfl) rfl rfl rfl ?_
  refine pu (.move rfl (.tmp rfl)) rfl rfl rfl ?_
  refine ARun.gpure (want := false) (.tf rfl) (fun hg2 => PureOp.move rfl (.tmp rfl)) rfl rfl (nB rfl) rfl (nB rfl) ?_
  refine ARun.gpure (want := false) (.tf rfl) (fun hg3 => PureOp.move rfl (.tmp rfl)) rfl rfl (nB rfl) rfl (nB rfl) ?_
  refine ARun.gpure (want := false) (.tf rfl) (fun hg4 => PureOp.indexStrAt (i := k) rfl (.gtmp rfl hg4) f20_ (.gtmp rfl hg4) rfl (by have q := hg4; simp only [Bool.cond_true_left, Bool.cond_false_right, Bool.not_eq_true', Bool.or_eq_false_iff, Bool.not_eq_false', Bool.and_eq_true, Bool.not_not, decide_eq_true_eq, decide_eq_false_iff_not, inB] at q; omega)) rfl rfl (nB rfl) rfl (nB rfl) ?_
  refine ARun.gpure (want := false) (.tf rfl) (fun hg5 => PureOp.intOp rfl (.gtmp rfl hg5) .int rfl) rfl rfl (nB rfl) rfl (nB rfl) ?_
  refine pu (.pick rfl (.tmp rfl) (fun _ => .bool) (fun hp7 => .gtmp rfl (not_of hp7))) rfl rfl rfl ?_
  refine pu (.move rfl (.tmp rfl)) rfl rfl rfl ?_
  refine ARun.gpure (want := true) (.tt rfl) (fun hg8 => PureOp.move rfl (.tmp rfl)) rfl rfl (nB rfl) rfl (nB rfl) ?_
  refine ARun.gpure (want := true) (.tt rfl) (fun hg9 => PureOp.not rfl (.gtmp rfl hg9)) rfl rfl (nB rfl) rfl (nB rfl) ?_
  refine ARun.gpure (want := true) (.tt rfl) (fun hg10 => PureOp.move rfl (.gtmp rfl hg10)) rfl rfl (nB rfl) rfl (nB rfl) ?_
  refine ARun.gpure (want := false) (.gf rfl) (fun hg11 => PureOp.move rfl (.tmp rfl)) rfl rfl (nB rfl) rfl (nB rfl) ?_
  refine ARun.gpure (want := false) (.gf rfl) (fun hg12 => PureOp.move rfl (.tmp rfl)) rfl rfl (nB rfl) rfl (nB rfl) ?_
  refine ARun.gpure (want := false) (.gf rfl) (fun hg13 => PureOp.indexStrAt (i := k) rfl (.gtmp rfl hg13) f20_ (.gtmp rfl hg13) rfl (by have q := hg13; simp only [Bool.cond_true_left, Bool.cond_false_right, Bool.not_eq_true', Bool.or_eq_false_iff, Bool.not_eq_false', Bool.and_eq_true, Bool.not_not, decide_eq_true_eq, decide_eq_false_iff_not, inB] at q; omega)) rfl rfl (nB rfl) rfl (nB rfl) ?_
  refine ARun.gpure (want := false) (.gf rfl) (fun hg14 => PureOp.intOp rfl (.gtmp rfl hg14) .int rfl) rfl rfl (nB rfl) rfl (nB rfl) ?_
  refine ARun.gpure (want := true) (.tt rfl) (fun hg15 => PureOp.pick rfl (.gtmp rfl hg15) (fun _ => .bool) (fun hp17 => .gtmp rfl (and_mk hg15 (not_of hp17)))) rfl rfl (nB rfl) rfl (nB rfl) ?_
  refine ARun.gpure (want := true) (.tt rfl) (fun hg18 => PureOp.move rfl (.gtmp rfl hg18)) rfl rfl (nB rfl) rfl (nB rfl) ?_
  refine ARun.gpure (want := false) (.gf rfl) (fun hg19 => PureOp.move rfl (.tmp rfl)) rfl rfl (nB rfl) rfl (nB rfl) ?_
  refine ARun.gpure (want := false) (.gf rfl) (fun hg20 => PureOp.move rfl (.tmp rfl)) rfl rfl (nB rfl) rfl (nB rfl) ?_
  refine ARun.gpure (want := false) (.gf rfl) (fun hg21 => PureOp.indexStrAt (i := k) rfl (.gtmp rfl hg21) f20_ (.gtmp rfl hg21) rfl (by have q := hg21; simp only [Bool.cond_true_left, Bool.cond_false_right, Bool.not_eq_true', Bool.or_eq_false_iff, Bool.not_eq_false', Bool.and_eq_true, Bool.not_not, decide_eq_true_eq, decide_eq_false_iff_not, inB] at q; omega)) rfl rfl (nB rfl) rfl (nB rfl) ?_
  refine ARun.gpure (want := false) (.gf rfl) (fun hg22 => PureOp.intOp rfl (.gtmp rfl hg22) .int rfl) rfl rfl (nB rfl) rfl (nB rfl) ?_
  refine ARun.gpure (want := true) (.tt rfl) (fun hg23 => PureOp.pick rfl (.gtmp rfl hg23) (fun _ => .bool) (fun hp25 => .gtmp rfl (and_mk hg23 (not_of hp25)))) rfl rfl (nB rfl) rfl (nB rfl) ?_
  refine pu (.pick rfl (.tmp rfl) (fun hp26 => .gtmp rfl hp26) (fun _ => .bool)) rfl rfl rfl ?_
  refine ARun.nil ?_
  refine AW.cond (.tmp rfl) (fun hb28 => ?_) (fun hb28 => ?_)
  ·
   have hbd : chBad s d k = true := (chBad_eq s d k).trans hb28
   refine AW.seq ?_
   refine AW.region ?_
   refine pu (.assign rfl .bool) rfl rfl rfl ?_
   refine ARun.nil ?_
   refine AW.ret (show ResL _ _ [.tmp 4] _ from resB rfl ?_)
   have hno : (List.range s.size).all (fun j => !chBad s d j) = false := rng_no hkl (by rw [hbd]; rfl)
   unfold nameB; rw [hno]; rfl
  ·
   have hbd : chBad s d k = false := (chBad_eq s d k).trans hb28
   refine AW.skip ?_
   refine AW.region ?_
   refine pu (.add (c := ((k + 1 : Nat) : Int)) rfl (.tmp rfl) .int (by rw [wrap_id (by omega) (by omega)]; omega)) rfl rfl rfl ?_
   refine pu (.move rfl (.tmp rfl)) rfl rfl rfl ?_
   refine ARun.nil ?_
   exact ⟨k + 1, ⟨by omega, rng_succ (p := fun j => chBad s d j = false) hks hbd⟩, by dsimp only; omega, ⟨⟨⟨_, rfl, rfl⟩, ⟨_, rfl, rfl⟩, ⟨_, rfl, rfl⟩, ⟨_, rfl, rfl⟩, trivial⟩, trivial⟩⟩
 ·
  replace hb1 := of_decide_eq_false hb1
  have hkl : ¬ k < s.size := by omega
  have hall : (List.range s.size).all (fun j => !chBad s d j) = true := rng_yes (fun j hj => by rw [hks j (by omega)]; rfl)
  refine AW.exit ?_
  refine AW.seq ?_
  refine AW.region ?_
  refine pu (.move rfl (.tmp rfl)) rfl rfl rfl ?_
  refine pu (.lenStr rfl (.tmp rfl) f20_) rfl rfl rfl ?_
  refine pu (.call rfl (v_within (s.size : Int) 1 8) ⟨⟨_, (.tmp rfl), .int⟩, ⟨_, .int, .int⟩, ⟨_, .int, .int⟩, trivial⟩ f19_ trivial) rfl rfl rfl ?_
  refine pu (.assign rfl (.tmp rfl)) rfl rfl rfl ?_
  refine ARun.nil ?_
  refine AW.ret (show ResL _ _ [.tmp 4] _ from resB rfl ?_)
  unfold nameB; rw [hall]; rfl
end Go.Proofs.YtonfeiloekofdaaGreatDoor

namespace Go.Proofs.YtonfeiloekofdaaGreatDoor
open Go.ChangeShapes Go.WideShapes Go.ChangeAt Go.RowKit Go.BigFrame
set_option linter.unusedVariables false
set_option maxRecDepth 20000
def digTo : Nat → Nat → ByteArray → ByteArray
  | 0, _, s => s
  | f + 1, q, s => if q = 0 then s else digTo f (q / 10) ((⟨#[UInt8.ofNat (48 + q % 10)]⟩ : ByteArray) ++ s)
def mkText (k : Nat) : ByteArray := (⟨#[109]⟩ : ByteArray) ++ digTo k k ⟨#[]⟩
end Go.Proofs.YtonfeiloekofdaaGreatDoor

namespace Go.Proofs.YtonfeiloekofdaaGreatDoor
set_option linter.unusedVariables false
def mkI (_ : Int) (k : Nat) : Int := mI k
def mkB (_ : Bool) (k : Nat) : Bool := mB k
def mkS (_ : ByteArray) (k : Nat) : ByteArray := mkText k
abbrev c1 {α : Type} (_ : α) : Nat := 1
def ceRow (e : GRow) (j : Nat) : AV := ([.str e.name, .lst 2 e.samples.length (fun i0 j0 => ([.int .i64 ((e.samples.getD i0 (default : GSample)).at_), .int .i64 ((e.samples.getD i0 (default : GSample)).value)] : List AV).getD j0 (.con undef))] : List AV).getD j (.con undef)
def ceSample (e : GSample) (j : Nat) : AV := ([.int .i64 e.at_, .int .i64 e.value] : List AV).getD j (.con undef)
def mrSample (x : GSample) (k : Nat) : GSample := ⟨mkI x.at_ (k), mkI x.value (k + 1)⟩
def crSample (x : GSample) : Nat := 0 + 1 + 1
def mrRow (x : GRow) (k : Nat) : GRow := ⟨mkS x.name (k), (mkL crSample mrSample) x.samples (k + 1)⟩
def crRow (x : GRow) : Nat := 0 + 1 + ctL crSample (x.samples)
def mvHead (x : GHead) (k : Nat) : GHead := ⟨(mkL crRow mrRow) x.rows (k), x.offset⟩
def cvHead (x : GHead) : Nat := 0 + ctL crRow (x.rows)
end Go.Proofs.YtonfeiloekofdaaGreatDoor

namespace Go.Proofs.YtonfeiloekofdaaGreatDoor
open Go.ChangeShapes Go.WideShapes Go.ChangeAt Go.RowKit Go.BigFrame Go.Deep
set_option linter.unusedVariables false
set_option linter.unusedSimpArgs false
theorem f21_ : aggB Tryz.prog 47 2 = true := by kernel_rfl
theorem f22_ : callB Tryz.prog 72 = true := by kernel_rfl
theorem f23_ : elemB Tryz.prog 43 2 = true := by kernel_rfl
theorem f24_ : sliceB Tryz.prog 43 = true := by kernel_rfl
theorem f25_ : sizeB Tryz.prog 47 2 = true := by kernel_rfl
theorem v_Clone_Sample (l : List GSample) (hl : l.length ≤ 1048576) : FnT Tryz.prog 51 [.one (.lst 2 l.length (fun i0 j0 => ([.int .i64 ((l.getD i0 (default : GSample)).at_), .int .i64 ((l.getD i0 (default : GSample)).value)] : List AV).getD j0 (.con undef)))] (.one (.lst 2 l.length (fun i0 j0 => ([.int .i64 ((l.getD i0 (default : GSample)).at_), .int .i64 ((l.getD i0 (default : GSample)).value)] : List AV).getD j0 (.con undef)))) := by
 refine FnT.of_body (fn := Tryz.f51) Tryz.func51 rfl (nB rfl)  ?_
 intro w0
 show AW _ 8 _ _ _ _
 refine AW.bound (t := 0) rfl fun hx => ?_
 refine AW.seq ?_
 refine AW.region ?_
 refine pu (.assign rfl .con) rfl rfl rfl ?_
 refine ARun.nil ?_
 refine AW.seq ?_
 refine AW.seq ?_
 refine AW.region ?_
 refine pu (.move rfl (.tmp rfl)) rfl rfl rfl ?_
 refine ARun.nilEq rfl (.tmp rfl) f24_ rfl rfl (nB rfl) (fun bn1 hbn1 => ?_)
 refine ARun.nil ?_
 refine AW.cond (.tmp rfl) (fun hb2 => ?_) (fun hb2 => ?_)
 ·
  obtain rfl : l = [] := List.eq_nil_of_length_eq_zero (hbn1 hb2)
  refine AW.seq ?_
  refine AW.region ?_
  refine pu (.assign rfl .con) rfl rfl rfl ?_
  refine ARun.nil ?_
  exact AW.ret (show ∃ s t, ResL _ _ [.tmp 2] s ∧ TvS _ (ofLeaf t) 0 s _ from ⟨_, fun a b => 1000, .inl ⟨_, rfl, .tmp rfl⟩, .nil⟩)
 ·
  refine AW.skip ?_
  refine AW.seq ?_
  refine AW.region ?_
  refine ARun.slice0 (id := 0) (z := (.agg #[.int .i64 0, .int .i64 0])) (sz := 2) (by_ := 16) rfl (by kernel_rfl) (fun _ _ => .con undef) (fun _ _ => rfl) ⟨rfl, (by repeat first | exact trivial | refine ⟨by decide, by first | rfl | exact trivial | (intro i j; first | rfl | exact getD_no rfl | (dsimp only; split <;> first | rfl | exact getD_no rfl) | exact scl_no (by apply_assumption) _), ?_⟩)⟩ rfl rfl (nB rfl) ?_
  refine pu (.move rfl (.tmp rfl)) rfl rfl rfl ?_
  refine ARun.append (id := 1) (sz := 2) (n := 0) (m := l.length) (by_ := 16) (z := (.agg #[.int .i64 0, .int .i64 0])) (f := fun _ _ => .con undef) (g := fun i0 j0 => ([.int .i64 ((l.getD i0 (default : GSample)).at_), .int .i64 ((l.getD i0 (default : GSample)).value)] : List AV).getD j0 (.con undef)) (h := fun ia ja => if ia < 0 then (fun _ _ => .con undef : Nat → Nat → AV) ia ja else (fun i0 j0 => ([.int .i64 ((l.getD i0 (default : GSample)).at_), .int .i64 ((l.getD i0 (default : GSample)).value)] : List AV).getD j0 (.con undef) : Nat → Nat → AV) (ia - 0) ja) rfl (by kernel_rfl) rfl f24_ (.own (.tmp rfl) rfl rfl rfl (Nat.le_refl _) (fun _ _ _ _ => rfl)) (.lst (.tmp rfl)) (by decide) (fun i j hi hj => match j, hj with | 0, _ => rfl | 1, _ => rfl | _ + 2, h => absurd h (by omega)) (fun _ _ _ _ => rfl) (by omega) (by omega) ⟨rfl, (by repeat first | exact trivial | refine ⟨by decide, by first | rfl | exact trivial | (intro i j; first | rfl | exact getD_no rfl | (dsimp only; split <;> first | rfl | exact getD_no rfl) | exact scl_no (by apply_assumption) _), ?_⟩)⟩ (fun i j => by dsimp only; (repeat' split) <;> first | rfl | exact getD_no rfl) rfl rfl (nB rfl) ?_
  refine pu (.assign rfl (.tmp rfl)) rfl rfl rfl ?_
  refine ARun.nil ?_
  exact AW.ret (show ∃ s t, ResL _ _ [.tmp 2] s ∧ TvS _ (ofLeaf t) 0 s _ from ⟨_, fun a b => if a = 1 then 0 else 1000, .inl ⟨_, rfl, .tmp rfl⟩, (Tv.flatN (Nat.zero_add _).symm rfl rfl rfl (Nat.le_refl _) (by rfl) (fun i j hi hj => by show (if i < 0 then AV.con undef else (fun i0 j0 => ([.int .i64 ((l.getD i0 (default : GSample)).at_), .int .i64 ((l.getD i0 (default : GSample)).value)] : List AV).getD j0 (.con undef)) i j) = _; exact app0) (fun i j hi hj => match j, hj with | 0, _ => rfl | 1, _ => rfl | _ + 2, h => absurd h (by omega)))⟩)
theorem v_IndexFunc_Sample (l : List GSample) (g : FuncId) (m : Nat) (caps : Nat → AV) (p : GSample → Bool) (hd : ∀ j, j < m → (caps j).Deep) (hB : callB Tryz.prog g = true) (hp : ∀ k, k < l.length → Fn Tryz.prog g ([.agg [.int .i64 ((l.getD k (default : GSample)).at_), .int .i64 ((l.getD k (default : GSample)).value)]] ++ capL m caps) (.one (.bool (p (l.getD k (default : GSample)))))) : Fn Tryz.prog 72 [.one (.lst 2 l.length (fun i0 j0 => ([.int .i64 ((l.getD i0 (default : GSample)).at_), .int .i64 ((l.getD i0 (default : GSample)).value)] : List AV).getD j0 (.con undef))), .one (.fn g m caps)] (.one (.int .i64 (idxF p l))) := by
 refine Fn.of_body (fn := Tryz.f72) Tryz.func72 rfl (nB rfl) trivial ?_
 intro w0
 show AW _ 19 _ _ _ _
 refine AW.bound (t := 0) rfl fun hx => ?_
 refine AW.seq ?_
 refine AW.region ?_
 refine pu (.assign rfl .int) rfl rfl rfl ?_
 refine ARun.nil ?_
 refine AW.seq ?_
 refine AW.seq ?_
 refine AW.region ?_
 refine pu (.move rfl (.tmp rfl)) rfl rfl rfl ?_
 refine pu (.lenLst rfl (.tmp rfl) f24_) rfl rfl rfl ?_
 refine pu (.move rfl .int) rfl rfl rfl ?_
 refine ARun.nil ?_
 refine AW.block ?_
 refine AW.loop (ι := Nat) (fun k => ⟨[(0, .one (.lst 2 l.length (fun i0 j0 => ([.int .i64 ((l.getD i0 (default : GSample)).at_), .int .i64 ((l.getD i0 (default : GSample)).value)] : List AV).getD j0 (.con undef)))), (1, .one (.fn g m caps)), (7, .one (.int .i64 (l.length : Int))), (8, .one (.int .i64 (k : Int)))], []⟩) (fun k => k ≤ l.length ∧ (l.take k).any p = false) (fun k => l.length - k) 0 ⟨Nat.zero_le _, rfl⟩ ⟨⟨⟨_, rfl, rfl⟩, ⟨_, rfl, rfl⟩, ⟨_, rfl, rfl⟩, ⟨_, rfl, rfl⟩, trivial⟩, trivial⟩ ?_
 intro k hI
 obtain ⟨hk, hq⟩ := hI
 refine AW.seq ?_
 refine AW.region ?_
 refine pu (.intOp rfl (.tmp rfl) (.tmp rfl) rfl) rfl rfl rfl ?_
 refine ARun.nil ?_
 refine AW.seq ?_
 refine AW.cond (.tmp rfl) (fun hb1 => ?_) (fun hb1 => ?_)
 ·
  replace hb1 := of_decide_eq_true hb1
  have hlt : k < l.length := by omega
  refine AW.skip ?_
  refine AW.seq ?_
  refine AW.block ?_
  refine AW.seq ?_
  refine AW.region ?_
  refine pu (.move rfl (.tmp rfl)) rfl rfl rfl ?_
  refine pu (.assign rfl (.tmp rfl)) rfl rfl rfl ?_
  refine ARun.nil ?_
  refine AW.seq ?_
  refine AW.region ?_
  refine pu (.move rfl (.tmp rfl)) rfl rfl rfl ?_
  refine pu (.move rfl (.tmp rfl)) rfl rfl rfl ?_
  refine pu (.move rfl (.tmp rfl)) rfl rfl rfl ?_
  refine pu (.indexLst (i := k) rfl (.tmp rfl) f23_ (.tmp rfl) rfl (by omega)) rfl rfl rfl ?_
  refine pu (.loadRefAgg rfl (.tmp rfl) f21_ (nB rfl)) rfl rfl rfl ?_
  refine pu (.callv rfl (.tmp rfl) (hp k hlt) (fun j hj => Vw.of_deep (hd j hj)) ⟨⟨_, (.tmp rfl), ⟨.int, .int, trivial⟩⟩, trivial⟩ hB trivial) rfl rfl rfl ?_
  refine ARun.nil ?_
  refine AW.cond (.tmp rfl) (fun hb2 => ?_) (fun hb2 => ?_)
  ·
   refine AW.seq ?_
   refine AW.region ?_
   refine pu (.move rfl (.tmp rfl)) rfl rfl rfl ?_
   refine pu (.assign rfl (.tmp rfl)) rfl rfl rfl ?_
   refine ARun.nil ?_
   refine AW.ret (show ResL _ _ [.tmp 4] _ from resI rfl ?_)
   exact idxF_hit (default : GSample) hlt hq hb2
  ·
   refine AW.skip ?_
   refine AW.region ?_
   refine pu (.add (c := ((k + 1 : Nat) : Int)) rfl (.tmp rfl) .int (by rw [wrap_id (by omega) (by omega)]; omega)) rfl rfl rfl ?_
   refine pu (.move rfl (.tmp rfl)) rfl rfl rfl ?_
   refine ARun.nil ?_
   exact ⟨k + 1, ⟨by omega, any_take (default : GSample) hlt hq hb2⟩, by dsimp only; omega, ⟨⟨⟨_, rfl, rfl⟩, ⟨_, rfl, rfl⟩, ⟨_, rfl, rfl⟩, ⟨_, rfl, rfl⟩, trivial⟩, trivial⟩⟩
 ·
  replace hb1 := of_decide_eq_false hb1
  have hlt : ¬ k < l.length := by omega
  refine AW.exit ?_
  refine AW.seq ?_
  refine AW.region ?_
  refine pu (.assign rfl .int) rfl rfl rfl ?_
  refine ARun.nil ?_
  refine AW.ret (show ResL _ _ [.tmp 4] _ from resI rfl ?_)
  exact idxF_none hlt hq
theorem v_DeleteFunc_Sample (l : List GSample) (g : FuncId) (m : Nat) (caps : Nat → AV) (p : GSample → Bool) (hl : l.length ≤ 1048576) (hd : ∀ j, j < m → (caps j).Deep) (hB : callB Tryz.prog g = true) (hp : ∀ k, k < l.length → Fn Tryz.prog g ([.agg [.int .i64 ((l.getD k (default : GSample)).at_), .int .i64 ((l.getD k (default : GSample)).value)]] ++ capL m caps) (.one (.bool (p (l.getD k (default : GSample)))))) : FnG Tryz.prog 50 [.one (.own 1000000 2 l.length), .one (.fn g m caps)] [(1000000, .arr 2 l.length (fun i j => ceSample (l.getD i (default : GSample)) j))] (.one (.own 1000000 2 (l.filter (fun x => !p x)).length)) [(1000000, .arr 2 ((l.filter (fun x => !p x)).length) (fun i j => ceSample ((l.filter (fun x => !p x)).getD i (default : GSample)) j))] := by
 refine FnG.of_body (fn := Tryz.f50) Tryz.func50 rfl (nB rfl) ?_
 intro w0
 show AW _ 42 _ _ _ _
 refine AW.boundO (t := 0) rfl fun hx => ?_
 refine AW.seq ?_
 refine AW.region ?_
 refine pu (.assign rfl .con) rfl rfl rfl ?_
 refine ARun.nil ?_
 refine AW.seq ?_
 refine AW.region ?_
 refine pu (.move rfl (.tmp rfl)) rfl rfl rfl ?_
 refine pu (.move rfl (.tmp rfl)) rfl rfl rfl ?_
 refine pu (.call rfl (v_IndexFunc_Sample l g m caps p hd hB hp) ⟨⟨_, (.tmp rfl), (.own rfl rfl (Nat.le_refl _) (fun i j hi hj => (match j, hj with | 0, _ => .int | 1, _ => .int | _ + 2, h => absurd h (by omega))))⟩, ⟨_, (.tmp rfl), (.fn (fun j hj => Vw.of_deep (hd j hj)))⟩, trivial⟩ f22_ trivial) rfl rfl rfl ?_
 refine pu (.assign rfl (.tmp rfl)) rfl rfl rfl ?_
 refine ARun.nil ?_
 refine AW.seq ?_
 refine AW.seq ?_
 refine AW.region ?_
 refine pu (.move rfl (.tmp rfl)) rfl rfl rfl ?_
 refine pu (.intOp rfl (.tmp rfl) .int rfl) rfl rfl rfl ?_
 refine ARun.nil ?_
 refine AW.cond (.tmp rfl) (fun hb1 => ?_) (fun hb1 => ?_)
 ·
  have hnil := idxF_nil (of_decide_eq_true hb1)
  refine AW.seq ?_
  refine AW.region ?_
  refine pu (.move rfl (.tmp rfl)) rfl rfl rfl ?_
  refine pu (.assign rfl (.tmp rfl)) rfl rfl rfl ?_
  refine ARun.nil ?_
  refine AW.ret (show ResL _ _ [.tmp 4] _ ∧ HeapLe _ _ from ⟨resO rfl ?_, ⟨⟨_, rfl, rfl, Nat.le_of_eq (by show (List.filter _ l).length = _; rw [hnil]; rfl), fun i j _ _ => by show _ = ceSample ((List.filter _ l).getD i (default : GSample)) j; rw [hnil]; rfl⟩, trivial⟩⟩)
  rw [hnil]
 ·
  obtain ⟨i0, he, hi0, hpi, hbef⟩ := idxF_some (default : GSample) (of_decide_eq_false hb1)
  rw [he]
  obtain ⟨hca, hsa⟩ := cntP_all (q := (fun x => !p x)) (default : GSample) (l := l) (k := i0) (by omega) (fun j hj => by show (!p (l.getD j (default : GSample))) = true; rw [hbef j hj]; rfl)
  have hq0 : (fun x => !p x) (l.getD i0 (default : GSample)) = false := by show (!p (l.getD i0 (default : GSample))) = false; rw [hpi]; rfl
  have hc0 : cntP (fun x => !p x) l (i0 + 1) = i0 := (cntP_no (default : GSample) hi0 hq0).trans hca
  have hst0 : ∀ a, stF (fun x => !p x) (default : GSample) l (i0 + 1) a = l.getD a (default : GSample) := fun a => (stF_no (q := fun x => !p x) hq0 a).trans (hsa a)
  refine AW.skip ?_
  refine AW.seq ?_
  refine AW.seq ?_
  refine AW.region ?_
  refine pu (.move rfl (.tmp rfl)) rfl rfl rfl ?_
  refine pu (.add (c := ((i0 + 1 : Nat) : Int)) rfl (.tmp rfl) .int (by rw [wrap_id (by omega) (by omega)]; omega)) rfl rfl rfl ?_
  refine pu (.assign rfl (.tmp rfl)) rfl rfl rfl ?_
  refine ARun.nil ?_
  refine AW.block ?_
  refine AW.loop (ι := Nat) (fun k => ⟨[(0, .one (.own 1000000 2 l.length)), (1, .one (.fn g m caps)), (5, .one (.int .i64 ((cntP (fun x => !p x) l k : Nat) : Int))), (6, .one (.int .i64 (k : Int)))], [(1000000, .arr 2 l.length (fun i j => ceSample (stF (fun x => !p x) (default : GSample) l k i) j))]⟩) (fun k => k ≤ l.length) (fun k => l.length - k) (i0 + 1) (show i0 + 1 ≤ l.length from hi0) ⟨⟨⟨_, rfl, rfl⟩, ⟨_, rfl, rfl⟩, ⟨_, rfl, congrArg (fun z : Nat => SV.one (.int .i64 (z : Int))) hc0.symm⟩, ⟨_, rfl, rfl⟩, trivial⟩, ⟨⟨_, rfl, rfl, Nat.le_refl _, fun i j _ _ => congrArg (fun e => ceSample e j) (hst0 i).symm⟩, trivial⟩⟩ ?_
  intro k hk
  have hck := cntP_leK (fun x => !p x) l k
  refine AW.seq ?_
  refine AW.seq ?_
  refine AW.region ?_
  refine pu (.move rfl (.tmp rfl)) rfl rfl rfl ?_
  refine pu (.move rfl (.tmp rfl)) rfl rfl rfl ?_
  refine pu (.lenOwn rfl (.tmp rfl) f24_) rfl rfl rfl ?_
  refine pu (.intOp rfl (.tmp rfl) (.tmp rfl) rfl) rfl rfl rfl ?_
  refine ARun.nil ?_
  refine AW.cond (.tmp rfl) (fun hb2 => ?_) (fun hb2 => ?_)
  ·
   replace hb2 := of_decide_eq_true hb2
   have hkl : k < l.length := by omega
   refine AW.skip ?_
   refine AW.seq ?_
   refine AW.block ?_
   refine AW.seq ?_
   refine AW.region ?_
   refine pu (.move rfl (.tmp rfl)) rfl rfl rfl ?_
   refine pu (.move rfl (.tmp rfl)) rfl rfl rfl ?_
   refine pu (.indexOwn (i := k) rfl (.tmp rfl) f23_ (.tmp rfl) rfl (by omega)) rfl rfl rfl ?_
   refine pu (.loadPtrAggE (l := [.int .i64 ((l.getD k (default : GSample)).at_), .int .i64 ((l.getD k (default : GSample)).value)]) rfl (.tmp rfl) f21_ rfl rfl (show k < l.length from by omega) (nB rfl) (by show [ceSample (stF (fun x => !p x) (default : GSample) l k k) 0, ceSample (stF (fun x => !p x) (default : GSample) l k k) 1] = _; rw [stF_hi (Nat.le_refl k)]; rfl)) rfl rfl rfl ?_
   refine ARun.alloc (id := 0) (l := [.int .i64 0, .int .i64 0]) (z := (.agg #[.int .i64 0, .int .i64 0])) rfl (by kernel_rfl) (fun _ _ _ => ⟨_, _, rfl, rfl, ⟨_, _, rfl, rfl, rfl⟩⟩) ⟨(by rw [Bool.and_eq_true]; exact ⟨rfl, (by repeat (first | exact fn_no hd | rfl | refine Bool.and_eq_true_iff.mpr ⟨?_, ?_⟩))⟩), (by repeat first | exact trivial | refine ⟨by decide, by first | rfl | exact trivial | (intro i j; first | rfl | exact getD_no rfl | (dsimp only; split <;> first | rfl | exact getD_no rfl) | exact scl_no (by apply_assumption) _), ?_⟩)⟩ rfl rfl rfl (nB rfl) ?_
   refine ARun.store rfl (.tmp rfl) (.tmp rfl) (SV.cells_of (by exact ⟨trivial, trivial, trivial⟩)) rfl (nB rfl) f25_ rfl rfl ?_
   refine ARun.nil ?_
   refine AW.seq ?_
   refine AW.region ?_
   refine pu (.move rfl (.tmp rfl)) rfl rfl rfl ?_
   refine pu (.loadPtrAgg rfl (.tmp rfl) f21_ rfl rfl (nB rfl) (nB rfl)) rfl rfl rfl ?_
   refine pu (.callv rfl (.tmp rfl) (hp k hkl) (fun j hj => Vw.of_deep (hd j hj)) ⟨⟨_, (.tmp rfl), ⟨.int, .int, trivial⟩⟩, trivial⟩ hB trivial) rfl rfl rfl ?_
   refine pu (.not rfl (.tmp rfl)) rfl rfl rfl ?_
   refine ARun.nil ?_
   refine AW.cond (.tmp rfl) (fun hb3 => ?_) (fun hb3 => ?_)
   ·
    have hq : (fun x => !p x) (l.getD k (default : GSample)) = true := hb3
    have hc := (cntP_yes (p := (fun x => !p x)) (default : GSample) hkl hq).1
    refine AW.seq ?_
    refine AW.region ?_
    refine pu (.move rfl (.tmp rfl)) rfl rfl rfl ?_
    refine pu (.move rfl (.tmp rfl)) rfl rfl rfl ?_
    refine pu (.loadPtrAgg rfl (.tmp rfl) f21_ rfl rfl (nB rfl) (nB rfl)) rfl rfl rfl ?_
    refine pu (.indexOwn (i := cntP (fun x => !p x) l k) rfl (.tmp rfl) f23_ (.tmp rfl) rfl (by omega)) rfl rfl rfl ?_
    refine ARun.storeElem rfl (.tmp rfl) (.tmp rfl) (SV.cells_of (by exact ⟨trivial, trivial, trivial⟩)) rfl (show cntP (fun x => !p x) l k < l.length from by omega) rfl f25_ rfl rfl ?_
    refine ARun.nil ?_
    refine AW.region ?_
    refine pu (.move rfl (.tmp rfl)) rfl rfl rfl ?_
    refine pu (.add (c := ((cntP (fun x => !p x) l k + 1 : Nat) : Int)) rfl (.tmp rfl) .int (by rw [wrap_id (by omega) (by omega)]; omega)) rfl rfl rfl ?_
    refine pu (.assign rfl (.tmp rfl)) rfl rfl rfl ?_
    refine ARun.nil ?_
    refine AW.region ?_
    refine pu (.move rfl (.tmp rfl)) rfl rfl rfl ?_
    refine pu (.add (c := ((k + 1 : Nat) : Int)) rfl (.tmp rfl) .int (by rw [wrap_id (by omega) (by omega)]; omega)) rfl rfl rfl ?_
    refine pu (.assign rfl (.tmp rfl)) rfl rfl rfl ?_
    refine ARun.nil ?_
    exact ⟨k + 1, by omega, by dsimp only; omega, ⟨⟨⟨_, rfl, rfl⟩, ⟨_, rfl, rfl⟩, ⟨_, rfl, congrArg (fun z : Nat => SV.one (.int .i64 (z : Int))) hc.symm⟩, ⟨_, rfl, rfl⟩, trivial⟩, ⟨⟨_, rfl, rfl, Nat.le_refl _, fun a b _ (hb : b < 2) => by
   show (if a = cntP (fun x => !p x) l k then ([.int .i64 ((l.getD k (default : GSample)).at_), .int .i64 ((l.getD k (default : GSample)).value)] : List AV).getD b (.con undef) else ceSample (stF (fun x => !p x) (default : GSample) l k a) b) = _
   exact (ce_ite (ce := ceSample) (x := l.getD k (default : GSample)) (fun b hb => match b, hb with | 0, _ => rfl | 1, _ => rfl | _ + 2, h => absurd h (by omega)) hb).trans (congrArg (fun e => ceSample e b) (stF_yes (q := fun x => !p x) hq a).symm)⟩, trivial⟩⟩⟩
   ·
    have hq : (fun x => !p x) (l.getD k (default : GSample)) = false := hb3
    have hc := cntP_no (p := (fun x => !p x)) (default : GSample) hkl hq
    refine AW.skip ?_
    refine AW.region ?_
    refine pu (.move rfl (.tmp rfl)) rfl rfl rfl ?_
    refine pu (.add (c := ((k + 1 : Nat) : Int)) rfl (.tmp rfl) .int (by rw [wrap_id (by omega) (by omega)]; omega)) rfl rfl rfl ?_
    refine pu (.assign rfl (.tmp rfl)) rfl rfl rfl ?_
    refine ARun.nil ?_
    exact ⟨k + 1, by omega, by dsimp only; omega, ⟨⟨⟨_, rfl, rfl⟩, ⟨_, rfl, rfl⟩, ⟨_, rfl, congrArg (fun z : Nat => SV.one (.int .i64 (z : Int))) hc.symm⟩, ⟨_, rfl, rfl⟩, trivial⟩, ⟨⟨_, rfl, rfl, Nat.le_refl _, fun a b _ _ => congrArg (fun e => ceSample e b) (stF_no (q := fun x => !p x) hq a).symm⟩, trivial⟩⟩⟩
  ·
   replace hb2 := of_decide_eq_false hb2
   have hkl : ¬ k < l.length := by omega
   refine AW.exit ?_
   refine AW.seq ?_
   refine AW.region ?_
   refine pu (.move rfl (.tmp rfl)) rfl rfl rfl ?_
   refine pu (.move rfl (.tmp rfl)) rfl rfl rfl ?_
   refine ARun.clearTail (k := cntP (fun x => !p x) l k) (z := (.agg #[.int .i64 0, .int .i64 0])) (by_ := 16) rfl rfl (.tmp rfl) rfl (.tmp rfl) rfl (by omega) (by kernel_rfl) rfl (by kernel_rfl) rfl rfl rfl rfl (nB rfl) ?_
   refine ARun.nil ?_
   refine AW.seq ?_
   refine AW.region ?_
   refine pu (.move rfl (.tmp rfl)) rfl rfl rfl ?_
   refine pu (.move rfl (.tmp rfl)) rfl rfl rfl ?_
   refine pu (.takeOwn (k := cntP (fun x => !p x) l k) rfl (.tmp rfl) (.tmp rfl) rfl (by omega) f23_) rfl rfl rfl ?_
   refine pu (.assign rfl (.tmp rfl)) rfl rfl rfl ?_
   refine ARun.nil ?_
   refine AW.ret (show ResL _ _ [.tmp 4] _ ∧ HeapLe _ _ from ⟨resO rfl ?_, ⟨⟨_, rfl, rfl, Nat.le_of_eq (cntP_end hkl).symm, fun i j (hi : i < (List.filter _ l).length) _ => congrArg (fun e => ceSample e j) (stF_lo (by omega) (by rw [cntP_end hkl]; exact hi))⟩, trivial⟩⟩)
   exact cntP_end hkl
end Go.Proofs.YtonfeiloekofdaaGreatDoor

namespace Go.Proofs.YtonfeiloekofdaaGreatDoor
open Go.ChangeShapes Go.WideShapes Go.ChangeAt Go.RowKit Go.BigFrame Go.Deep
set_option linter.unusedVariables false
set_option linter.unusedSimpArgs false
theorem f26_ : aggB Tryz.prog 25 2 = true := by kernel_rfl
theorem f27_ : aggB Tryz.prog 45 2 = true := by kernel_rfl
theorem f28_ : elemB Tryz.prog 23 2 = true := by kernel_rfl
theorem f29_ : fieldB Tryz.prog 25 0 0 = true := by kernel_rfl
theorem f30_ : fieldB Tryz.prog 25 1 1 = true := by kernel_rfl
theorem f31_ : fieldB Tryz.prog 45 0 0 = true := by kernel_rfl
theorem f32_ : fieldB Tryz.prog 45 1 1 = true := by kernel_rfl
theorem f33_ : plainB Tryz.prog 23 = true := by kernel_rfl
theorem f34_ : plainB Tryz.prog 43 = true := by kernel_rfl
theorem f35_ : sliceB Tryz.prog 23 = true := by kernel_rfl
theorem f36_ : sizeB Tryz.prog 23 1 = true := by kernel_rfl
theorem f37_ : sizeB Tryz.prog 25 2 = true := by kernel_rfl
theorem f38_ : sizeB Tryz.prog 45 2 = true := by kernel_rfl
def rowC0 (h : GHead) (K i j : Nat) : AV := ([.str (h.rows.getD i (default : GRow)).name, .tre K i] : List AV).getD j (.con undef)
def rowX0 (h : GHead) (i : Nat) : AV := .lst 2 (h.rows.getD i (default : GRow)).samples.length (fun a b => ceSample ((h.rows.getD i (default : GRow)).samples.getD a (default : GSample)) b)
structure HdOk (h : GHead) : Prop where
  rows : h.rows.length ≤ 1048576
  smps : ∀ k, k < h.rows.length → (h.rows.getD k (default : GRow)).samples.length ≤ 1048576
theorem v_l13Own (h : GHead) (hw : HdOk h) : FnT Tryz.prog 42 [.agg [.lst 2 h.rows.length (fun i0 j0 => ([.str ((h.rows.getD i0 (default : GRow)).name), .lst 2 (((h.rows.getD i0 (default : GRow)).samples).length) (fun i1 j1 => ([.int .i64 ((((h.rows.getD i0 (default : GRow)).samples).getD i1 (default : GSample)).at_), .int .i64 ((((h.rows.getD i0 (default : GRow)).samples).getD i1 (default : GSample)).value)] : List AV).getD j1 (.con undef))] : List AV).getD j0 (.con undef)), .int .i64 h.offset]] (.agg [.lst 2 h.rows.length (fun i0 j0 => ([.str ((h.rows.getD i0 (default : GRow)).name), .lst 2 (((h.rows.getD i0 (default : GRow)).samples).length) (fun i1 j1 => ([.int .i64 ((((h.rows.getD i0 (default : GRow)).samples).getD i1 (default : GSample)).at_), .int .i64 ((((h.rows.getD i0 (default : GRow)).samples).getD i1 (default : GSample)).value)] : List AV).getD j1 (.con undef))] : List AV).getD j0 (.con undef)), .int .i64 h.offset]) := by
 obtain ⟨hr0, hs0⟩ := hw
 refine FnT.of_body (fn := Tryz.f42) Tryz.func42 rfl (nB rfl)  ?_
 intro w0
 show AW _ 30 _ _ _ _
 refine AW.seq ?_
 refine AW.region ?_
 refine ARun.box (id := 0) rfl (.tmp rfl) (SV.cells_of (by exact ⟨trivial, trivial, trivial⟩)) ⟨rfl, (by repeat first | exact trivial | refine ⟨by decide, by first | rfl | exact trivial | (intro i j; first | rfl | exact getD_no rfl | (dsimp only; split <;> first | rfl | exact getD_no rfl) | exact scl_no (by apply_assumption) _), ?_⟩)⟩ rfl rfl rfl (nB rfl) ?_
 refine ARun.alloc (id := 1) (l := [.con (.slice none 0 0), .int .i64 0]) (z := (.agg #[.slice none 0 0, .int .i64 0])) rfl (by kernel_rfl) (fun _ _ _ => ⟨_, _, rfl, rfl, ⟨_, _, rfl, rfl, rfl⟩⟩) ⟨rfl, (by repeat first | exact trivial | refine ⟨by decide, by first | rfl | exact trivial | (intro i j; first | rfl | exact getD_no rfl | (dsimp only; split <;> first | rfl | exact getD_no rfl) | exact scl_no (by apply_assumption) _), ?_⟩)⟩ rfl rfl rfl (nB rfl) ?_
 refine ARun.nil ?_
 refine AW.seq ?_
 refine AW.region ?_
 refine pu (.fieldPtr rfl (.tmp rfl) f30_) rfl rfl rfl ?_
 refine pu (.loadPtr rfl (.tmp rfl) f9_ rfl rfl (nB rfl) (nB rfl)) rfl rfl rfl ?_
 refine pu (.build (ys := [.int .i64 h.offset]) (l := [.con (.slice none 0 0), .int .i64 0]) (pl := [(0, 1), (1, 1)]) (z := (.agg #[.slice none 0 0, .int .i64 0])) rfl (by kernel_rfl) (by kernel_rfl) (fun _ _ _ => ⟨_, _, rfl, rfl, ⟨_, _, rfl, rfl, rfl⟩⟩) ⟨(.tmp rfl), trivial, rfl, trivial⟩ rfl) rfl rfl rfl ?_
 refine ARun.alloc (id := 2) (l := [.con (.slice none 0 0), .int .i64 0]) (z := (.agg #[.slice none 0 0, .int .i64 0])) rfl (by kernel_rfl) (fun _ _ _ => ⟨_, _, rfl, rfl, ⟨_, _, rfl, rfl, rfl⟩⟩) ⟨rfl, (by repeat first | exact trivial | refine ⟨by decide, by first | rfl | exact trivial | (intro i j; first | rfl | exact getD_no rfl | (dsimp only; split <;> first | rfl | exact getD_no rfl) | exact scl_no (by apply_assumption) _), ?_⟩)⟩ rfl rfl rfl (nB rfl) ?_
 refine ARun.store rfl (.tmp rfl) (.tmp rfl) (SV.cells_of (by exact ⟨⟨rfl, (fun _ e => by cases e), (fun _ e => by cases e)⟩, trivial, trivial⟩)) rfl (nB rfl) f37_ rfl rfl ?_
 refine ARun.nil ?_
 refine AW.seq ?_
 refine AW.seq ?_
 refine AW.region ?_
 refine pu (.fieldPtr rfl (.tmp rfl) f29_) rfl rfl rfl ?_
 refine pu (.loadPtr rfl (.tmp rfl) f33_ rfl rfl (nB rfl) (nB rfl)) rfl rfl rfl ?_
 refine pu (.lenLst rfl (.tmp rfl) f35_) rfl rfl rfl ?_
 refine pu (.move rfl .int) rfl rfl rfl ?_
 refine ARun.nil ?_
 refine AW.block ?_
 refine AW.fam (id := 4) (rowX0 h) ⟨rfl, (by repeat first | exact trivial | refine ⟨by decide, by first | rfl | exact trivial | (intro i j; first | rfl | exact getD_no rfl | (dsimp only; split <;> first | rfl | exact getD_no rfl) | exact scl_no (by apply_assumption) _), ?_⟩)⟩ ?_
 refine AW.nilCell 2 0 3 2 _ (rowC0 h 4) rfl rfl ⟨rfl, (by repeat first | exact trivial | refine ⟨by decide, by first | rfl | exact trivial | (intro i j; first | rfl | exact getD_no rfl | (dsimp only; split <;> first | rfl | exact getD_no rfl) | exact scl_no (by apply_assumption) _), ?_⟩)⟩ ?_
 -- objects are renamed
 refine AW.loopR (ι := Nat) (fun k => ⟨[(2, .one (.ptr 1 2 0 0)), (3, .one (.ptr 2 2 0 0)), (10, .one (.lst 2 h.rows.length (fun i0 j0 => ([.str ((h.rows.getD i0 (default : GRow)).name), .lst 2 (((h.rows.getD i0 (default : GRow)).samples).length) (fun i1 j1 => ([.int .i64 ((((h.rows.getD i0 (default : GRow)).samples).getD i1 (default : GSample)).at_), .int .i64 ((((h.rows.getD i0 (default : GRow)).samples).getD i1 (default : GSample)).value)] : List AV).getD j1 (.con undef))] : List AV).getD j0 (.con undef)))), (11, .one (.int .i64 (h.rows.length : Int))), (12, .one (.int .i64 (k : Int)))], [(1, .cells [.con (.slice none 0 0), .int .i64 0]), (2, .cells [.own 3 2 k, .int .i64 h.offset]), (3, .arr 2 k (rowC0 h 4)), (4, .trees k (rowX0 h))]⟩) (fun k => k ≤ h.rows.length) (fun k => h.rows.length - k) 0 (Nat.zero_le _) ⟨⟨⟨_, rfl, rfl⟩, ⟨_, rfl, rfl⟩, ⟨_, rfl, rfl⟩, ⟨_, rfl, rfl⟩, ⟨_, rfl, rfl⟩, trivial⟩, ⟨⟨_, rfl, rfl, Nat.le_refl _, fun _ _ _ _ => rfl⟩, ⟨_, rfl, rfl, Nat.le_refl _, fun _ _ _ _ => rfl⟩, ⟨_, rfl, rfl, Nat.le_refl _, fun _ _ _ _ => rfl⟩, ⟨_, rfl, fun _ _ => rfl⟩, trivial⟩⟩ ?_
 intro k hk
 refine AW.seq ?_
 refine AW.region ?_
 refine pu (.intOp rfl (.tmp rfl) (.tmp rfl) rfl) rfl rfl rfl ?_
 refine ARun.nil ?_
 refine AW.seq ?_
 refine AW.cond (.tmp rfl) (fun hb1 => ?_) (fun hb1 => ?_)
 ·
  replace hb1 := of_decide_eq_true hb1
  have hkl : k < h.rows.length := by omega
  have hsk := hs0 k hkl
  refine AW.skip ?_
  refine AW.seq ?_
  refine AW.block ?_
  refine AW.seq ?_
  refine AW.region ?_
  refine pu (.indexLst (i := k) rfl (.tmp rfl) f28_ (.tmp rfl) rfl (by omega)) rfl rfl rfl ?_
  refine pu (.loadRefAgg rfl (.tmp rfl) f27_ (nB rfl)) rfl rfl rfl ?_
  refine ARun.alloc (id := 5) (l := [.str ByteArray.empty, .con (.slice none 0 0)]) (z := (.agg #[.string ByteArray.empty, .slice none 0 0])) rfl (by kernel_rfl) (fun _ _ _ => ⟨_, _, rfl, ⟨rfl, by decide⟩, ⟨_, _, rfl, rfl, rfl⟩⟩) ⟨rfl, (by repeat first | exact trivial | refine ⟨by decide, by first | rfl | exact trivial | (intro i j; first | rfl | exact getD_no rfl | (dsimp only; split <;> first | rfl | exact getD_no rfl) | exact scl_no (by apply_assumption) _), ?_⟩)⟩ rfl rfl rfl (nB rfl) ?_
  refine ARun.store rfl (.tmp rfl) (.tmp rfl) (SV.cells_of (by exact ⟨trivial, trivial, trivial⟩)) rfl (nB rfl) f38_ rfl rfl ?_
  refine ARun.nil ?_
  refine AW.anyX [⟨[], [], [], []⟩, ⟨[2], [], [], []⟩, ⟨[], [], [], []⟩, ⟨[5], [], [], []⟩, ⟨[], [6], [6], [(6, .arr 2 0 (fun _ _ => .con undef))]⟩, ⟨[], [], [], []⟩, ⟨[5], [], [], []⟩, ⟨[], [4, 6, 7], [7], [(4, .trees (k + 1) (rowX0 h))]⟩, ⟨[], [], [], []⟩, ⟨[], [8], [8], [(8, .arr 2 1 (fun _ jc => ([.str ((h.rows.getD k (default : GRow)).name), .tre 4 k] : List AV).getD jc (.con undef)))]⟩, ⟨[], [3, 8, 9], [9], [(8, .arr 2 1 (fun _ jc => ([.str ((h.rows.getD k (default : GRow)).name), .tre 4 k] : List AV).getD jc (.con undef))), (9, .arr 2 (k + 1) (fun ia ja => if ia < k then (rowC0 h 4 : Nat → Nat → AV) ia ja else (fun _ jc => ([.str ((h.rows.getD k (default : GRow)).name), .tre 4 k] : List AV).getD jc (.con undef) : Nat → Nat → AV) (ia - k) ja))]⟩, ⟨[], [], [], []⟩, ⟨[], [2], [], [(2, .cells [.own 9 2 (k + 1), .int .i64 h.offset])]⟩] (by kernel_rfl) (by kernel_rfl) (by kernel_rfl) (by repeat' first | exact trivial | exact .inl rfl | exact .inr (.inr trivial) | exact .inr (.inl (by decide +kernel)) | exact .inr (.inr (by repeat first | exact trivial | refine And.intro ?_ ?_ | exact rfl | (intro i j; first | rfl | exact getD_no rfl | (dsimp only; split <;> first | rfl | exact getD_no rfl) | exact scl_no (by apply_assumption) _))) | refine ⟨?_, ?_⟩) ⟨trivial, trivial, trivial, trivial, ⟨(by repeat first | exact trivial | refine ⟨by decide, by first | rfl | exact trivial | (intro i j; first | rfl | exact getD_no rfl | (dsimp only; split <;> first | rfl | exact getD_no rfl) | exact scl_no (by apply_assumption) _), ?_⟩), trivial⟩, trivial, trivial, ⟨(by repeat first | exact trivial | refine ⟨by decide, by first | rfl | exact trivial | (intro i j; first | rfl | exact getD_no rfl | (dsimp only; split <;> first | rfl | exact getD_no rfl) | exact scl_no (by apply_assumption) _), ?_⟩), trivial⟩, trivial, ⟨(by repeat first | exact trivial | refine ⟨by decide, by first | rfl | exact trivial | (intro i j; first | rfl | exact getD_no rfl | (dsimp only; split <;> first | rfl | exact getD_no rfl) | exact scl_no (by apply_assumption) _), ?_⟩), trivial⟩, ⟨(by repeat first | exact trivial | refine ⟨by decide, by first | rfl | exact trivial | (intro i j; first | rfl | exact getD_no rfl | (dsimp only; split <;> first | rfl | exact getD_no rfl) | exact scl_no (by apply_assumption) _), ?_⟩), trivial⟩, trivial, trivial, trivial⟩ ?_
  refine ADX.pure [] (PureOp.fieldPtr rfl (.tmp rfl) f29_) rfl rfl (nB rfl) trivial rfl ?_
  refine ADX.pure [(2, .cells [.own 3 2 k, .int .i64 h.offset])] (PureOp.loadPtr rfl (.tmp rfl) f33_ rfl rfl (nB rfl) (nB rfl)) rfl rfl (nB rfl) ⟨rfl, trivial⟩ rfl ?_
  refine ADX.pure [] (PureOp.fieldPtr rfl (.tmp rfl) f31_) rfl rfl (nB rfl) trivial rfl ?_
  refine ADX.pure [(5, .cells [.str ((h.rows.getD k (default : GRow)).name), .lst 2 (((h.rows.getD k (default : GRow)).samples).length) (fun i0 j0 => ([.int .i64 ((((h.rows.getD k (default : GRow)).samples).getD i0 (default : GSample)).at_), .int .i64 ((((h.rows.getD k (default : GRow)).samples).getD i0 (default : GSample)).value)] : List AV).getD j0 (.con undef))])] (PureOp.loadPtr rfl (.tmp rfl) f12_ rfl rfl (nB rfl) (nB rfl)) rfl rfl (nB rfl) ⟨rfl, trivial⟩ rfl ?_
  refine ADX.eff (tk := [6]) (new := [6]) (s := .one (.own 6 2 0)) (F := [(20, .one (.own 6 2 0))]) (Hin := []) (Hout := [(6, .arr 2 0 (fun _ _ => .con undef))]) (fun E X hE hX Q rest hk => ?_) trivial ⟨rfl, rfl⟩ rfl rfl rfl rfl ⟨(by repeat first | exact trivial | refine ⟨by decide, by first | rfl | exact trivial | (intro i j; first | rfl | exact getD_no rfl | (dsimp only; split <;> first | rfl | exact getD_no rfl) | exact scl_no (by apply_assumption) _), ?_⟩), trivial⟩ rfl (fun _ e => by cases e; exact nB rfl) ?_
  ·
   refine ARun.slice0 (id := 6) (z := (.agg #[.int .i64 0, .int .i64 0])) (sz := 2) (by_ := 16) rfl (by kernel_rfl) (fun _ _ => .con undef) (fun _ _ => rfl) (Fr.ext2 ⟨rfl, (by repeat first | exact trivial | refine ⟨by decide, by first | rfl | exact trivial | (intro i j; first | rfl | exact getD_no rfl | (dsimp only; split <;> first | rfl | exact getD_no rfl) | exact scl_no (by apply_assumption) _), ?_⟩)⟩ hE hX rfl rfl) rfl rfl (nB rfl) ?_
   refine ARun.hleX ?_ ?_ hk
   ·
    exact HeapLe.one rfl trivial
   ·
    repeat (first | exact LkX.refl | refine LkX.cons (hX.none rfl) ?_ | refine LkX.filter (hX.none rfl) ?_)
  refine ADX.pure [] (PureOp.fieldPtr rfl (.tmp rfl) f32_) rfl rfl (nB rfl) trivial rfl ?_
  refine ADX.pure [(5, .cells [.str ((h.rows.getD k (default : GRow)).name), .lst 2 (((h.rows.getD k (default : GRow)).samples).length) (fun i0 j0 => ([.int .i64 ((((h.rows.getD k (default : GRow)).samples).getD i0 (default : GSample)).at_), .int .i64 ((((h.rows.getD k (default : GRow)).samples).getD i0 (default : GSample)).value)] : List AV).getD j0 (.con undef))])] (PureOp.loadPtr rfl (.tmp rfl) f34_ rfl rfl (nB rfl) (nB rfl)) rfl rfl (nB rfl) ⟨rfl, trivial⟩ rfl ?_
  refine ADX.eff (tk := [4, 6, 7]) (new := [7]) (s := .one (.tre 4 k)) (F := [(23, .one (.tre 4 k)), (23, .one (.own 7 2 (0 + ((h.rows.getD k (default : GRow)).samples).length)))]) (Hin := [(4, .trees k (rowX0 h)), (6, .arr 2 0 (fun _ _ => .con undef))]) (Hout := [(4, .trees (k + 1) (rowX0 h))]) (fun E X hE hX Q rest hk => ?_) ⟨rfl, rfl, trivial⟩ ⟨rfl, rfl⟩ rfl rfl rfl rfl ⟨(by repeat first | exact trivial | refine ⟨by decide, by first | rfl | exact trivial | (intro i j; first | rfl | exact getD_no rfl | (dsimp only; split <;> first | rfl | exact getD_no rfl) | exact scl_no (by apply_assumption) _), ?_⟩), trivial⟩ rfl (fun _ e => by cases e; exact nB rfl) ?_
  ·
   refine ARun.append (id := 7) (sz := 2) (n := 0) (m := ((h.rows.getD k (default : GRow)).samples).length) (by_ := 16) (z := (.agg #[.int .i64 0, .int .i64 0])) (f := fun _ _ => .con undef) (g := fun i0 j0 => ([.int .i64 ((((h.rows.getD k (default : GRow)).samples).getD i0 (default : GSample)).at_), .int .i64 ((((h.rows.getD k (default : GRow)).samples).getD i0 (default : GSample)).value)] : List AV).getD j0 (.con undef)) (h := fun ia ja => if ia < 0 then (fun _ _ => .con undef : Nat → Nat → AV) ia ja else (fun i0 j0 => ([.int .i64 ((((h.rows.getD k (default : GRow)).samples).getD i0 (default : GSample)).at_), .int .i64 ((((h.rows.getD k (default : GRow)).samples).getD i0 (default : GSample)).value)] : List AV).getD j0 (.con undef) : Nat → Nat → AV) (ia - 0) ja) rfl (by kernel_rfl) rfl f24_ (.own (.tmp rfl) rfl rfl rfl (Nat.le_refl _) (fun _ _ _ _ => rfl)) (.lst (.tmp rfl)) (by decide) (fun i j hi hj => match j, hj with | 0, _ => rfl | 1, _ => rfl | _ + 2, h => absurd h (by omega)) (fun _ _ _ _ => rfl) (by omega) (by omega) (Fr.ext2 ⟨rfl, (by repeat first | exact trivial | refine ⟨by decide, by first | rfl | exact trivial | (intro i j; first | rfl | exact getD_no rfl | (dsimp only; split <;> first | rfl | exact getD_no rfl) | exact scl_no (by apply_assumption) _), ?_⟩)⟩ hE hX rfl rfl) (fun i j => by dsimp only; (repeat' split) <;> first | rfl | exact getD_no rfl) rfl rfl (nB rfl) ?_
   refine ARun.closeRow 23 7 4 k 2 (0 + ((h.rows.getD k (default : GRow)).samples).length) (m' := (h.rows.getD k (default : GRow)).samples.length) (X := rowX0 h) (g := fun a b => ceSample ((h.rows.getD k (default : GRow)).samples.getD a (default : GSample)) b) rfl rfl rfl rfl (Nat.le_refl _) rfl rfl rfl (Nat.zero_add _).symm (fun i j hi hj => match j, hj with | 0, _ => (by show (if i < 0 then AV.con undef else _) = _; exact app0) | 1, _ => (by show (if i < 0 then AV.con undef else _) = _; exact app0) | _ + 2, h => absurd h (by omega)) (fun i j hi hj => match j, hj with | 0, _ => rfl | 1, _ => rfl | _ + 2, h => absurd h (by omega)) ?_
   refine ARun.hleX ?_ ?_ hk
   ·
    exact HeapLe.one rfl trivial
   ·
    repeat (first | exact LkX.refl | refine LkX.cons (hX.none rfl) ?_ | refine LkX.filter (hX.none rfl) ?_)
  refine ADX.pure [] (PureOp.build (ys := [.str ((h.rows.getD k (default : GRow)).name), .tre 4 k]) (l := [.str ByteArray.empty, .con (.slice none 0 0)]) (pl := [(0, 1), (1, 1)]) (z := (.agg #[.string ByteArray.empty, .slice none 0 0])) rfl (by kernel_rfl) (by kernel_rfl) (fun _ _ _ => ⟨_, _, rfl, ⟨rfl, by decide⟩, ⟨_, _, rfl, rfl, rfl⟩⟩) ⟨(.tmp rfl), trivial, rfl, ⟨(.tmp rfl), trivial, rfl, trivial⟩⟩ rfl) rfl rfl (nB rfl) trivial rfl ?_
  refine ADX.eff (tk := [8]) (new := [8]) (s := .one (.own 8 2 1)) (F := [(25, .one (.own 8 2 1))]) (Hin := []) (Hout := [(8, .arr 2 1 (fun _ jc => ([.str ((h.rows.getD k (default : GRow)).name), .tre 4 k] : List AV).getD jc (.con undef)))]) (fun E X hE hX Q rest hk => ?_) trivial ⟨rfl, rfl⟩ rfl rfl rfl rfl ⟨(by repeat first | exact trivial | refine ⟨by decide, by first | rfl | exact trivial | (intro i j; first | rfl | exact getD_no rfl | (dsimp only; split <;> first | rfl | exact getD_no rfl) | exact scl_no (by apply_assumption) _), ?_⟩), trivial⟩ rfl (fun _ e => by cases e; exact nB rfl) ?_
  ·
   refine ARun.slice1 (id := 8) (z := (.agg #[.string ByteArray.empty, .slice none 0 0])) (by_ := 40) rfl (.tmp rfl) (SV.cells_of (by exact ⟨trivial, trivial, trivial⟩)) (by kernel_rfl) rfl rfl (by decide) (by decide) (Fr.ext2 ⟨rfl, (by repeat first | exact trivial | refine ⟨by decide, by first | rfl | exact trivial | (intro i j; first | rfl | exact getD_no rfl | (dsimp only; split <;> first | rfl | exact getD_no rfl) | exact scl_no (by apply_assumption) _), ?_⟩)⟩ hE hX rfl rfl) rfl rfl rfl (nB rfl) ?_
   refine ARun.hleX ?_ ?_ hk
   ·
    exact HeapLe.one rfl trivial
   ·
    repeat (first | exact LkX.refl | refine LkX.cons (hX.none rfl) ?_ | refine LkX.filter (hX.none rfl) ?_)
  refine ADX.eff (tk := [3, 8, 9]) (new := [9]) (s := .one (.own 9 2 (k + 1))) (F := [(26, .one (.own 9 2 (k + 1)))]) (Hin := [(3, .arr 2 k (rowC0 h 4)), (8, .arr 2 1 (fun _ jc => ([.str ((h.rows.getD k (default : GRow)).name), .tre 4 k] : List AV).getD jc (.con undef)))]) (Hout := [(8, .arr 2 1 (fun _ jc => ([.str ((h.rows.getD k (default : GRow)).name), .tre 4 k] : List AV).getD jc (.con undef))), (9, .arr 2 (k + 1) (fun ia ja => if ia < k then (rowC0 h 4 : Nat → Nat → AV) ia ja else (fun _ jc => ([.str ((h.rows.getD k (default : GRow)).name), .tre 4 k] : List AV).getD jc (.con undef) : Nat → Nat → AV) (ia - k) ja))]) (fun E X hE hX Q rest hk => ?_) ⟨rfl, rfl, trivial⟩ ⟨rfl, rfl⟩ rfl rfl rfl rfl ⟨(by repeat first | exact trivial | refine ⟨by decide, by first | rfl | exact trivial | (intro i j; first | rfl | exact getD_no rfl | (dsimp only; split <;> first | rfl | exact getD_no rfl) | exact scl_no (by apply_assumption) _), ?_⟩), trivial⟩ rfl (fun _ e => by cases e; exact nB rfl) ?_
  ·
   refine ARun.append (id := 9) (sz := 2) (n := k) (m := 1) (by_ := 40) (z := (.agg #[.string ByteArray.empty, .slice none 0 0])) (f := rowC0 h 4) (g := fun _ jc => ([.str ((h.rows.getD k (default : GRow)).name), .tre 4 k] : List AV).getD jc (.con undef)) (h := fun ia ja => if ia < k then (rowC0 h 4 : Nat → Nat → AV) ia ja else (fun _ jc => ([.str ((h.rows.getD k (default : GRow)).name), .tre 4 k] : List AV).getD jc (.con undef) : Nat → Nat → AV) (ia - k) ja) rfl (by kernel_rfl) rfl f35_ (.own (.tmp rfl) rfl rfl rfl (Nat.le_refl _) (fun _ _ _ _ => rfl)) (.own (.tmp rfl) rfl rfl (Nat.le_refl _) (fun _ _ _ _ => rfl)) (by decide) (fun i j hi hj => match j, hj with | 0, _ => rfl | 1, _ => rfl | _ + 2, h => absurd h (by omega)) (fun _ _ _ _ => rfl) (by omega) (by omega) (Fr.ext2 ⟨rfl, (by repeat first | exact trivial | refine ⟨by decide, by first | rfl | exact trivial | (intro i j; first | rfl | exact getD_no rfl | (dsimp only; split <;> first | rfl | exact getD_no rfl) | exact scl_no (by apply_assumption) _), ?_⟩)⟩ hE hX rfl rfl) (fun i j => by dsimp only; (repeat' split) <;> first | rfl | exact getD_no rfl) rfl rfl (nB rfl) ?_
   refine ARun.hleX ?_ ?_ hk
   ·
    exact HeapLe.one rfl (HeapLe.one rfl trivial)
   ·
    repeat (first | exact LkX.refl | refine LkX.cons (hX.none rfl) ?_ | refine LkX.filter (hX.none rfl) ?_)
  refine ADX.pure [] (PureOp.fieldPtr rfl (.tmp rfl) f29_) rfl rfl (nB rfl) trivial rfl ?_
  refine ADX.eff (tk := [2]) (new := []) (s := .one (.con undef)) (F := []) (Hin := [(2, .cells [.own 3 2 k, .int .i64 h.offset])]) (Hout := [(2, .cells [.own 9 2 (k + 1), .int .i64 h.offset])]) (fun E X hE hX Q rest hk => ?_) ⟨rfl, trivial⟩ ⟨rfl, rfl⟩ rfl rfl rfl rfl trivial rfl (fun _ e => by cases e) ?_
  ·
   refine ARun.store rfl (.tmp rfl) (.tmp rfl) trivial rfl (nB rfl) f36_ rfl rfl ?_
   refine ARun.hleX ?_ ?_ hk
   ·
    exact HeapLe.one rfl trivial
   ·
    repeat (first | exact LkX.refl | refine LkX.cons (hX.none rfl) ?_ | refine LkX.filter (hX.none rfl) ?_)
  refine ADX.nil (H := [(1, .cells [.con (.slice none 0 0), .int .i64 0]), (2, .cells [.own 9 2 (k + 1), .int .i64 h.offset]), (4, .trees (k + 1) (rowX0 h)), (5, .cells [.str ((h.rows.getD k (default : GRow)).name), .lst 2 (((h.rows.getD k (default : GRow)).samples).length) (fun i0 j0 => ([.int .i64 ((((h.rows.getD k (default : GRow)).samples).getD i0 (default : GSample)).at_), .int .i64 ((((h.rows.getD k (default : GRow)).samples).getD i0 (default : GSample)).value)] : List AV).getD j0 (.con undef))]), (8, .arr 2 1 (fun _ jc => ([.str ((h.rows.getD k (default : GRow)).name), .tre 4 k] : List AV).getD jc (.con undef))), (9, .arr 2 (k + 1) (fun ia ja => if ia < k then (rowC0 h 4 : Nat → Nat → AV) ia ja else (fun _ jc => ([.str ((h.rows.getD k (default : GRow)).name), .tre 4 k] : List AV).getD jc (.con undef) : Nat → Nat → AV) (ia - k) ja))]) ?_ ?_
  ·
   exact HeapLe.one rfl (HeapLe.one rfl (HeapLe.one rfl (HeapLe.one rfl (HeapLe.one rfl (HeapLe.one rfl trivial)))))
  refine AW.region ?_
  refine pu (.add (c := ((k + 1 : Nat) : Int)) rfl (.tmp rfl) .int (by rw [wrap_id (by omega) (by omega)]; omega)) rfl rfl rfl ?_
  refine pu (.move rfl (.tmp rfl)) rfl rfl rfl ?_
  refine ARun.nil ?_
  exact ⟨k + 1, (swp 3 9), (show k + 1 ≤ h.rows.length from by omega), by dsimp only; omega, swp_inj, (swp_fix rfl rfl), ⟨⟨⟨_, rfl, rfl⟩, ⟨_, rfl, rfl⟩, ⟨_, rfl, rfl⟩, ⟨_, rfl, rfl⟩, ⟨_, rfl, rfl⟩, trivial⟩, ⟨⟨_, rfl, rfl, Nat.le_refl _, fun _ _ _ _ => rfl⟩, ⟨_, rfl, rfl, Nat.le_refl _, fun _ _ _ _ => rfl⟩, ⟨_, rfl, rfl, Nat.le_refl _, fun i j hi (hj : j < 2) => match j, hj with | 0, _ => app_at (show i < k + 1 from hi) (fun _ => rfl) (fun hik => by subst hik; rfl) | 1, _ => app_at (show i < k + 1 from hi) (fun _ => rfl) (fun h => by subst h; rfl) | _ + 2, h => absurd h (by omega)⟩, ⟨rowX0 h, rfl, fun _ _ => rfl⟩, trivial⟩⟩⟩
 ·
  replace hb1 := of_decide_eq_false hb1
  have hkl : ¬ k < h.rows.length := by omega
  have hke : k = h.rows.length := by omega
  refine AW.exit ?_
  refine AW.seq ?_
  refine AW.region ?_
  refine pu (.loadPtrAgg rfl (.tmp rfl) f26_ rfl rfl (nB rfl) (nB rfl)) rfl rfl rfl ?_
  refine ARun.store rfl (.tmp rfl) (.tmp rfl) (SV.cells_of (by exact ⟨trivial, trivial, trivial⟩)) rfl (nB rfl) f37_ rfl rfl ?_
  refine ARun.nil ?_
  exact AW.ret (show ∃ s t, ResL _ _ [.cell 2 25] s ∧ TvS _ (ofLeaf t) 0 s _ from ⟨_, fun a b => if a = 3 then 0 else if a = 4 then 0 else 1000, .inl ⟨_, rfl, .cells rfl f26_ rfl rfl (nB rfl) (nB rfl)⟩, ⟨(Tv.colK (K := 4) (c := 1) (X := rowX0 h) hke.symm rfl rfl rfl (Nat.le_refl _) (by rfl) (fun i j hi hj hne => match j, hj, hne with | 0, _, _ => ⟨rfl, rfl⟩ | 1, _, h => absurd rfl h | _ + 2, h, _ => absurd h (by omega)) (fun i hi => ⟨rfl, rfl⟩) rfl (by decide) (fun _ => by rfl)), .int, trivial⟩⟩)
end Go.Proofs.YtonfeiloekofdaaGreatDoor

namespace Go.Proofs.YtonfeiloekofdaaGreatDoor
open Go.ChangeShapes Go.WideShapes Go.ChangeAt Go.RowKit Go.BigFrame Go.Deep
set_option linter.unusedVariables false
set_option linter.unusedSimpArgs false
def insF (f g : Nat → Nat → AV) (i a b : Nat) : AV := if a < i then f a b else if a = i then g 0 b else f (a - 1) b
structure CellsOk (f : Nat → Nat → AV) : Prop where
  oc : ∀ a b, b < 2 → (f a b).oc = true
  no : ∀ k, k < 1000000 → ∀ a b, (f a b).no k = true
end Go.Proofs.YtonfeiloekofdaaGreatDoor

namespace Go.Proofs.YtonfeiloekofdaaGreatDoor
open Go.ChangeShapes Go.WideShapes Go.ChangeAt Go.RowKit Go.BigFrame Go.Deep
set_option linter.unusedVariables false
set_option linter.unusedSimpArgs false
theorem PureOp.strAdd {P : Program} {σ : Sig} {o : Oper} {t t' : TypeId} {x y : Operand} {a b : ByteArray} (ho : o.op = .binOp .add t x y t') (hx : Kn σ x (.one (.str a))) (hy : Kn σ y (.one (.str b))) (hs : a.size + b.size ≤ 1000000000) : PureOp P o σ (.one (.str (a ++ b))) := by
  refine PureOp.val fun N w0 ρ S ac w hst => ?_
  have e1 : ac.eval x = .string a := (hx.sound hst).1
  have e2 : ac.eval y = .string b := (hy.sound hst).1
  refine ⟨.string (a ++ b), ⟨rfl, by rw [ByteArray.size_append]; unfold maxLen; omega⟩, fun w' _ => ?_⟩
  generalize ac.eval = ev at e1 e2 ⊢
  have hm : ¬ ((a.size + b.size : Nat) : Int) > IntKind.i64.max := by
    have : IntKind.i64.max = 9223372036854775807 := by decide
    rw [this]; omega
  simp only [execOp, ho, e1, e2, Sem.run_bind, eqGuard, Result.andThen_ok, binOp, Op.stringOp]
  rw [if_neg hm]
  simp [go_sem]
end Go.Proofs.YtonfeiloekofdaaGreatDoor

namespace Go.Proofs.YtonfeiloekofdaaGreatDoor
open Go.ChangeShapes Go.WideShapes Go.ChangeAt Go.RowKit Go.BigFrame Go.Deep
set_option linter.unusedVariables false
set_option linter.unusedSimpArgs false
theorem f39_ : callB Tryz.prog 64 = true := by kernel_rfl
theorem vtx_cv_3_5_.u8 : convB Tryz.prog 3 5 .u8 = true := by kernel_rfl
def ren_n171 : Shelf.Ren where
  f := fun x => match x with | 171 => 60 | 243 => 77 | 246 => 83 | 283 => 93 | 284 => 94 | 285 => 95 | 286 => 96 | 129 => 105 | 317 => 104 | 318 => 106 | 319 => 107 | 320 => 108 | 337 => 116 | 338 => 117 | n => n
  t := fun x => match x with | 3 => 3 | 9 => 9 | 2 => 2 | 4 => 4 | 171 => 119 | 0 => 0 | 53 => 59 | 37 => 22 | 5 => 5 | 173 => 122 | 212 => 135 | 51 => 136 | 20 => 20 | 213 => 137 | 46 => 108 | 232 => 151 | 233 => 152 | n => n
  g := fun x => match x with | 17 => 3 | 18 => 6 | 19 => 7 | n => n
theorem lays_n171 : Lays.n171 Tryz.prog ren_n171 where
  mixed := by kernel_rfl
  f129 := by kernel_rfl
  f171 := by kernel_rfl
  f243 := by kernel_rfl
  f246 := by kernel_rfl
  f283 := by kernel_rfl
  f284 := by kernel_rfl
  f285 := by kernel_rfl
  f286 := by kernel_rfl
  f317 := by kernel_rfl
  f318 := by kernel_rfl
  f319 := by kernel_rfl
  f320 := by kernel_rfl
  f337 := by kernel_rfl
  f338 := by kernel_rfl
  t0 := Tryz.underlying0
  a0 := Tryz.isAgg0
  z0 := Tryz.sizeOf0
  v0 := Tryz.zeroValue0
  t2 := Tryz.underlying2
  a2 := Tryz.isAgg2
  z2 := Tryz.sizeOf2
  v2 := Tryz.zeroValue2
  t3 := Tryz.underlying3
  a3 := Tryz.isAgg3
  z3 := Tryz.sizeOf3
  v3 := Tryz.zeroValue3
  t4 := Tryz.underlying4
  a4 := Tryz.isAgg4
  z4 := Tryz.sizeOf4
  v4 := Tryz.zeroValue4
  t5 := Tryz.underlying5
  a5 := Tryz.isAgg5
  z5 := Tryz.sizeOf5
  v5 := Tryz.zeroValue5
  t9 := Tryz.underlying9
  a9 := Tryz.isAgg9
  z9 := Tryz.sizeOf9
  v9 := Tryz.zeroValue9
  t20 := Tryz.underlying20
  a20 := Tryz.isAgg20
  z20 := Tryz.sizeOf20
  v20 := Tryz.zeroValue20
  t37 := Tryz.underlying22
  a37 := Tryz.isAgg22
  z37 := Tryz.sizeOf22
  v37 := Tryz.zeroValue22
  t46 := Tryz.underlying108
  a46 := Tryz.isAgg108
  z46 := Tryz.sizeOf108
  v46 := Tryz.zeroValue108
  t51 := Tryz.underlying136
  a51 := Tryz.isAgg136
  z51 := Tryz.sizeOf136
  v51 := Tryz.zeroValue136
  t53 := Tryz.underlying59
  a53 := Tryz.isAgg59
  z53 := Tryz.sizeOf59
  v53 := Tryz.zeroValue59
  t171 := Tryz.underlying119
  a171 := Tryz.isAgg119
  z171 := Tryz.sizeOf119
  v171 := Tryz.zeroValue119
  t173 := Tryz.underlying122
  a173 := Tryz.isAgg122
  z173 := Tryz.sizeOf122
  v173 := Tryz.zeroValue122
  t212 := Tryz.underlying135
  a212 := Tryz.isAgg135
  z212 := Tryz.sizeOf135
  v212 := Tryz.zeroValue135
  t213 := Tryz.underlying137
  a213 := Tryz.isAgg137
  z213 := Tryz.sizeOf137
  t232 := Tryz.underlying151
  a232 := Tryz.isAgg151
  z232 := Tryz.sizeOf151
  v232 := Tryz.zeroValue151
  t233 := Tryz.underlying152
  a233 := Tryz.isAgg152
  z233 := Tryz.sizeOf152
  v233 := Tryz.zeroValue152
  g17 := by kernel_rfl
  g18 := by kernel_rfl
  g19 := by kernel_rfl
theorem laysM_n171 : LaysM.n171 Tryz.prog ren_n171 := { lays_n171 with
  i0 := by kernel_rfl,
  i2 := by kernel_rfl,
  i3 := by kernel_rfl,
  i4 := by kernel_rfl,
  i5 := by kernel_rfl,
  i9 := by kernel_rfl,
  i20 := by kernel_rfl,
  i37 := by kernel_rfl,
  i46 := by kernel_rfl,
  i51 := by kernel_rfl,
  i53 := by kernel_rfl,
  i171 := by kernel_rfl,
  i173 := by kernel_rfl,
  i212 := by kernel_rfl,
  i232 := by kernel_rfl,
  i233 := by kernel_rfl,
  m17 := by kernel_rfl,
  m18 := by kernel_rfl,
  m19 := by kernel_rfl }
def itoaB (z : Int) : ByteArray := ⟨(Lib.itoa z).toArray⟩
theorem itoaB_size {z : Int} (h0 : -9223372036854775808 ≤ z) (h1 : z ≤ 9223372036854775807) : (itoaB z).size ≤ 21 := by
  have := Lib.itoa_length_le z h0 h1
  simpa [itoaB, ByteArray.size] using this
theorem itoaB_plain {z : Int} (h0 : -9223372036854775808 ≤ z) (h1 : z ≤ 9223372036854775807) : (itoaB z).size ≤ maxLen := Nat.le_trans (itoaB_size h0 h1) (by decide)
theorem itoaB_small {n : Nat} (h : n < 10) : itoaB (n : Int) = ⟨#[UInt8.ofNat (48 + n)]⟩ := by
  unfold itoaB; rw [Lib.itoa_nonneg, Lib.decDigits_one h]
theorem itoaB_step {n : Nat} (h : ¬ n < 10) : itoaB (n : Int) = itoaB ((n / 10 : Nat) : Int) ++ ⟨#[UInt8.ofNat (48 + n % 10)]⟩ := by
  unfold itoaB
  rw [Lib.itoa_nonneg, Lib.itoa_nonneg, Lib.decDigits, dif_neg h]
  apply ByteArray.ext
  simp
theorem itoaB_neg {z : Int} (h : z < 0) : (⟨#[45]⟩ : ByteArray) ++ itoaB (-z) = itoaB z := by
  obtain ⟨u, rfl⟩ : ∃ u : Nat, z = -(u : Int) := ⟨z.natAbs, by omega⟩
  unfold itoaB
  rw [Lib.itoa_neg u (by omega), Int.neg_neg, Lib.itoa_nonneg]
  apply ByteArray.ext
  simp
theorem dig_byte {n : Nat} (h : n < 10) : ((UInt8.ofNat (48 + n)).toNat : Int) = 48 + (n : Int) := by
  rw [UInt8.toNat_ofNat']; omega
theorem v_Itoa (z : Int) (h0 : -9223372036854775808 ≤ z) (h1 : z ≤ 9223372036854775807) : Fn Tryz.prog 60 [.one (.int .i64 z)] (.one (.str (itoaB z))) := by
  intro w S vs hS hd
  obtain ⟨v, vs1, rfl, e1, h3⟩ := hd
  obtain rfl : vs1 = [] := h3
  obtain rfl : v = .int .i64 z := e1
  refine (Any.strconv_Itoa laysM_n171 z h0 h1 w hS.pre.tab).mono fun e w' ⟨he, k, os, hw⟩ => ⟨he, ?_⟩
  subst hw
  exact ⟨rfl, rfl, rfl, by show w.heap.size ≤ (w.heap ++ os).size; rw [Array.size_append]; omega, fun i hi => by
    show ((w.drewN k).heap ++ os)[i]? = _
    rw [Array.getElem?_append_left (by show i < w.heap.size; omega)]; rfl⟩
theorem v_NumS (n : Nat) (hn : n ≤ 9223372036854775807) (ih : ∀ m : Nat, m < n → Fn Tryz.prog 64 [.one (.int .i64 (m : Int))] (.one (.str (itoaB (m : Int))))) : Fn Tryz.prog 64 [.one (.int .i64 (n : Int))] (.one (.str (itoaB (n : Int)))) := by
 have hq : n / 10 < n ∨ n < 10 := by omega
 have hr : n % 10 < 10 := Nat.mod_lt _ (by decide)
 have hsz : (itoaB ((n / 10 : Nat) : Int)).size ≤ 21 := itoaB_size (by omega) (by omega)
 refine Fn.of_body (fn := Tryz.f64) Tryz.func64 rfl (nB rfl) (itoaB_plain (by omega) (by omega)) ?_
 intro w0
 show AW _ 20 _ _ _ _
 refine AW.seq ?_
 refine AW.region ?_
 refine pu (.assign rfl (.str (by decide))) rfl rfl rfl ?_
 refine ARun.nil ?_
 refine AW.seq ?_
 refine AW.seq ?_
 refine AW.region ?_
 refine pu (.move rfl (.tmp rfl)) rfl rfl rfl ?_
 refine pu (.intOp rfl (.tmp rfl) .int rfl) rfl rfl rfl ?_
 refine ARun.nil ?_
 refine AW.cond (.tmp rfl) (fun hb1 => ?_) (fun hb1 => ?_)
 ·
  replace hb1 := of_decide_eq_true hb1
  have hlt : n < 10 := by omega
  refine AW.seq ?_
  refine AW.region ?_
  refine pu (.move rfl (.tmp rfl)) rfl rfl rfl ?_
  refine pu (.add (c := ((48 + n : Nat) : Int)) rfl .int (.tmp rfl) (by rw [wrap_id (by omega) (by omega)]; omega)) rfl rfl rfl ?_
  refine pu (.conv (b := ((48 + n : Nat) : Int)) rfl (.tmp rfl) vtx_cv_3_5_.u8 (by rw [IntKind.wrap_u8]; omega)) rfl rfl rfl ?_
  refine ARun.fresh (FreshOp.byte1 (a1 := ((48 + n : Nat) : Int)) rfl (.tmp rfl) Tryz.underlying22 (by kernel_rfl)) rfl rfl (nB rfl) ?_
  refine pu (.byteStr (c := UInt8.ofNat (48 + n)) rfl (.frs (.tmp rfl)) (congrArg (fun z : Int => AV.int .u8 z) (by rw [dig_byte hlt]; omega)) Tryz.underlying22 Tryz.underlying5 Tryz.underlying9) rfl rfl rfl ?_
  refine pu (.assign rfl (.tmp rfl)) rfl rfl rfl ?_
  refine ARun.nil ?_
  refine AW.ret (show ResL _ _ [.tmp 2] _ from resS rfl ?_)
  exact (itoaB_small hlt).symm
 ·
  replace hb1 := of_decide_eq_false hb1
  have hlt : ¬ n < 10 := by omega
  refine AW.skip ?_
  refine AW.seq ?_
  refine AW.any (by kernel_rfl) (by kernel_rfl) ?_
  refine AD.pure (PureOp.move rfl (.tmp rfl)) rfl rfl (nB rfl) ?_
  refine AD.pure (PureOp.quo (a := n) (b := 10) rfl (.tmp rfl) .int rfl (by decide) (by omega)) rfl rfl (nB rfl) ?_
  refine AD.pure (PureOp.call rfl (ih (n / 10) (by omega)) ⟨⟨_, (.tmp rfl), .int⟩, trivial⟩ f39_ (itoaB_plain (by omega) (by omega))) rfl rfl (nB rfl) ?_
  refine AD.pure (PureOp.move rfl (.tmp rfl)) rfl rfl (nB rfl) ?_
  refine AD.pure (PureOp.rem (a := n) (b := 10) rfl (.tmp rfl) .int rfl (by decide) (by omega)) rfl rfl (nB rfl) ?_
  refine AD.pure (PureOp.add (c := ((48 + n % 10 : Nat) : Int)) rfl .int (.tmp rfl) (by rw [wrap_id (by omega) (by omega)]; omega)) rfl rfl (nB rfl) ?_
  refine AD.pure (PureOp.conv (b := ((48 + n % 10 : Nat) : Int)) rfl (.tmp rfl) vtx_cv_3_5_.u8 (by rw [IntKind.wrap_u8]; omega)) rfl rfl (nB rfl) ?_
  refine AD.fresh (FreshOp.byte1 (a1 := ((48 + n % 10 : Nat) : Int)) rfl (.tmp rfl) Tryz.underlying22 (by kernel_rfl)) rfl rfl (nB rfl) ?_
  refine AD.pure (PureOp.byteStr (c := UInt8.ofNat (48 + n % 10)) rfl (.frs (.tmp rfl)) (congrArg (fun z : Int => AV.int .u8 z) (by rw [dig_byte hr]; omega)) Tryz.underlying22 Tryz.underlying5 Tryz.underlying9) rfl rfl (nB rfl) ?_
  refine AD.pure (PureOp.strAdd rfl (.tmp rfl) (.tmp rfl) (by have h1 : (⟨#[UInt8.ofNat (48 + n % 10)]⟩ : ByteArray).size = 1 := rfl; omega)) rfl rfl (nB rfl) ?_
  refine AD.pure (PureOp.assign rfl (.tmp rfl)) rfl rfl (nB rfl) ?_
  refine AD.nil ?_
  refine AW.ret (show ResL _ _ [.tmp 2] _ from resS rfl ?_)
  exact (itoaB_step hlt).symm
theorem v_Num (n : Nat) (hn : n ≤ 9223372036854775807) : Fn Tryz.prog 64 [.one (.int .i64 (n : Int))] (.one (.str (itoaB (n : Int)))) := by
  induction n using Nat.strongRecOn with
  | _ n ih => exact v_NumS n hn fun m hm => ih m hm (by omega)
theorem v_NumI (z : Int) (h0 : 0 ≤ z) (h1 : z ≤ 9223372036854775807) : Fn Tryz.prog 64 [.one (.int .i64 z)] (.one (.str (itoaB z))) := by
  obtain ⟨n, rfl⟩ : ∃ n : Nat, z = n := ⟨z.toNat, by omega⟩
  exact v_Num n (by omega)
theorem v_Text (z : Int) (hz : -9223372036854775807 ≤ z ∧ z ≤ 9223372036854775807) : Fn Tryz.prog 69 [.one (.int .i64 z)] (.one (.str (itoaB z))) := by
 obtain ⟨hz0, hz1⟩ := hz
 refine Fn.of_body (fn := Tryz.f69) Tryz.func69 rfl (nB rfl) (itoaB_plain (by omega) (by omega)) ?_
 intro w0
 show AW _ 11 _ _ _ _
 refine AW.seq ?_
 refine AW.region ?_
 refine pu (.assign rfl (.str (by decide))) rfl rfl rfl ?_
 refine ARun.nil ?_
 refine AW.seq ?_
 refine AW.seq ?_
 refine AW.region ?_
 refine pu (.move rfl (.tmp rfl)) rfl rfl rfl ?_
 refine pu (.intOp rfl (.tmp rfl) .int rfl) rfl rfl rfl ?_
 refine ARun.nil ?_
 refine AW.cond (.tmp rfl) (fun hb1 => ?_) (fun hb1 => ?_)
 ·
  replace hb1 := of_decide_eq_true hb1
  have hsz : (itoaB (-z)).size ≤ 21 := itoaB_size (by omega) (by omega)
  refine AW.seq ?_
  refine AW.region ?_
  refine pu (.move rfl (.tmp rfl)) rfl rfl rfl ?_
  refine pu (.neg (b := -z) rfl (.tmp rfl) (wrap_id (by omega) (by omega))) rfl rfl rfl ?_
  refine pu (.call rfl (v_NumI (-z) (by omega) (by omega)) ⟨⟨_, (.tmp rfl), .int⟩, trivial⟩ f39_ (itoaB_plain (by omega) (by omega))) rfl rfl rfl ?_
  refine pu (.strAdd rfl (.str (by decide)) (.tmp rfl) (by have h1 : (⟨#[45]⟩ : ByteArray).size = 1 := rfl; omega)) rfl rfl rfl ?_
  refine pu (.assign rfl (.tmp rfl)) rfl rfl rfl ?_
  refine ARun.nil ?_
  refine AW.ret (show ResL _ _ [.tmp 2] _ from resS rfl ?_)
  exact itoaB_neg hb1
 ·
  replace hb1 := of_decide_eq_false hb1
  refine AW.skip ?_
  refine AW.seq ?_
  refine AW.region ?_
  refine pu (.move rfl (.tmp rfl)) rfl rfl rfl ?_
  refine pu (.call rfl (v_NumI z (by omega) (by omega)) ⟨⟨_, (.tmp rfl), .int⟩, trivial⟩ f39_ (itoaB_plain (by omega) (by omega))) rfl rfl rfl ?_
  refine pu (.assign rfl (.tmp rfl)) rfl rfl rfl ?_
  refine ARun.nil ?_
  refine AW.ret (show ResL _ _ [.tmp 2] _ from resS rfl ?_)
  rfl
end Go.Proofs.YtonfeiloekofdaaGreatDoor

namespace Go.Proofs.YtonfeiloekofdaaGreatDoor
open Go.ChangeShapes Go.WideShapes Go.ChangeAt Go.RowKit Go.BigFrame Go.Deep
set_option linter.unusedVariables false
set_option linter.unusedSimpArgs false
theorem f40_ : callB Tryz.prog 57 = true := by kernel_rfl
theorem f41_ : callB Tryz.prog 60 = true := by kernel_rfl
theorem f42_ : callB Tryz.prog 62 = true := by kernel_rfl
theorem f43_ : callB Tryz.prog 69 = true := by kernel_rfl
theorem f44_ : callB Tryz.prog 70 = true := by kernel_rfl
theorem f45_ : fieldB Tryz.prog 34 0 0 = true := by kernel_rfl
theorem f46_ : fieldB Tryz.prog 34 1 1 = true := by kernel_rfl
theorem f47_ : fieldB Tryz.prog 34 2 2 = true := by kernel_rfl
theorem f48_ : fieldB Tryz.prog 47 0 0 = true := by kernel_rfl
theorem f49_ : fieldB Tryz.prog 47 1 1 = true := by kernel_rfl
def sayB (x : GSay) : Bool :=
  cond (cond (nameB x.name false) (inB 0 1000000000 x.at_) false) (inB (-1000000000) 1000000000 x.value) false
theorem v_l13Say (x : GSay) : Fn Tryz.prog 46 [.agg [.str x.name, .int .i64 x.at_, .int .i64 x.value]] (.one (.bool (sayB x))) := by
 refine Fn.of_body (fn := Tryz.f46) Tryz.func46 rfl (nB rfl) trivial ?_
 intro w0
 show AW _ 16 _ _ _ _
 refine AW.seq ?_
 refine AW.region ?_
 refine ARun.box (id := 0) rfl (.tmp rfl) (SV.cells_of (by exact ⟨trivial, trivial, trivial, trivial⟩)) ⟨rfl, (by repeat first | exact trivial | refine ⟨by decide, by first | rfl | exact trivial | (intro i j; first | rfl | exact getD_no rfl | (dsimp only; split <;> first | rfl | exact getD_no rfl) | exact scl_no (by apply_assumption) _), ?_⟩)⟩ rfl rfl rfl (nB rfl) ?_
 refine pu (.assign rfl .bool) rfl rfl rfl ?_
 refine ARun.nil ?_
 refine AW.seq ?_
 refine AW.region ?_
 refine pu (.fieldPtr rfl (.tmp rfl) f45_) rfl rfl rfl ?_
 refine pu (.loadPtr rfl (.tmp rfl) f12_ rfl rfl (nB rfl) (nB rfl)) rfl rfl rfl ?_
 refine pu (.call rfl (v_l3Name x.name false) ⟨⟨_, (.tmp rfl), .str⟩, ⟨_, .bool, .bool⟩, trivial⟩ f42_ trivial) rfl rfl rfl ?_
 refine pu (.move rfl (.tmp rfl)) rfl rfl rfl ?_
 refine ARun.gpure (want := true) (.tt rfl) (fun hg1 => PureOp.fieldPtr rfl (.tmp rfl) f46_) rfl rfl (nB rfl) rfl (nB rfl) ?_
 refine ARun.gpure (want := true) (.tt rfl) (fun hg2 => PureOp.loadPtr rfl (.gtmp rfl hg2) f9_ rfl rfl (nB rfl) (nB rfl)) rfl rfl (nB rfl) rfl (nB rfl) ?_
 refine ARun.gpure (want := true) (.tt rfl) (fun hg3 => PureOp.call rfl (v_l1In x.at_ 0 1000000000) ⟨⟨_, (.gtmp rfl hg3), .int⟩, ⟨_, .int, .int⟩, ⟨_, .int, .int⟩, trivial⟩ f18_ trivial) rfl rfl (nB rfl) rfl (nB rfl) ?_
 refine pu (.pick rfl (.tmp rfl) (fun hp4 => .gtmp rfl hp4) (fun _ => .bool)) rfl rfl rfl ?_
 refine pu (.move rfl (.tmp rfl)) rfl rfl rfl ?_
 refine ARun.gpure (want := true) (.tt rfl) (fun hg6 => PureOp.fieldPtr rfl (.tmp rfl) f47_) rfl rfl (nB rfl) rfl (nB rfl) ?_
 refine ARun.gpure (want := true) (.tt rfl) (fun hg7 => PureOp.loadPtr rfl (.gtmp rfl hg7) f9_ rfl rfl (nB rfl) (nB rfl)) rfl rfl (nB rfl) rfl (nB rfl) ?_
 refine ARun.gpure (want := true) (.tt rfl) (fun hg8 => PureOp.call rfl (v_l1In x.value (-1000000000) 1000000000) ⟨⟨_, (.gtmp rfl hg8), .int⟩, ⟨_, .int, .int⟩, ⟨_, .int, .int⟩, trivial⟩ f18_ trivial) rfl rfl (nB rfl) rfl (nB rfl) ?_
 refine pu (.pick rfl (.tmp rfl) (fun hp9 => .gtmp rfl hp9) (fun _ => .bool)) rfl rfl rfl ?_
 refine pu (.assign rfl (.tmp rfl)) rfl rfl rfl ?_
 refine ARun.nil ?_
 refine AW.ret (show ResL _ _ [.tmp 2] _ from resB rfl ?_)
 rfl
def isSampleB (x : GSample) : Bool :=
  cond (inB 0 1000000000 x.at_) (inB (-1000000000) 1000000000 x.value) false
theorem v_isSample (x : GSample) : Fn Tryz.prog 70 [.agg [.int .i64 x.at_, .int .i64 x.value]] (.one (.bool (isSampleB x))) := by
 refine Fn.of_body (fn := Tryz.f70) Tryz.func70 rfl (nB rfl) trivial ?_
 intro w0
 show AW _ 11 _ _ _ _
 refine AW.seq ?_
 refine AW.region ?_
 refine ARun.box (id := 0) rfl (.tmp rfl) (SV.cells_of (by exact ⟨trivial, trivial, trivial⟩)) ⟨rfl, (by repeat first | exact trivial | refine ⟨by decide, by first | rfl | exact trivial | (intro i j; first | rfl | exact getD_no rfl | (dsimp only; split <;> first | rfl | exact getD_no rfl) | exact scl_no (by apply_assumption) _), ?_⟩)⟩ rfl rfl rfl (nB rfl) ?_
 refine pu (.assign rfl .bool) rfl rfl rfl ?_
 refine ARun.nil ?_
 refine AW.seq ?_
 refine AW.region ?_
 refine pu (.fieldPtr rfl (.tmp rfl) f48_) rfl rfl rfl ?_
 refine pu (.loadPtr rfl (.tmp rfl) f9_ rfl rfl (nB rfl) (nB rfl)) rfl rfl rfl ?_
 refine pu (.call rfl (v_within x.at_ 0 1000000000) ⟨⟨_, (.tmp rfl), .int⟩, ⟨_, .int, .int⟩, ⟨_, .int, .int⟩, trivial⟩ f19_ trivial) rfl rfl rfl ?_
 refine pu (.move rfl (.tmp rfl)) rfl rfl rfl ?_
 refine ARun.gpure (want := true) (.tt rfl) (fun hg1 => PureOp.fieldPtr rfl (.tmp rfl) f49_) rfl rfl (nB rfl) rfl (nB rfl) ?_
 refine ARun.gpure (want := true) (.tt rfl) (fun hg2 => PureOp.loadPtr rfl (.gtmp rfl hg2) f9_ rfl rfl (nB rfl) (nB rfl)) rfl rfl (nB rfl) rfl (nB rfl) ?_
 refine ARun.gpure (want := true) (.tt rfl) (fun hg3 => PureOp.call rfl (v_within x.value (-1000000000) 1000000000) ⟨⟨_, (.gtmp rfl hg3), .int⟩, ⟨_, .int, .int⟩, ⟨_, .int, .int⟩, trivial⟩ f19_ trivial) rfl rfl (nB rfl) rfl (nB rfl) ?_
 refine pu (.pick rfl (.tmp rfl) (fun hp4 => .gtmp rfl hp4) (fun _ => .bool)) rfl rfl rfl ?_
 refine pu (.assign rfl (.tmp rfl)) rfl rfl rfl ?_
 refine ARun.nil ?_
 refine AW.ret (show ResL _ _ [.tmp 2] _ from resB rfl ?_)
 rfl
def sayBI (x : GSay) : Bool :=
  cond (nameB x.name false) (isSampleB (⟨x.at_, x.value⟩ : GSample)) false
theorem sayB_eq (x : GSay) : sayBI x = sayB x := by
  unfold sayBI sayB isSampleB
  generalize nameB _ false = a1
  generalize inB 0 _ _ = a2
  generalize inB (-1000000000) _ _ = a3
  revert a1 a2 a3; decide
theorem v_isSay (x : GSay) : Fn Tryz.prog 44 [.agg [.str x.name, .int .i64 x.at_, .int .i64 x.value]] (.one (.bool (sayB x))) := by
 refine Fn.of_body (fn := Tryz.f44) Tryz.func44 rfl (nB rfl) trivial ?_
 intro w0
 show AW _ 14 _ _ _ _
 refine AW.seq ?_
 refine AW.region ?_
 refine ARun.box (id := 0) rfl (.tmp rfl) (SV.cells_of (by exact ⟨trivial, trivial, trivial, trivial⟩)) ⟨rfl, (by repeat first | exact trivial | refine ⟨by decide, by first | rfl | exact trivial | (intro i j; first | rfl | exact getD_no rfl | (dsimp only; split <;> first | rfl | exact getD_no rfl) | exact scl_no (by apply_assumption) _), ?_⟩)⟩ rfl rfl rfl (nB rfl) ?_
 refine pu (.assign rfl .bool) rfl rfl rfl ?_
 refine ARun.nil ?_
 refine AW.seq ?_
 refine AW.region ?_
 refine pu (.fieldPtr rfl (.tmp rfl) f45_) rfl rfl rfl ?_
 refine pu (.loadPtr rfl (.tmp rfl) f12_ rfl rfl (nB rfl) (nB rfl)) rfl rfl rfl ?_
 refine pu (.call rfl (v_isWord x.name false) ⟨⟨_, (.tmp rfl), .str⟩, ⟨_, .bool, .bool⟩, trivial⟩ f40_ trivial) rfl rfl rfl ?_
 refine pu (.move rfl (.tmp rfl)) rfl rfl rfl ?_
 refine ARun.gpure (want := true) (.tt rfl) (fun hg1 => PureOp.fieldPtr rfl (.tmp rfl) f46_) rfl rfl (nB rfl) rfl (nB rfl) ?_
 refine ARun.gpure (want := true) (.tt rfl) (fun hg2 => PureOp.loadPtr rfl (.gtmp rfl hg2) f9_ rfl rfl (nB rfl) (nB rfl)) rfl rfl (nB rfl) rfl (nB rfl) ?_
 refine ARun.gpure (want := true) (.tt rfl) (fun hg3 => PureOp.fieldPtr rfl (.tmp rfl) f47_) rfl rfl (nB rfl) rfl (nB rfl) ?_
 refine ARun.gpure (want := true) (.tt rfl) (fun hg4 => PureOp.loadPtr rfl (.gtmp rfl hg4) f9_ rfl rfl (nB rfl) (nB rfl)) rfl rfl (nB rfl) rfl (nB rfl) ?_
 refine ARun.gpure (want := true) (.tt rfl) (fun hg5 => PureOp.build (ys := [.int .i64 x.at_, .int .i64 x.value]) (l := [.int .i64 0, .int .i64 0]) (pl := [(0, 1), (1, 1)]) (z := (.agg #[.int .i64 0, .int .i64 0])) rfl (by kernel_rfl) (by kernel_rfl) (fun _ _ _ => ⟨_, _, rfl, rfl, ⟨_, _, rfl, rfl, rfl⟩⟩) ⟨(.gtmp rfl hg5), trivial, rfl, ⟨(.gtmp rfl hg5), trivial, rfl, trivial⟩⟩ rfl) rfl rfl (nB rfl) rfl (nB rfl) ?_
 refine ARun.gpure (want := true) (.tt rfl) (fun hg6 => PureOp.call rfl (v_isSample (⟨x.at_, x.value⟩ : GSample)) ⟨⟨_, (.gtmp rfl hg6), ⟨.int, .int, trivial⟩⟩, trivial⟩ f44_ trivial) rfl rfl (nB rfl) rfl (nB rfl) ?_
 refine pu (.pick rfl (.tmp rfl) (fun hp7 => .gtmp rfl hp7) (fun _ => .bool)) rfl rfl rfl ?_
 refine pu (.assign rfl (.tmp rfl)) rfl rfl rfl ?_
 refine ARun.nil ?_
 refine AW.ret (show ResL _ _ [.tmp 2] _ from resB rfl ?_)
 exact sayB_eq x
def sayT (x : GSay) : ByteArray := (((x.name ++ ⟨#[32]⟩) ++ itoaB x.at_) ++ ⟨#[32]⟩) ++ itoaB x.value
structure SayOk (x : GSay) : Prop where
  name : x.name.size ≤ 1048576
  at0 : 0 ≤ x.at_
  at1 : x.at_ ≤ 9223372036854775807
  v0 : -9223372036854775807 ≤ x.value
  v1 : x.value ≤ 9223372036854775807
theorem sayT_size {x : GSay} (h : SayOk x) : (sayT x).size ≤ x.name.size + 44 := by
  have hs1 : (itoaB x.at_).size ≤ 21 := itoaB_size (by have := h.at0; omega) h.at1
  have hs2 : (itoaB x.value).size ≤ 21 := itoaB_size (by have := h.v0; omega) h.v1
  have hs3 : (⟨#[32]⟩ : ByteArray).size = 1 := rfl
  unfold sayT
  simp only [ByteArray.size_append]
  omega
theorem sayT_plain {x : GSay} (h : SayOk x) : (sayT x).size ≤ maxLen := by
  have := sayT_size h
  have := h.name
  unfold maxLen; omega
theorem sayB_ok {x : GSay} (h : sayB x = true) : SayOk x := by
  unfold sayB at h
  simp only [Bool.cond_false_right, Bool.and_eq_true] at h
  obtain ⟨⟨h1, h2⟩, h3⟩ := h
  obtain ⟨a1, a2⟩ := inB_true h2
  obtain ⟨b1, b2⟩ := inB_true h3
  unfold nameB at h1
  rw [Bool.and_eq_true] at h1
  obtain ⟨c1, c2⟩ := inB_true h1.2
  exact ⟨by omega, a1, by omega, by omega, by omega⟩
theorem v_l13Text (x : GSay) (hx : SayOk x) : Fn Tryz.prog 47 [.agg [.str x.name, .int .i64 x.at_, .int .i64 x.value]] (.one (.str (sayT x))) := by
 have hx' := hx
 obtain ⟨hn, ha0, ha1, hv0, hv1⟩ := hx'
 have hs1 : (itoaB x.at_).size ≤ 21 := itoaB_size (by omega) (by omega)
 have hs2 : (itoaB x.value).size ≤ 21 := itoaB_size (by omega) (by omega)
 have hs3 : (⟨#[32]⟩ : ByteArray).size = 1 := rfl
 refine Fn.of_body (fn := Tryz.f47) Tryz.func47 rfl (nB rfl) (sayT_plain hx) ?_
 intro w0
 show AW _ 15 _ _ _ _
 refine AW.seq ?_
 refine AW.region ?_
 refine ARun.box (id := 0) rfl (.tmp rfl) (SV.cells_of (by exact ⟨trivial, trivial, trivial, trivial⟩)) ⟨rfl, (by repeat first | exact trivial | refine ⟨by decide, by first | rfl | exact trivial | (intro i j; first | rfl | exact getD_no rfl | (dsimp only; split <;> first | rfl | exact getD_no rfl) | exact scl_no (by apply_assumption) _), ?_⟩)⟩ rfl rfl rfl (nB rfl) ?_
 refine pu (.assign rfl (.str (by decide))) rfl rfl rfl ?_
 refine ARun.nil ?_
 refine AW.seq ?_
 refine AW.any (by kernel_rfl) (by kernel_rfl) ?_
 refine AD.pure (PureOp.fieldPtr rfl (.tmp rfl) f45_) rfl rfl (nB rfl) ?_
 refine AD.pure (PureOp.loadPtr rfl (.tmp rfl) f12_ rfl rfl (nB rfl) (nB rfl)) rfl rfl (nB rfl) ?_
 refine AD.pure (PureOp.strAdd rfl (.tmp rfl) (.str (by decide)) (by skip; (try simp only [ByteArray.size_append]); omega)) rfl rfl (nB rfl) ?_
 refine AD.pure (PureOp.fieldPtr rfl (.tmp rfl) f46_) rfl rfl (nB rfl) ?_
 refine AD.pure (PureOp.loadPtr rfl (.tmp rfl) f9_ rfl rfl (nB rfl) (nB rfl)) rfl rfl (nB rfl) ?_
 refine AD.pure (PureOp.call rfl (v_NumI x.at_ (by omega) (by omega)) ⟨⟨_, (.tmp rfl), .int⟩, trivial⟩ f39_ (itoaB_plain (by omega) (by omega))) rfl rfl (nB rfl) ?_
 refine AD.pure (PureOp.strAdd rfl (.tmp rfl) (.tmp rfl) (by skip; (try simp only [ByteArray.size_append]); omega)) rfl rfl (nB rfl) ?_
 refine AD.pure (PureOp.strAdd rfl (.tmp rfl) (.str (by decide)) (by skip; (try simp only [ByteArray.size_append]); omega)) rfl rfl (nB rfl) ?_
 refine AD.pure (PureOp.fieldPtr rfl (.tmp rfl) f47_) rfl rfl (nB rfl) ?_
 refine AD.pure (PureOp.loadPtr rfl (.tmp rfl) f9_ rfl rfl (nB rfl) (nB rfl)) rfl rfl (nB rfl) ?_
 refine AD.pure (PureOp.call rfl (v_Text x.value ⟨by omega, by omega⟩) ⟨⟨_, (.tmp rfl), .int⟩, trivial⟩ f43_ (itoaB_plain (by omega) (by omega))) rfl rfl (nB rfl) ?_
 refine AD.pure (PureOp.strAdd rfl (.tmp rfl) (.tmp rfl) (by skip; (try simp only [ByteArray.size_append]); omega)) rfl rfl (nB rfl) ?_
 refine AD.pure (PureOp.assign rfl (.tmp rfl)) rfl rfl (nB rfl) ?_
 refine AD.nil ?_
 refine AW.ret (show ResL _ _ [.tmp 2] _ from resS rfl ?_)
 rfl
theorem v_sayText (x : GSay) (hx : SayOk x) : Fn Tryz.prog 45 [.agg [.str x.name, .int .i64 x.at_, .int .i64 x.value]] (.one (.str (sayT x))) := by
 have hx' := hx
 obtain ⟨hn, ha0, ha1, hv0, hv1⟩ := hx'
 have hs1 : (itoaB x.at_).size ≤ 21 := itoaB_size (by omega) (by omega)
 have hs2 : (itoaB x.value).size ≤ 21 := itoaB_size (by omega) (by omega)
 have hs3 : (⟨#[32]⟩ : ByteArray).size = 1 := rfl
 refine Fn.of_body (fn := Tryz.f45) Tryz.func45 rfl (nB rfl) (sayT_plain hx) ?_
 intro w0
 show AW _ 15 _ _ _ _
 refine AW.seq ?_
 refine AW.region ?_
 refine ARun.box (id := 0) rfl (.tmp rfl) (SV.cells_of (by exact ⟨trivial, trivial, trivial, trivial⟩)) ⟨rfl, (by repeat first | exact trivial | refine ⟨by decide, by first | rfl | exact trivial | (intro i j; first | rfl | exact getD_no rfl | (dsimp only; split <;> first | rfl | exact getD_no rfl) | exact scl_no (by apply_assumption) _), ?_⟩)⟩ rfl rfl rfl (nB rfl) ?_
 refine pu (.assign rfl (.str (by decide))) rfl rfl rfl ?_
 refine ARun.nil ?_
 refine AW.seq ?_
 refine AW.any (by kernel_rfl) (by kernel_rfl) ?_
 refine AD.pure (PureOp.fieldPtr rfl (.tmp rfl) f45_) rfl rfl (nB rfl) ?_
 refine AD.pure (PureOp.loadPtr rfl (.tmp rfl) f12_ rfl rfl (nB rfl) (nB rfl)) rfl rfl (nB rfl) ?_
 refine AD.pure (PureOp.strAdd rfl (.tmp rfl) (.str (by decide)) (by skip; (try simp only [ByteArray.size_append]); omega)) rfl rfl (nB rfl) ?_
 refine AD.pure (PureOp.fieldPtr rfl (.tmp rfl) f46_) rfl rfl (nB rfl) ?_
 refine AD.pure (PureOp.loadPtr rfl (.tmp rfl) f9_ rfl rfl (nB rfl) (nB rfl)) rfl rfl (nB rfl) ?_
 refine AD.pure (PureOp.call rfl (v_Itoa x.at_ (by omega) (by omega)) ⟨⟨_, (.tmp rfl), .int⟩, trivial⟩ f41_ (itoaB_plain (by omega) (by omega))) rfl rfl (nB rfl) ?_
 refine AD.pure (PureOp.strAdd rfl (.tmp rfl) (.tmp rfl) (by skip; (try simp only [ByteArray.size_append]); omega)) rfl rfl (nB rfl) ?_
 refine AD.pure (PureOp.strAdd rfl (.tmp rfl) (.str (by decide)) (by skip; (try simp only [ByteArray.size_append]); omega)) rfl rfl (nB rfl) ?_
 refine AD.pure (PureOp.fieldPtr rfl (.tmp rfl) f47_) rfl rfl (nB rfl) ?_
 refine AD.pure (PureOp.loadPtr rfl (.tmp rfl) f9_ rfl rfl (nB rfl) (nB rfl)) rfl rfl (nB rfl) ?_
 refine AD.pure (PureOp.call rfl (v_Itoa x.value (by omega) (by omega)) ⟨⟨_, (.tmp rfl), .int⟩, trivial⟩ f41_ (itoaB_plain (by omega) (by omega))) rfl rfl (nB rfl) ?_
 refine AD.pure (PureOp.strAdd rfl (.tmp rfl) (.tmp rfl) (by skip; (try simp only [ByteArray.size_append]); omega)) rfl rfl (nB rfl) ?_
 refine AD.pure (PureOp.assign rfl (.tmp rfl)) rfl rfl (nB rfl) ?_
 refine AD.nil ?_
 refine AW.ret (show ResL _ _ [.tmp 2] _ from resS rfl ?_)
 rfl
end Go.Proofs.YtonfeiloekofdaaGreatDoor

namespace Go.Proofs.YtonfeiloekofdaaGreatDoor
open Go.ChangeShapes Go.WideShapes Go.ChangeAt Go.RowKit Go.BigFrame Go.Deep
set_option linter.unusedVariables false
set_option linter.unusedSimpArgs false
theorem f50_ : callB Tryz.prog 58 = true := by kernel_rfl
theorem f51_ : callB Tryz.prog 63 = true := by kernel_rfl
def saBad (l : List GSample) (k : Nat) : Bool :=
  cond (cond (!(inB 0 1000000000 ((l.getD k (default : GSample)).at_))) true (!(inB (-1000000000) 1000000000 ((l.getD k (default : GSample)).value)))) true (cond (decide (0 < (k : Int))) (decide ((l.getD k (default : GSample)).at_ ≤ (l.getD (k - 1) (default : GSample)).at_)) false)
def samplesB (l : List GSample) : Bool := (List.range l.length).all (fun j => !saBad l j) && decide ((l.length : Int) ≤ 40)
theorem v_GoodSamples (l : List GSample) : Fn Tryz.prog 63 [.one (.lst 2 l.length (fun i0 j0 => ([.int .i64 ((l.getD i0 (default : GSample)).at_), .int .i64 ((l.getD i0 (default : GSample)).value)] : List AV).getD j0 (.con undef)))] (.one (.bool (samplesB l))) := by
 refine Fn.of_body (fn := Tryz.f63) Tryz.func63 rfl (nB rfl) trivial ?_
 intro w0
 show AW _ 41 _ _ _ _
 refine AW.bound (t := 0) rfl fun hx => ?_
 refine AW.seq ?_
 refine AW.region ?_
 refine pu (.assign rfl .bool) rfl rfl rfl ?_
 refine ARun.nil ?_
 refine AW.seq ?_
 refine AW.seq ?_
 refine AW.region ?_
 refine pu (.move rfl (.tmp rfl)) rfl rfl rfl ?_
 refine pu (.lenLst rfl (.tmp rfl) f24_) rfl rfl rfl ?_
 refine pu (.move rfl .int) rfl rfl rfl ?_
 refine ARun.nil ?_
 refine AW.block ?_
 refine AW.loop (ι := Nat) (fun k => ⟨[(0, .one (.lst 2 l.length (fun i0 j0 => ([.int .i64 ((l.getD i0 (default : GSample)).at_), .int .i64 ((l.getD i0 (default : GSample)).value)] : List AV).getD j0 (.con undef)))), (5, .one (.lst 2 l.length (fun i0 j0 => ([.int .i64 ((l.getD i0 (default : GSample)).at_), .int .i64 ((l.getD i0 (default : GSample)).value)] : List AV).getD j0 (.con undef)))), (6, .one (.int .i64 (l.length : Int))), (7, .one (.int .i64 (k : Int)))], []⟩) (fun k => k ≤ l.length ∧ ∀ j, j < k → saBad l j = false) (fun k => l.length - k) 0 ⟨Nat.zero_le _, fun j hj => absurd hj (by omega)⟩ ⟨⟨⟨_, rfl, rfl⟩, ⟨_, rfl, rfl⟩, ⟨_, rfl, rfl⟩, ⟨_, rfl, rfl⟩, trivial⟩, trivial⟩ ?_
 intro k hI
 obtain ⟨hk, hks⟩ := hI
 refine AW.seq ?_
 refine AW.region ?_
 refine pu (.intOp rfl (.tmp rfl) (.tmp rfl) rfl) rfl rfl rfl ?_
 refine ARun.nil ?_
 refine AW.seq ?_
 refine AW.cond (.tmp rfl) (fun hb1 => ?_) (fun hb1 => ?_)
 ·
  replace hb1 := of_decide_eq_true hb1
  have hkl : k < l.length := by omega
  refine AW.skip ?_
  refine AW.seq ?_
  refine AW.block ?_
  refine AW.seq ?_
  refine AW.region ?_
  refine pu (.move rfl (.tmp rfl)) rfl rfl rfl ?_
  refine pu (.indexLst (i := k) rfl (.tmp rfl) f23_ (.tmp rfl) rfl (by omega)) rfl rfl rfl ?_
  refine pu (.loadRefAgg rfl (.tmp rfl) f21_ (nB rfl)) rfl rfl rfl ?_
  refine ARun.alloc (id := 0) (l := [.int .i64 0, .int .i64 0]) (z := (.agg #[.int .i64 0, .int .i64 0])) rfl (by kernel_rfl) (fun _ _ _ => ⟨_, _, rfl, rfl, ⟨_, _, rfl, rfl, rfl⟩⟩) ⟨rfl, (by repeat first | exact trivial | refine ⟨by decide, by first | rfl | exact trivial | (intro i j; first | rfl | exact getD_no rfl | (dsimp only; split <;> first | rfl | exact getD_no rfl) | exact scl_no (by apply_assumption) _), ?_⟩)⟩ rfl rfl rfl (nB rfl) ?_
  refine pu (.assign rfl (.tmp rfl)) rfl rfl rfl ?_
  refine ARun.store rfl (.tmp rfl) (.tmp rfl) (SV.cells_of (by exact ⟨trivial, trivial, trivial⟩)) rfl (nB rfl) f25_ rfl rfl ?_
  refine ARun.nil ?_
  refine AW.seq ?_
  refine AW.any (by kernel_rfl) (by kernel_rfl) ?_
  refine AD.pure (PureOp.fieldPtr rfl (.tmp rfl) f48_) rfl rfl (nB rfl) ?_
  refine AD.pure (PureOp.loadPtr rfl (.tmp rfl) f9_ rfl rfl (nB rfl) (nB rfl)) rfl rfl (nB rfl) ?_
  refine AD.pure (PureOp.call rfl (v_l1In ((l.getD k (default : GSample)).at_) 0 1000000000) ⟨⟨_, (.tmp rfl), .int⟩, ⟨_, .int, .int⟩, ⟨_, .int, .int⟩, trivial⟩ f18_ trivial) rfl rfl (nB rfl) ?_
  refine AD.pure (PureOp.not rfl (.tmp rfl)) rfl rfl (nB rfl) ?_
  refine AD.pure (PureOp.move rfl (.tmp rfl)) rfl rfl (nB rfl) ?_
  refine AD.gpure (want := false) (.tf rfl) (fun hg2 => PureOp.fieldPtr rfl (.tmp rfl) f49_) rfl rfl rfl (nB rfl) ?_
  refine AD.gpure (want := false) (.tf rfl) (fun hg3 => PureOp.loadPtr rfl (.gtmp rfl hg3) f9_ rfl rfl (nB rfl) (nB rfl)) rfl rfl rfl (nB rfl) ?_
  refine AD.gpure (want := false) (.tf rfl) (fun hg4 => PureOp.call rfl (v_l1In ((l.getD k (default : GSample)).value) (-1000000000) 1000000000) ⟨⟨_, (.gtmp rfl hg4), .int⟩, ⟨_, .int, .int⟩, ⟨_, .int, .int⟩, trivial⟩ f18_ trivial) rfl rfl rfl (nB rfl) ?_
  refine AD.gpure (want := false) (.tf rfl) (fun hg5 => PureOp.not rfl (.gtmp rfl hg5)) rfl rfl rfl (nB rfl) ?_
  refine AD.pure (PureOp.pick rfl (.tmp rfl) (fun _ => .bool) (fun hp7 => .gtmp rfl (not_of hp7))) rfl rfl (nB rfl) ?_
  refine AD.pure (PureOp.move rfl (.tmp rfl)) rfl rfl (nB rfl) ?_
  refine AD.gpure (want := false) (.tf rfl) (fun hg8 => PureOp.move rfl (.tmp rfl)) rfl rfl rfl (nB rfl) ?_
  refine AD.gpure (want := false) (.tf rfl) (fun hg9 => PureOp.intOp rfl (.gtmp rfl hg9) .int rfl) rfl rfl rfl (nB rfl) ?_
  refine AD.gpure (want := false) (.tf rfl) (fun hg10 => PureOp.move rfl (.gtmp rfl hg10)) rfl rfl rfl (nB rfl) ?_
  refine AD.gpure (want := true) (.gt rfl) (fun hg11 => PureOp.move rfl (.tmp rfl)) rfl rfl rfl (nB rfl) ?_
  refine AD.gpure (want := true) (.gt rfl) (fun hg12 => PureOp.move rfl (.tmp rfl)) rfl rfl rfl (nB rfl) ?_
  refine AD.gpure (want := true) (.gt rfl) (fun hg13 => PureOp.sub (c := (((k - 1) : Nat) : Int)) rfl (.gtmp rfl hg13) .int (by have q := hg13; simp only [Bool.cond_true_left, Bool.cond_false_right, Bool.not_eq_true', Bool.or_eq_false_iff, Bool.not_eq_false', Bool.and_eq_true, Bool.not_not, decide_eq_true_eq, decide_eq_false_iff_not, inB] at q; rw [wrap_id (by omega) (by omega)]; omega)) rfl rfl rfl (nB rfl) ?_
  refine AD.gpure (want := true) (.gt rfl) (fun hg14 => PureOp.indexLst (i := (k - 1)) rfl (.gtmp rfl hg14) f23_ (.gtmp rfl hg14) rfl (by have q := hg14; simp only [Bool.cond_true_left, Bool.cond_false_right, Bool.not_eq_true', Bool.or_eq_false_iff, Bool.not_eq_false', Bool.and_eq_true, Bool.not_not, decide_eq_true_eq, decide_eq_false_iff_not, inB] at q; omega)) rfl rfl rfl (nB rfl) ?_
  refine AD.gpure (want := true) (.gt rfl) (fun hg15 => PureOp.fieldRef rfl (.gtmp rfl hg15) f48_ (nB rfl)) rfl rfl rfl (nB rfl) ?_
  refine AD.gpure (want := true) (.gt rfl) (fun hg16 => PureOp.loadRef rfl (.gtmp rfl hg16) f9_ (nB rfl)) rfl rfl rfl (nB rfl) ?_
  refine AD.gpure (want := true) (.gt rfl) (fun hg17 => PureOp.fieldPtr rfl (.tmp rfl) f48_) rfl rfl rfl (nB rfl) ?_
  refine AD.gpure (want := true) (.gt rfl) (fun hg18 => PureOp.loadPtr rfl (.gtmp rfl hg18) f9_ rfl rfl (nB rfl) (nB rfl)) rfl rfl rfl (nB rfl) ?_
  refine AD.gpure (want := true) (.gt rfl) (fun hg19 => PureOp.intOp rfl (.gtmp rfl hg19) (.gtmp rfl hg19) rfl) rfl rfl rfl (nB rfl) ?_
  refine AD.gpure (want := false) (.tf rfl) (fun hg20 => PureOp.pick rfl (.gtmp rfl hg20) (fun hp21 => .gtmp rfl (and_mk hg20 hp21)) (fun _ => .bool)) rfl rfl rfl (nB rfl) ?_
  refine AD.pure (PureOp.pick rfl (.tmp rfl) (fun _ => .bool) (fun hp24 => .gtmp rfl (not_of hp24))) rfl rfl (nB rfl) ?_
  refine AD.nil ?_
  refine AW.cond (.tmp rfl) (fun hb25 => ?_) (fun hb25 => ?_)
  ·
   have hbd : saBad l k = true := hb25
   refine AW.seq ?_
   refine AW.region ?_
   refine pu (.assign rfl .bool) rfl rfl rfl ?_
   refine ARun.nil ?_
   refine AW.ret (show ResL _ _ [.tmp 2] _ from resB rfl ?_)
   have hno : (List.range l.length).all (fun j => !saBad l j) = false := rng_no hkl (by rw [hbd]; rfl)
   unfold samplesB; rw [hno]; rfl
  ·
   have hbd : saBad l k = false := hb25
   refine AW.skip ?_
   refine AW.region ?_
   refine pu (.add (c := ((k + 1 : Nat) : Int)) rfl (.tmp rfl) .int (by rw [wrap_id (by omega) (by omega)]; omega)) rfl rfl rfl ?_
   refine pu (.move rfl (.tmp rfl)) rfl rfl rfl ?_
   refine ARun.nil ?_
   exact ⟨k + 1, ⟨by omega, rng_succ (p := fun j => saBad l j = false) hks hbd⟩, by dsimp only; omega, ⟨⟨⟨_, rfl, rfl⟩, ⟨_, rfl, rfl⟩, ⟨_, rfl, rfl⟩, ⟨_, rfl, rfl⟩, trivial⟩, trivial⟩⟩
 ·
  replace hb1 := of_decide_eq_false hb1
  have hkl : ¬ k < l.length := by omega
  have hall : (List.range l.length).all (fun j => !saBad l j) = true := rng_yes (fun j hj => by rw [hks j (by omega)]; rfl)
  refine AW.exit ?_
  refine AW.seq ?_
  refine AW.region ?_
  refine pu (.move rfl (.tmp rfl)) rfl rfl rfl ?_
  refine pu (.lenLst rfl (.tmp rfl) f24_) rfl rfl rfl ?_
  refine pu (.intOp rfl (.tmp rfl) .int rfl) rfl rfl rfl ?_
  refine pu (.assign rfl (.tmp rfl)) rfl rfl rfl ?_
  refine ARun.nil ?_
  refine AW.ret (show ResL _ _ [.tmp 2] _ from resB rfl ?_)
  unfold samplesB; rw [hall]; rfl
def saBadI (l : List GSample) (k : Nat) : Bool :=
  cond (!(isSampleB (l.getD k (default : GSample)))) true (cond (decide (0 < (k : Int))) (decide ((l.getD k (default : GSample)).at_ ≤ (l.getD (k - 1) (default : GSample)).at_)) false)
theorem saBad_eq (l : List GSample) (k : Nat) : saBad l k = saBadI l k := by
  unfold saBad saBadI isSampleB
  generalize inB 0 _ _ = a1
  generalize inB (-1000000000) _ _ = a2
  generalize cond (decide ((0 : Int) < (k : Int))) _ false = a3
  revert a1 a2 a3; decide
theorem v_areSamples (l : List GSample) : Fn Tryz.prog 58 [.one (.lst 2 l.length (fun i0 j0 => ([.int .i64 ((l.getD i0 (default : GSample)).at_), .int .i64 ((l.getD i0 (default : GSample)).value)] : List AV).getD j0 (.con undef)))] (.one (.bool (samplesB l))) := by
 refine Fn.of_body (fn := Tryz.f58) Tryz.func58 rfl (nB rfl) trivial ?_
 intro w0
 show AW _ 34 _ _ _ _
 refine AW.bound (t := 0) rfl fun hx => ?_
 refine AW.seq ?_
 refine AW.region ?_
 refine pu (.assign rfl .bool) rfl rfl rfl ?_
 refine ARun.nil ?_
 refine AW.seq ?_
 refine AW.seq ?_
 refine AW.region ?_
 refine pu (.move rfl (.tmp rfl)) rfl rfl rfl ?_
 refine pu (.lenLst rfl (.tmp rfl) f24_) rfl rfl rfl ?_
 refine pu (.move rfl .int) rfl rfl rfl ?_
 refine ARun.nil ?_
 refine AW.block ?_
 refine AW.loop (ι := Nat) (fun k => ⟨[(0, .one (.lst 2 l.length (fun i0 j0 => ([.int .i64 ((l.getD i0 (default : GSample)).at_), .int .i64 ((l.getD i0 (default : GSample)).value)] : List AV).getD j0 (.con undef)))), (5, .one (.lst 2 l.length (fun i0 j0 => ([.int .i64 ((l.getD i0 (default : GSample)).at_), .int .i64 ((l.getD i0 (default : GSample)).value)] : List AV).getD j0 (.con undef)))), (6, .one (.int .i64 (l.length : Int))), (7, .one (.int .i64 (k : Int)))], []⟩) (fun k => k ≤ l.length ∧ ∀ j, j < k → saBad l j = false) (fun k => l.length - k) 0 ⟨Nat.zero_le _, fun j hj => absurd hj (by omega)⟩ ⟨⟨⟨_, rfl, rfl⟩, ⟨_, rfl, rfl⟩, ⟨_, rfl, rfl⟩, ⟨_, rfl, rfl⟩, trivial⟩, trivial⟩ ?_
 intro k hI
 obtain ⟨hk, hks⟩ := hI
 refine AW.seq ?_
 refine AW.region ?_
 refine pu (.intOp rfl (.tmp rfl) (.tmp rfl) rfl) rfl rfl rfl ?_
 refine ARun.nil ?_
 refine AW.seq ?_
 refine AW.cond (.tmp rfl) (fun hb1 => ?_) (fun hb1 => ?_)
 ·
  replace hb1 := of_decide_eq_true hb1
  have hkl : k < l.length := by omega
  refine AW.skip ?_
  refine AW.seq ?_
  refine AW.block ?_
  refine AW.seq ?_
  refine AW.region ?_
  refine pu (.move rfl (.tmp rfl)) rfl rfl rfl ?_
  refine pu (.indexLst (i := k) rfl (.tmp rfl) f23_ (.tmp rfl) rfl (by omega)) rfl rfl rfl ?_
  refine pu (.loadRefAgg rfl (.tmp rfl) f21_ (nB rfl)) rfl rfl rfl ?_
  refine ARun.alloc (id := 0) (l := [.int .i64 0, .int .i64 0]) (z := (.agg #[.int .i64 0, .int .i64 0])) rfl (by kernel_rfl) (fun _ _ _ => ⟨_, _, rfl, rfl, ⟨_, _, rfl, rfl, rfl⟩⟩) ⟨rfl, (by repeat first | exact trivial | refine ⟨by decide, by first | rfl | exact trivial | (intro i j; first | rfl | exact getD_no rfl | (dsimp only; split <;> first | rfl | exact getD_no rfl) | exact scl_no (by apply_assumption) _), ?_⟩)⟩ rfl rfl rfl (nB rfl) ?_
  refine pu (.assign rfl (.tmp rfl)) rfl rfl rfl ?_
  refine ARun.store rfl (.tmp rfl) (.tmp rfl) (SV.cells_of (by exact ⟨trivial, trivial, trivial⟩)) rfl (nB rfl) f25_ rfl rfl ?_
  refine ARun.nil ?_
  refine AW.seq ?_
  refine AW.any (by kernel_rfl) (by kernel_rfl) ?_
  refine AD.pure (PureOp.loadPtrAgg rfl (.tmp rfl) f21_ rfl rfl (nB rfl) (nB rfl)) rfl rfl (nB rfl) ?_
  refine AD.pure (PureOp.call rfl (v_isSample (l.getD k (default : GSample))) ⟨⟨_, (.tmp rfl), ⟨.int, .int, trivial⟩⟩, trivial⟩ f44_ trivial) rfl rfl (nB rfl) ?_
  refine AD.pure (PureOp.not rfl (.tmp rfl)) rfl rfl (nB rfl) ?_
  refine AD.pure (PureOp.move rfl (.tmp rfl)) rfl rfl (nB rfl) ?_
  refine AD.gpure (want := false) (.tf rfl) (fun hg2 => PureOp.move rfl (.tmp rfl)) rfl rfl rfl (nB rfl) ?_
  refine AD.gpure (want := false) (.tf rfl) (fun hg3 => PureOp.intOp rfl (.gtmp rfl hg3) .int rfl) rfl rfl rfl (nB rfl) ?_
  refine AD.gpure (want := false) (.tf rfl) (fun hg4 => PureOp.move rfl (.gtmp rfl hg4)) rfl rfl rfl (nB rfl) ?_
  refine AD.gpure (want := true) (.gt rfl) (fun hg5 => PureOp.move rfl (.tmp rfl)) rfl rfl rfl (nB rfl) ?_
  refine AD.gpure (want := true) (.gt rfl) (fun hg6 => PureOp.move rfl (.tmp rfl)) rfl rfl rfl (nB rfl) ?_
  refine AD.gpure (want := true) (.gt rfl) (fun hg7 => PureOp.sub (c := (((k - 1) : Nat) : Int)) rfl (.gtmp rfl hg7) .int (by have q := hg7; simp only [Bool.cond_true_left, Bool.cond_false_right, Bool.not_eq_true', Bool.or_eq_false_iff, Bool.not_eq_false', Bool.and_eq_true, Bool.not_not, decide_eq_true_eq, decide_eq_false_iff_not, inB] at q; rw [wrap_id (by omega) (by omega)]; omega)) rfl rfl rfl (nB rfl) ?_
  refine AD.gpure (want := true) (.gt rfl) (fun hg8 => PureOp.indexLst (i := (k - 1)) rfl (.gtmp rfl hg8) f23_ (.gtmp rfl hg8) rfl (by have q := hg8; simp only [Bool.cond_true_left, Bool.cond_false_right, Bool.not_eq_true', Bool.or_eq_false_iff, Bool.not_eq_false', Bool.and_eq_true, Bool.not_not, decide_eq_true_eq, decide_eq_false_iff_not, inB] at q; omega)) rfl rfl rfl (nB rfl) ?_
  refine AD.gpure (want := true) (.gt rfl) (fun hg9 => PureOp.fieldRef rfl (.gtmp rfl hg9) f48_ (nB rfl)) rfl rfl rfl (nB rfl) ?_
  refine AD.gpure (want := true) (.gt rfl) (fun hg10 => PureOp.loadRef rfl (.gtmp rfl hg10) f9_ (nB rfl)) rfl rfl rfl (nB rfl) ?_
  refine AD.gpure (want := true) (.gt rfl) (fun hg11 => PureOp.fieldPtr rfl (.tmp rfl) f48_) rfl rfl rfl (nB rfl) ?_
  refine AD.gpure (want := true) (.gt rfl) (fun hg12 => PureOp.loadPtr rfl (.gtmp rfl hg12) f9_ rfl rfl (nB rfl) (nB rfl)) rfl rfl rfl (nB rfl) ?_
  refine AD.gpure (want := true) (.gt rfl) (fun hg13 => PureOp.intOp rfl (.gtmp rfl hg13) (.gtmp rfl hg13) rfl) rfl rfl rfl (nB rfl) ?_
  refine AD.gpure (want := false) (.tf rfl) (fun hg14 => PureOp.pick rfl (.gtmp rfl hg14) (fun hp15 => .gtmp rfl (and_mk hg14 hp15)) (fun _ => .bool)) rfl rfl rfl (nB rfl) ?_
  refine AD.pure (PureOp.pick rfl (.tmp rfl) (fun _ => .bool) (fun hp18 => .gtmp rfl (not_of hp18))) rfl rfl (nB rfl) ?_
  refine AD.nil ?_
  refine AW.cond (.tmp rfl) (fun hb19 => ?_) (fun hb19 => ?_)
  ·
   have hbd : saBad l k = true := (saBad_eq l k).trans hb19
   refine AW.seq ?_
   refine AW.region ?_
   refine pu (.assign rfl .bool) rfl rfl rfl ?_
   refine ARun.nil ?_
   refine AW.ret (show ResL _ _ [.tmp 2] _ from resB rfl ?_)
   have hno : (List.range l.length).all (fun j => !saBad l j) = false := rng_no hkl (by rw [hbd]; rfl)
   unfold samplesB; rw [hno]; rfl
  ·
   have hbd : saBad l k = false := (saBad_eq l k).trans hb19
   refine AW.skip ?_
   refine AW.region ?_
   refine pu (.add (c := ((k + 1 : Nat) : Int)) rfl (.tmp rfl) .int (by rw [wrap_id (by omega) (by omega)]; omega)) rfl rfl rfl ?_
   refine pu (.move rfl (.tmp rfl)) rfl rfl rfl ?_
   refine ARun.nil ?_
   exact ⟨k + 1, ⟨by omega, rng_succ (p := fun j => saBad l j = false) hks hbd⟩, by dsimp only; omega, ⟨⟨⟨_, rfl, rfl⟩, ⟨_, rfl, rfl⟩, ⟨_, rfl, rfl⟩, ⟨_, rfl, rfl⟩, trivial⟩, trivial⟩⟩
 ·
  replace hb1 := of_decide_eq_false hb1
  have hkl : ¬ k < l.length := by omega
  have hall : (List.range l.length).all (fun j => !saBad l j) = true := rng_yes (fun j hj => by rw [hks j (by omega)]; rfl)
  refine AW.exit ?_
  refine AW.seq ?_
  refine AW.region ?_
  refine pu (.move rfl (.tmp rfl)) rfl rfl rfl ?_
  refine pu (.lenLst rfl (.tmp rfl) f24_) rfl rfl rfl ?_
  refine pu (.intOp rfl (.tmp rfl) .int rfl) rfl rfl rfl ?_
  refine pu (.assign rfl (.tmp rfl)) rfl rfl rfl ?_
  refine ARun.nil ?_
  refine AW.ret (show ResL _ _ [.tmp 2] _ from resB rfl ?_)
  unfold samplesB; rw [hall]; rfl
def rowBad (h : GHead) (k : Nat) : Bool :=
  cond (cond (cond (!(nameB ((h.rows.getD k (default : GRow)).name) false)) true (decide (((((h.rows.getD k (default : GRow)).samples).length : Nat) : Int) = 0))) true (!(samplesB ((h.rows.getD k (default : GRow)).samples)))) true (cond (decide (0 < (k : Int))) (!Op.bytesLess ((h.rows.getD (k - 1) (default : GRow)).name).toList ((h.rows.getD k (default : GRow)).name).toList) false)
def goodHead (h : GHead) : Bool := (List.range h.rows.length).all (fun j => !rowBad h j) && cond (decide ((h.rows.length : Int) ≤ 8)) (inB 0 1000 h.offset) false
theorem v_specGoodHead (h : GHead) : Fn Tryz.prog 31 [.agg [.lst 2 h.rows.length (fun i0 j0 => ([.str ((h.rows.getD i0 (default : GRow)).name), .lst 2 (((h.rows.getD i0 (default : GRow)).samples).length) (fun i1 j1 => ([.int .i64 ((((h.rows.getD i0 (default : GRow)).samples).getD i1 (default : GSample)).at_), .int .i64 ((((h.rows.getD i0 (default : GRow)).samples).getD i1 (default : GSample)).value)] : List AV).getD j1 (.con undef))] : List AV).getD j0 (.con undef)), .int .i64 h.offset]] (.one (.bool (goodHead h))) := by
 refine Fn.of_body (fn := Tryz.f31) Tryz.func31 rfl (nB rfl) trivial ?_
 intro w0
 show AW _ 55 _ _ _ _
 refine AW.boundAL (t := 0) (j := 0) rfl rfl fun hx => ?_
 refine AW.seq ?_
 refine AW.region ?_
 refine ARun.box (id := 0) rfl (.tmp rfl) (SV.cells_of (by exact ⟨trivial, trivial, trivial⟩)) ⟨rfl, (by repeat first | exact trivial | refine ⟨by decide, by first | rfl | exact trivial | (intro i j; first | rfl | exact getD_no rfl | (dsimp only; split <;> first | rfl | exact getD_no rfl) | exact scl_no (by apply_assumption) _), ?_⟩)⟩ rfl rfl rfl (nB rfl) ?_
 refine pu (.assign rfl .bool) rfl rfl rfl ?_
 refine ARun.nil ?_
 refine AW.seq ?_
 refine AW.seq ?_
 refine AW.region ?_
 refine pu (.fieldPtr rfl (.tmp rfl) f29_) rfl rfl rfl ?_
 refine pu (.loadPtr rfl (.tmp rfl) f33_ rfl rfl (nB rfl) (nB rfl)) rfl rfl rfl ?_
 refine pu (.lenLst rfl (.tmp rfl) f35_) rfl rfl rfl ?_
 refine pu (.move rfl .int) rfl rfl rfl ?_
 refine ARun.nil ?_
 refine AW.block ?_
 refine AW.loop (ι := Nat) (fun k => ⟨[(1, .one (.ptr 0 2 0 0)), (6, .one (.lst 2 h.rows.length (fun i0 j0 => ([.str ((h.rows.getD i0 (default : GRow)).name), .lst 2 (((h.rows.getD i0 (default : GRow)).samples).length) (fun i1 j1 => ([.int .i64 ((((h.rows.getD i0 (default : GRow)).samples).getD i1 (default : GSample)).at_), .int .i64 ((((h.rows.getD i0 (default : GRow)).samples).getD i1 (default : GSample)).value)] : List AV).getD j1 (.con undef))] : List AV).getD j0 (.con undef)))), (7, .one (.int .i64 (h.rows.length : Int))), (8, .one (.int .i64 (k : Int)))], [(0, .cells [.lst 2 h.rows.length (fun i0 j0 => ([.str ((h.rows.getD i0 (default : GRow)).name), .lst 2 (((h.rows.getD i0 (default : GRow)).samples).length) (fun i1 j1 => ([.int .i64 ((((h.rows.getD i0 (default : GRow)).samples).getD i1 (default : GSample)).at_), .int .i64 ((((h.rows.getD i0 (default : GRow)).samples).getD i1 (default : GSample)).value)] : List AV).getD j1 (.con undef))] : List AV).getD j0 (.con undef)), .int .i64 h.offset])]⟩) (fun k => k ≤ h.rows.length ∧ ∀ j, j < k → rowBad h j = false) (fun k => h.rows.length - k) 0 ⟨Nat.zero_le _, fun j hj => absurd hj (by omega)⟩ ⟨⟨⟨_, rfl, rfl⟩, ⟨_, rfl, rfl⟩, ⟨_, rfl, rfl⟩, ⟨_, rfl, rfl⟩, trivial⟩, HeapLe.one rfl trivial⟩ ?_
 intro k hI
 obtain ⟨hk, hks⟩ := hI
 refine AW.seq ?_
 refine AW.region ?_
 refine pu (.intOp rfl (.tmp rfl) (.tmp rfl) rfl) rfl rfl rfl ?_
 refine ARun.nil ?_
 refine AW.seq ?_
 refine AW.cond (.tmp rfl) (fun hb1 => ?_) (fun hb1 => ?_)
 ·
  replace hb1 := of_decide_eq_true hb1
  have hkl : k < h.rows.length := by omega
  refine AW.skip ?_
  refine AW.seq ?_
  refine AW.block ?_
  refine AW.seq ?_
  refine AW.region ?_
  refine pu (.move rfl (.tmp rfl)) rfl rfl rfl ?_
  refine pu (.indexLst (i := k) rfl (.tmp rfl) f28_ (.tmp rfl) rfl (by omega)) rfl rfl rfl ?_
  refine pu (.loadRefAgg rfl (.tmp rfl) f27_ (nB rfl)) rfl rfl rfl ?_
  refine ARun.alloc (id := 1) (l := [.str ByteArray.empty, .lst 2 0 (fun _ _ => .con undef)]) (z := (.agg #[.string ByteArray.empty, .slice none 0 0])) rfl (by kernel_rfl) (fun _ _ _ => ⟨_, _, rfl, ⟨rfl, by decide⟩, ⟨_, _, rfl, ⟨none, 0, rfl, Nat.le_refl _, by decide, fun _ => rfl, fun i hi => absurd hi (by omega)⟩, rfl⟩⟩) ⟨rfl, (by repeat first | exact trivial | refine ⟨by decide, by first | rfl | exact trivial | (intro i j; first | rfl | exact getD_no rfl | (dsimp only; split <;> first | rfl | exact getD_no rfl) | exact scl_no (by apply_assumption) _), ?_⟩)⟩ rfl rfl rfl (nB rfl) ?_
  refine pu (.assign rfl (.tmp rfl)) rfl rfl rfl ?_
  refine ARun.store rfl (.tmp rfl) (.tmp rfl) (SV.cells_of (by exact ⟨trivial, trivial, trivial⟩)) rfl (nB rfl) f38_ rfl rfl ?_
  refine ARun.nil ?_
  refine AW.seq ?_
  refine AW.any (by kernel_rfl) (by kernel_rfl) ?_
  refine AD.pure (PureOp.fieldPtr rfl (.tmp rfl) f31_) rfl rfl (nB rfl) ?_
  refine AD.pure (PureOp.loadPtr rfl (.tmp rfl) f12_ rfl rfl (nB rfl) (nB rfl)) rfl rfl (nB rfl) ?_
  refine AD.pure (PureOp.call rfl (v_l3Name ((h.rows.getD k (default : GRow)).name) false) ⟨⟨_, (.tmp rfl), .str⟩, ⟨_, .bool, .bool⟩, trivial⟩ f42_ trivial) rfl rfl (nB rfl) ?_
  refine AD.pure (PureOp.not rfl (.tmp rfl)) rfl rfl (nB rfl) ?_
  refine AD.pure (PureOp.move rfl (.tmp rfl)) rfl rfl (nB rfl) ?_
  refine AD.gpure (want := false) (.tf rfl) (fun hg2 => PureOp.fieldPtr rfl (.tmp rfl) f32_) rfl rfl rfl (nB rfl) ?_
  refine AD.gpure (want := false) (.tf rfl) (fun hg3 => PureOp.loadPtr rfl (.gtmp rfl hg3) f34_ rfl rfl (nB rfl) (nB rfl)) rfl rfl rfl (nB rfl) ?_
  refine AD.gpure (want := false) (.tf rfl) (fun hg4 => PureOp.lenLst rfl (.gtmp rfl hg4) f24_) rfl rfl rfl (nB rfl) ?_
  refine AD.gpure (want := false) (.tf rfl) (fun hg5 => PureOp.intOp rfl (.gtmp rfl hg5) .int rfl) rfl rfl rfl (nB rfl) ?_
  refine AD.pure (PureOp.pick rfl (.tmp rfl) (fun _ => .bool) (fun hp7 => .gtmp rfl (not_of hp7))) rfl rfl (nB rfl) ?_
  refine AD.pure (PureOp.move rfl (.tmp rfl)) rfl rfl (nB rfl) ?_
  refine AD.gpure (want := false) (.tf rfl) (fun hg8 => PureOp.fieldPtr rfl (.tmp rfl) f32_) rfl rfl rfl (nB rfl) ?_
  refine AD.gpure (want := false) (.tf rfl) (fun hg9 => PureOp.loadPtr rfl (.gtmp rfl hg9) f34_ rfl rfl (nB rfl) (nB rfl)) rfl rfl rfl (nB rfl) ?_
  refine AD.gpure (want := false) (.tf rfl) (fun hg10 => PureOp.call rfl (v_GoodSamples ((h.rows.getD k (default : GRow)).samples)) ⟨⟨_, (.gtmp rfl hg10), .lst⟩, trivial⟩ f51_ trivial) rfl rfl rfl (nB rfl) ?_
  refine AD.gpure (want := false) (.tf rfl) (fun hg11 => PureOp.not rfl (.gtmp rfl hg11)) rfl rfl rfl (nB rfl) ?_
  refine AD.pure (PureOp.pick rfl (.tmp rfl) (fun _ => .bool) (fun hp13 => .gtmp rfl (not_of hp13))) rfl rfl (nB rfl) ?_
  refine AD.pure (PureOp.move rfl (.tmp rfl)) rfl rfl (nB rfl) ?_
  refine AD.gpure (want := false) (.tf rfl) (fun hg14 => PureOp.move rfl (.tmp rfl)) rfl rfl rfl (nB rfl) ?_
  refine AD.gpure (want := false) (.tf rfl) (fun hg15 => PureOp.intOp rfl (.gtmp rfl hg15) .int rfl) rfl rfl rfl (nB rfl) ?_
  refine AD.gpure (want := false) (.tf rfl) (fun hg16 => PureOp.move rfl (.gtmp rfl hg16)) rfl rfl rfl (nB rfl) ?_
  refine AD.gpure (want := true) (.gt rfl) (fun hg17 => PureOp.fieldPtr rfl (.tmp rfl) f29_) rfl rfl rfl (nB rfl) ?_
  refine AD.gpure (want := true) (.gt rfl) (fun hg18 => PureOp.loadPtr rfl (.gtmp rfl hg18) f33_ rfl rfl (nB rfl) (nB rfl)) rfl rfl rfl (nB rfl) ?_
  refine AD.gpure (want := true) (.gt rfl) (fun hg19 => PureOp.move rfl (.tmp rfl)) rfl rfl rfl (nB rfl) ?_
  refine AD.gpure (want := true) (.gt rfl) (fun hg20 => PureOp.sub (c := (((k - 1) : Nat) : Int)) rfl (.gtmp rfl hg20) .int (by have q := hg20; simp only [Bool.cond_true_left, Bool.cond_false_right, Bool.not_eq_true', Bool.or_eq_false_iff, Bool.not_eq_false', Bool.and_eq_true, Bool.not_not, decide_eq_true_eq, decide_eq_false_iff_not, inB] at q; rw [wrap_id (by omega) (by omega)]; omega)) rfl rfl rfl (nB rfl) ?_
  refine AD.gpure (want := true) (.gt rfl) (fun hg21 => PureOp.indexLst (i := (k - 1)) rfl (.gtmp rfl hg21) f28_ (.gtmp rfl hg21) rfl (by have q := hg21; simp only [Bool.cond_true_left, Bool.cond_false_right, Bool.not_eq_true', Bool.or_eq_false_iff, Bool.not_eq_false', Bool.and_eq_true, Bool.not_not, decide_eq_true_eq, decide_eq_false_iff_not, inB] at q; omega)) rfl rfl rfl (nB rfl) ?_
  refine AD.gpure (want := true) (.gt rfl) (fun hg22 => PureOp.fieldRef rfl (.gtmp rfl hg22) f31_ (nB rfl)) rfl rfl rfl (nB rfl) ?_
  refine AD.gpure (want := true) (.gt rfl) (fun hg23 => PureOp.loadRef rfl (.gtmp rfl hg23) f12_ (nB rfl)) rfl rfl rfl (nB rfl) ?_
  refine AD.gpure (want := true) (.gt rfl) (fun hg24 => PureOp.fieldPtr rfl (.tmp rfl) f31_) rfl rfl rfl (nB rfl) ?_
  refine AD.gpure (want := true) (.gt rfl) (fun hg25 => PureOp.loadPtr rfl (.gtmp rfl hg25) f12_ rfl rfl (nB rfl) (nB rfl)) rfl rfl rfl (nB rfl) ?_
  refine AD.gpure (want := true) (.gt rfl) (fun hg26 => PureOp.strOp rfl (.gtmp rfl hg26) (.gtmp rfl hg26) rfl) rfl rfl rfl (nB rfl) ?_
  refine AD.gpure (want := false) (.tf rfl) (fun hg27 => PureOp.pick rfl (.gtmp rfl hg27) (fun hp28 => .gtmp rfl (and_mk hg27 hp28)) (fun _ => .bool)) rfl rfl rfl (nB rfl) ?_
  refine AD.pure (PureOp.pick rfl (.tmp rfl) (fun _ => .bool) (fun hp31 => .gtmp rfl (not_of hp31))) rfl rfl (nB rfl) ?_
  refine AD.nil ?_
  refine AW.cond (.tmp rfl) (fun hb32 => ?_) (fun hb32 => ?_)
  ·
   have hbd : rowBad h k = true := hb32
   refine AW.seq ?_
   refine AW.region ?_
   refine pu (.assign rfl .bool) rfl rfl rfl ?_
   refine ARun.nil ?_
   refine AW.ret (show ResL _ _ [.tmp 2] _ from resB rfl ?_)
   have hno : (List.range h.rows.length).all (fun j => !rowBad h j) = false := rng_no hkl (by rw [hbd]; rfl)
   unfold goodHead; rw [hno]; rfl
  ·
   have hbd : rowBad h k = false := hb32
   refine AW.skip ?_
   refine AW.region ?_
   refine pu (.add (c := ((k + 1 : Nat) : Int)) rfl (.tmp rfl) .int (by rw [wrap_id (by omega) (by omega)]; omega)) rfl rfl rfl ?_
   refine pu (.move rfl (.tmp rfl)) rfl rfl rfl ?_
   refine ARun.nil ?_
   exact ⟨k + 1, ⟨by omega, rng_succ (p := fun j => rowBad h j = false) hks hbd⟩, by dsimp only; omega, ⟨⟨⟨_, rfl, rfl⟩, ⟨_, rfl, rfl⟩, ⟨_, rfl, rfl⟩, ⟨_, rfl, rfl⟩, trivial⟩, HeapLe.one rfl trivial⟩⟩
 ·
  replace hb1 := of_decide_eq_false hb1
  have hkl : ¬ k < h.rows.length := by omega
  have hall : (List.range h.rows.length).all (fun j => !rowBad h j) = true := rng_yes (fun j hj => by rw [hks j (by omega)]; rfl)
  refine AW.exit ?_
  refine AW.seq ?_
  refine AW.region ?_
  refine pu (.fieldPtr rfl (.tmp rfl) f29_) rfl rfl rfl ?_
  refine pu (.loadPtr rfl (.tmp rfl) f33_ rfl rfl (nB rfl) (nB rfl)) rfl rfl rfl ?_
  refine pu (.lenLst rfl (.tmp rfl) f35_) rfl rfl rfl ?_
  refine pu (.intOp rfl (.tmp rfl) .int rfl) rfl rfl rfl ?_
  refine pu (.move rfl (.tmp rfl)) rfl rfl rfl ?_
  refine ARun.gpure (want := true) (.tt rfl) (fun hg33 => PureOp.fieldPtr rfl (.tmp rfl) f30_) rfl rfl (nB rfl) rfl (nB rfl) ?_
  refine ARun.gpure (want := true) (.tt rfl) (fun hg34 => PureOp.loadPtr rfl (.gtmp rfl hg34) f9_ rfl rfl (nB rfl) (nB rfl)) rfl rfl (nB rfl) rfl (nB rfl) ?_
  refine ARun.gpure (want := true) (.tt rfl) (fun hg35 => PureOp.call rfl (v_l1In h.offset 0 1000) ⟨⟨_, (.gtmp rfl hg35), .int⟩, ⟨_, .int, .int⟩, ⟨_, .int, .int⟩, trivial⟩ f18_ trivial) rfl rfl (nB rfl) rfl (nB rfl) ?_
  refine pu (.pick rfl (.tmp rfl) (fun hp36 => .gtmp rfl hp36) (fun _ => .bool)) rfl rfl rfl ?_
  refine pu (.assign rfl (.tmp rfl)) rfl rfl rfl ?_
  refine ARun.nil ?_
  refine AW.ret (show ResL _ _ [.tmp 2] _ from resB rfl ?_)
  unfold goodHead; rw [hall]; rfl
def rowBadI (h : GHead) (k : Nat) : Bool :=
  cond (cond (cond (!(nameB ((h.rows.getD k (default : GRow)).name) false)) true (cond (decide (0 < (k : Int))) (!Op.bytesLess ((h.rows.getD (k - 1) (default : GRow)).name).toList ((h.rows.getD k (default : GRow)).name).toList) false)) true (decide (((((h.rows.getD k (default : GRow)).samples).length : Nat) : Int) = 0))) true (!(samplesB ((h.rows.getD k (default : GRow)).samples)))
theorem rowBad_eq (h : GHead) (k : Nat) : rowBad h k = rowBadI h k := by
  unfold rowBad rowBadI
  generalize nameB _ false = a1
  generalize samplesB _ = a2
  generalize decide ((_ : Int) = 0) = a3
  generalize cond (decide ((0 : Int) < (k : Int))) _ false = a4
  revert a1 a2 a3 a4; decide
theorem v_isHead (h : GHead) : Fn Tryz.prog 29 [.agg [.lst 2 h.rows.length (fun i0 j0 => ([.str ((h.rows.getD i0 (default : GRow)).name), .lst 2 (((h.rows.getD i0 (default : GRow)).samples).length) (fun i1 j1 => ([.int .i64 ((((h.rows.getD i0 (default : GRow)).samples).getD i1 (default : GSample)).at_), .int .i64 ((((h.rows.getD i0 (default : GRow)).samples).getD i1 (default : GSample)).value)] : List AV).getD j1 (.con undef))] : List AV).getD j0 (.con undef)), .int .i64 h.offset]] (.one (.bool (goodHead h))) := by
 refine Fn.of_body (fn := Tryz.f29) Tryz.func29 rfl (nB rfl) trivial ?_
 intro w0
 show AW _ 55 _ _ _ _
 refine AW.boundAL (t := 0) (j := 0) rfl rfl fun hx => ?_
 refine AW.seq ?_
 refine AW.region ?_
 refine ARun.box (id := 0) rfl (.tmp rfl) (SV.cells_of (by exact ⟨trivial, trivial, trivial⟩)) ⟨rfl, (by repeat first | exact trivial | refine ⟨by decide, by first | rfl | exact trivial | (intro i j; first | rfl | exact getD_no rfl | (dsimp only; split <;> first | rfl | exact getD_no rfl) | exact scl_no (by apply_assumption) _), ?_⟩)⟩ rfl rfl rfl (nB rfl) ?_
 refine pu (.assign rfl .bool) rfl rfl rfl ?_
 refine ARun.nil ?_
 refine AW.seq ?_
 refine AW.seq ?_
 refine AW.region ?_
 refine pu (.fieldPtr rfl (.tmp rfl) f29_) rfl rfl rfl ?_
 refine pu (.loadPtr rfl (.tmp rfl) f33_ rfl rfl (nB rfl) (nB rfl)) rfl rfl rfl ?_
 refine pu (.lenLst rfl (.tmp rfl) f35_) rfl rfl rfl ?_
 refine pu (.move rfl .int) rfl rfl rfl ?_
 refine ARun.nil ?_
 refine AW.block ?_
 refine AW.loop (ι := Nat) (fun k => ⟨[(1, .one (.ptr 0 2 0 0)), (6, .one (.lst 2 h.rows.length (fun i0 j0 => ([.str ((h.rows.getD i0 (default : GRow)).name), .lst 2 (((h.rows.getD i0 (default : GRow)).samples).length) (fun i1 j1 => ([.int .i64 ((((h.rows.getD i0 (default : GRow)).samples).getD i1 (default : GSample)).at_), .int .i64 ((((h.rows.getD i0 (default : GRow)).samples).getD i1 (default : GSample)).value)] : List AV).getD j1 (.con undef))] : List AV).getD j0 (.con undef)))), (7, .one (.int .i64 (h.rows.length : Int))), (8, .one (.int .i64 (k : Int)))], [(0, .cells [.lst 2 h.rows.length (fun i0 j0 => ([.str ((h.rows.getD i0 (default : GRow)).name), .lst 2 (((h.rows.getD i0 (default : GRow)).samples).length) (fun i1 j1 => ([.int .i64 ((((h.rows.getD i0 (default : GRow)).samples).getD i1 (default : GSample)).at_), .int .i64 ((((h.rows.getD i0 (default : GRow)).samples).getD i1 (default : GSample)).value)] : List AV).getD j1 (.con undef))] : List AV).getD j0 (.con undef)), .int .i64 h.offset])]⟩) (fun k => k ≤ h.rows.length ∧ ∀ j, j < k → rowBad h j = false) (fun k => h.rows.length - k) 0 ⟨Nat.zero_le _, fun j hj => absurd hj (by omega)⟩ ⟨⟨⟨_, rfl, rfl⟩, ⟨_, rfl, rfl⟩, ⟨_, rfl, rfl⟩, ⟨_, rfl, rfl⟩, trivial⟩, HeapLe.one rfl trivial⟩ ?_
 intro k hI
 obtain ⟨hk, hks⟩ := hI
 refine AW.seq ?_
 refine AW.region ?_
 refine pu (.intOp rfl (.tmp rfl) (.tmp rfl) rfl) rfl rfl rfl ?_
 refine ARun.nil ?_
 refine AW.seq ?_
 refine AW.cond (.tmp rfl) (fun hb1 => ?_) (fun hb1 => ?_)
 ·
  replace hb1 := of_decide_eq_true hb1
  have hkl : k < h.rows.length := by omega
  refine AW.skip ?_
  refine AW.seq ?_
  refine AW.block ?_
  refine AW.seq ?_
  refine AW.region ?_
  refine pu (.move rfl (.tmp rfl)) rfl rfl rfl ?_
  refine pu (.indexLst (i := k) rfl (.tmp rfl) f28_ (.tmp rfl) rfl (by omega)) rfl rfl rfl ?_
  refine pu (.loadRefAgg rfl (.tmp rfl) f27_ (nB rfl)) rfl rfl rfl ?_
  refine ARun.alloc (id := 1) (l := [.str ByteArray.empty, .lst 2 0 (fun _ _ => .con undef)]) (z := (.agg #[.string ByteArray.empty, .slice none 0 0])) rfl (by kernel_rfl) (fun _ _ _ => ⟨_, _, rfl, ⟨rfl, by decide⟩, ⟨_, _, rfl, ⟨none, 0, rfl, Nat.le_refl _, by decide, fun _ => rfl, fun i hi => absurd hi (by omega)⟩, rfl⟩⟩) ⟨rfl, (by repeat first | exact trivial | refine ⟨by decide, by first | rfl | exact trivial | (intro i j; first | rfl | exact getD_no rfl | (dsimp only; split <;> first | rfl | exact getD_no rfl) | exact scl_no (by apply_assumption) _), ?_⟩)⟩ rfl rfl rfl (nB rfl) ?_
  refine pu (.assign rfl (.tmp rfl)) rfl rfl rfl ?_
  refine ARun.store rfl (.tmp rfl) (.tmp rfl) (SV.cells_of (by exact ⟨trivial, trivial, trivial⟩)) rfl (nB rfl) f38_ rfl rfl ?_
  refine ARun.nil ?_
  refine AW.seq ?_
  refine AW.any (by kernel_rfl) (by kernel_rfl) ?_
  refine AD.pure (PureOp.fieldPtr rfl (.tmp rfl) f31_) rfl rfl (nB rfl) ?_
  refine AD.pure (PureOp.loadPtr rfl (.tmp rfl) f12_ rfl rfl (nB rfl) (nB rfl)) rfl rfl (nB rfl) ?_
  refine AD.pure (PureOp.call rfl (v_isWord ((h.rows.getD k (default : GRow)).name) false) ⟨⟨_, (.tmp rfl), .str⟩, ⟨_, .bool, .bool⟩, trivial⟩ f40_ trivial) rfl rfl (nB rfl) ?_
  refine AD.pure (PureOp.not rfl (.tmp rfl)) rfl rfl (nB rfl) ?_
  refine AD.pure (PureOp.move rfl (.tmp rfl)) rfl rfl (nB rfl) ?_
  refine AD.gpure (want := false) (.tf rfl) (fun hg2 => PureOp.move rfl (.tmp rfl)) rfl rfl rfl (nB rfl) ?_
  refine AD.gpure (want := false) (.tf rfl) (fun hg3 => PureOp.intOp rfl (.gtmp rfl hg3) .int rfl) rfl rfl rfl (nB rfl) ?_
  refine AD.gpure (want := false) (.tf rfl) (fun hg4 => PureOp.move rfl (.gtmp rfl hg4)) rfl rfl rfl (nB rfl) ?_
  refine AD.gpure (want := true) (.gt rfl) (fun hg5 => PureOp.fieldPtr rfl (.tmp rfl) f29_) rfl rfl rfl (nB rfl) ?_
  refine AD.gpure (want := true) (.gt rfl) (fun hg6 => PureOp.loadPtr rfl (.gtmp rfl hg6) f33_ rfl rfl (nB rfl) (nB rfl)) rfl rfl rfl (nB rfl) ?_
  refine AD.gpure (want := true) (.gt rfl) (fun hg7 => PureOp.move rfl (.tmp rfl)) rfl rfl rfl (nB rfl) ?_
  refine AD.gpure (want := true) (.gt rfl) (fun hg8 => PureOp.sub (c := (((k - 1) : Nat) : Int)) rfl (.gtmp rfl hg8) .int (by have q := hg8; simp only [Bool.cond_true_left, Bool.cond_false_right, Bool.not_eq_true', Bool.or_eq_false_iff, Bool.not_eq_false', Bool.and_eq_true, Bool.not_not, decide_eq_true_eq, decide_eq_false_iff_not, inB] at q; rw [wrap_id (by omega) (by omega)]; omega)) rfl rfl rfl (nB rfl) ?_
  refine AD.gpure (want := true) (.gt rfl) (fun hg9 => PureOp.indexLst (i := (k - 1)) rfl (.gtmp rfl hg9) f28_ (.gtmp rfl hg9) rfl (by have q := hg9; simp only [Bool.cond_true_left, Bool.cond_false_right, Bool.not_eq_true', Bool.or_eq_false_iff, Bool.not_eq_false', Bool.and_eq_true, Bool.not_not, decide_eq_true_eq, decide_eq_false_iff_not, inB] at q; omega)) rfl rfl rfl (nB rfl) ?_
  refine AD.gpure (want := true) (.gt rfl) (fun hg10 => PureOp.fieldRef rfl (.gtmp rfl hg10) f31_ (nB rfl)) rfl rfl rfl (nB rfl) ?_
  refine AD.gpure (want := true) (.gt rfl) (fun hg11 => PureOp.loadRef rfl (.gtmp rfl hg11) f12_ (nB rfl)) rfl rfl rfl (nB rfl) ?_
  refine AD.gpure (want := true) (.gt rfl) (fun hg12 => PureOp.fieldPtr rfl (.tmp rfl) f31_) rfl rfl rfl (nB rfl) ?_
  refine AD.gpure (want := true) (.gt rfl) (fun hg13 => PureOp.loadPtr rfl (.gtmp rfl hg13) f12_ rfl rfl (nB rfl) (nB rfl)) rfl rfl rfl (nB rfl) ?_
  refine AD.gpure (want := true) (.gt rfl) (fun hg14 => PureOp.strOp rfl (.gtmp rfl hg14) (.gtmp rfl hg14) rfl) rfl rfl rfl (nB rfl) ?_
  refine AD.gpure (want := false) (.tf rfl) (fun hg15 => PureOp.pick rfl (.gtmp rfl hg15) (fun hp16 => .gtmp rfl (and_mk hg15 hp16)) (fun _ => .bool)) rfl rfl rfl (nB rfl) ?_
  refine AD.pure (PureOp.pick rfl (.tmp rfl) (fun _ => .bool) (fun hp19 => .gtmp rfl (not_of hp19))) rfl rfl (nB rfl) ?_
  refine AD.pure (PureOp.move rfl (.tmp rfl)) rfl rfl (nB rfl) ?_
  refine AD.gpure (want := false) (.tf rfl) (fun hg20 => PureOp.fieldPtr rfl (.tmp rfl) f32_) rfl rfl rfl (nB rfl) ?_
  refine AD.gpure (want := false) (.tf rfl) (fun hg21 => PureOp.loadPtr rfl (.gtmp rfl hg21) f34_ rfl rfl (nB rfl) (nB rfl)) rfl rfl rfl (nB rfl) ?_
  refine AD.gpure (want := false) (.tf rfl) (fun hg22 => PureOp.lenLst rfl (.gtmp rfl hg22) f24_) rfl rfl rfl (nB rfl) ?_
  refine AD.gpure (want := false) (.tf rfl) (fun hg23 => PureOp.intOp rfl (.gtmp rfl hg23) .int rfl) rfl rfl rfl (nB rfl) ?_
  refine AD.pure (PureOp.pick rfl (.tmp rfl) (fun _ => .bool) (fun hp25 => .gtmp rfl (not_of hp25))) rfl rfl (nB rfl) ?_
  refine AD.pure (PureOp.move rfl (.tmp rfl)) rfl rfl (nB rfl) ?_
  refine AD.gpure (want := false) (.tf rfl) (fun hg26 => PureOp.fieldPtr rfl (.tmp rfl) f32_) rfl rfl rfl (nB rfl) ?_
  refine AD.gpure (want := false) (.tf rfl) (fun hg27 => PureOp.loadPtr rfl (.gtmp rfl hg27) f34_ rfl rfl (nB rfl) (nB rfl)) rfl rfl rfl (nB rfl) ?_
  refine AD.gpure (want := false) (.tf rfl) (fun hg28 => PureOp.call rfl (v_areSamples ((h.rows.getD k (default : GRow)).samples)) ⟨⟨_, (.gtmp rfl hg28), .lst⟩, trivial⟩ f50_ trivial) rfl rfl rfl (nB rfl) ?_
  refine AD.gpure (want := false) (.tf rfl) (fun hg29 => PureOp.not rfl (.gtmp rfl hg29)) rfl rfl rfl (nB rfl) ?_
  refine AD.pure (PureOp.pick rfl (.tmp rfl) (fun _ => .bool) (fun hp31 => .gtmp rfl (not_of hp31))) rfl rfl (nB rfl) ?_
  refine AD.nil ?_
  refine AW.cond (.tmp rfl) (fun hb32 => ?_) (fun hb32 => ?_)
  ·
   have hbd : rowBad h k = true := (rowBad_eq h k).trans hb32
   refine AW.seq ?_
   refine AW.region ?_
   refine pu (.assign rfl .bool) rfl rfl rfl ?_
   refine ARun.nil ?_
   refine AW.ret (show ResL _ _ [.tmp 2] _ from resB rfl ?_)
   have hno : (List.range h.rows.length).all (fun j => !rowBad h j) = false := rng_no hkl (by rw [hbd]; rfl)
   unfold goodHead; rw [hno]; rfl
  ·
   have hbd : rowBad h k = false := (rowBad_eq h k).trans hb32
   refine AW.skip ?_
   refine AW.region ?_
   refine pu (.add (c := ((k + 1 : Nat) : Int)) rfl (.tmp rfl) .int (by rw [wrap_id (by omega) (by omega)]; omega)) rfl rfl rfl ?_
   refine pu (.move rfl (.tmp rfl)) rfl rfl rfl ?_
   refine ARun.nil ?_
   exact ⟨k + 1, ⟨by omega, rng_succ (p := fun j => rowBad h j = false) hks hbd⟩, by dsimp only; omega, ⟨⟨⟨_, rfl, rfl⟩, ⟨_, rfl, rfl⟩, ⟨_, rfl, rfl⟩, ⟨_, rfl, rfl⟩, trivial⟩, HeapLe.one rfl trivial⟩⟩
 ·
  replace hb1 := of_decide_eq_false hb1
  have hkl : ¬ k < h.rows.length := by omega
  have hall : (List.range h.rows.length).all (fun j => !rowBad h j) = true := rng_yes (fun j hj => by rw [hks j (by omega)]; rfl)
  refine AW.exit ?_
  refine AW.seq ?_
  refine AW.region ?_
  refine pu (.fieldPtr rfl (.tmp rfl) f29_) rfl rfl rfl ?_
  refine pu (.loadPtr rfl (.tmp rfl) f33_ rfl rfl (nB rfl) (nB rfl)) rfl rfl rfl ?_
  refine pu (.lenLst rfl (.tmp rfl) f35_) rfl rfl rfl ?_
  refine pu (.intOp rfl (.tmp rfl) .int rfl) rfl rfl rfl ?_
  refine pu (.move rfl (.tmp rfl)) rfl rfl rfl ?_
  refine ARun.gpure (want := true) (.tt rfl) (fun hg33 => PureOp.fieldPtr rfl (.tmp rfl) f30_) rfl rfl (nB rfl) rfl (nB rfl) ?_
  refine ARun.gpure (want := true) (.tt rfl) (fun hg34 => PureOp.loadPtr rfl (.gtmp rfl hg34) f9_ rfl rfl (nB rfl) (nB rfl)) rfl rfl (nB rfl) rfl (nB rfl) ?_
  refine ARun.gpure (want := true) (.tt rfl) (fun hg35 => PureOp.call rfl (v_within h.offset 0 1000) ⟨⟨_, (.gtmp rfl hg35), .int⟩, ⟨_, .int, .int⟩, ⟨_, .int, .int⟩, trivial⟩ f19_ trivial) rfl rfl (nB rfl) rfl (nB rfl) ?_
  refine pu (.pick rfl (.tmp rfl) (fun hp36 => .gtmp rfl hp36) (fun _ => .bool)) rfl rfl rfl ?_
  refine pu (.assign rfl (.tmp rfl)) rfl rfl rfl ?_
  refine ARun.nil ?_
  refine AW.ret (show ResL _ _ [.tmp 2] _ from resB rfl ?_)
  unfold goodHead; rw [hall]; rfl
end Go.Proofs.YtonfeiloekofdaaGreatDoor

namespace Go.Proofs.YtonfeiloekofdaaGreatDoor
open Go.ChangeShapes Go.WideShapes Go.ChangeAt Go.RowKit Go.BigFrame Go.Deep
set_option linter.unusedVariables false
set_option linter.unusedSimpArgs false
def loF (h : GHead) (s : ByteArray) : Nat := h.rows.findIdx (fun r => decide (0 ≤ cmpS r.name s))
theorem good_step {h : GHead} (hg : goodHead h = true) {k : Nat} (h0 : 0 < k) (hk : k < h.rows.length) : Op.bytesLess (h.rows.getD (k - 1) (default : GRow)).name.toList (h.rows.getD k (default : GRow)).name.toList = true := by
  unfold goodHead at hg
  rw [Bool.and_eq_true] at hg
  have h1 := List.all_eq_true.1 hg.1 k (List.mem_range.2 hk)
  rw [Bool.not_eq_true'] at h1
  unfold rowBad at h1
  revert h1
  generalize nameB _ false = a1
  generalize samplesB _ = a2
  generalize decide ((_ : Int) = 0) = a3
  have e : decide ((0 : Int) < (k : Int)) = true := decide_eq_true (by omega)
  rw [e]
  generalize Op.bytesLess _ _ = a4
  revert a1 a2 a3 a4; decide
theorem good_lt {h : GHead} (hg : goodHead h = true) : ∀ (d a : Nat), a + (d + 1) < h.rows.length → Op.bytesLess (h.rows.getD a (default : GRow)).name.toList (h.rows.getD (a + (d + 1)) (default : GRow)).name.toList = true
  | 0, a, hl => good_step hg (k := a + 1) (by omega) hl
  | d + 1, a, hl => less_trans (good_lt hg d a (by omega)) (good_step hg (k := a + (d + 1 + 1)) (by omega) hl)
theorem loF_le (h : GHead) (s : ByteArray) : loF h s ≤ h.rows.length := List.findIdx_le_length
theorem loF_lt {h : GHead} {s : ByteArray} {a : Nat} (ha : a < loF h s) : cmpS (h.rows.getD a (default : GRow)).name s < 0 := by
  have hl : a < h.rows.length := Nat.lt_of_lt_of_le ha (loF_le h s)
  have h1 := List.not_of_lt_findIdx ha
  rw [List.getD_eq_getElem?_getD, List.getElem?_eq_getElem hl]
  have := of_decide_eq_false h1
  show cmpS (h.rows[a]).name s < 0
  omega
theorem loF_at {h : GHead} {s : ByteArray} (hl : loF h s < h.rows.length) : 0 ≤ cmpS (h.rows.getD (loF h s) (default : GRow)).name s := by
  rw [List.getD_eq_getElem?_getD, List.getElem?_eq_getElem hl]
  exact of_decide_eq_true (List.findIdx_getElem (w := hl))
theorem loF_ge {h : GHead} {s : ByteArray} (hg : goodHead h = true) {a : Nat} (h1 : loF h s ≤ a) (h2 : a < h.rows.length) : ¬ cmpS (h.rows.getD a (default : GRow)).name s < 0 := by
  intro hc
  have h3 := loF_at (h := h) (s := s) (by omega)
  by_cases e : loF h s = a
  · rw [e] at h3; omega
  · obtain ⟨d, rfl⟩ : ∃ d, a = loF h s + (d + 1) := ⟨a - loF h s - 1, by omega⟩
    have h4 := good_lt hg d (loF h s) h2
    have h5 := (cmpS_lt _ _).2 (less_trans h4 ((cmpS_lt _ _).1 hc))
    omega
theorem loF_eq {h : GHead} {s : ByteArray} (hg : goodHead h = true) {k : Nat} (hk : k < h.rows.length) (he : (h.rows.getD k (default : GRow)).name = s) : loF h s = k := by
  have h0 : cmpS (h.rows.getD k (default : GRow)).name s = 0 := (cmpS_zero _ _).2 he
  rcases Nat.lt_trichotomy (loF h s) k with h1 | h1 | h1
  · have h3 := loF_at (h := h) (s := s) (by omega)
    obtain ⟨d, rfl⟩ : ∃ d, k = loF h s + (d + 1) := ⟨k - loF h s - 1, by omega⟩
    have h4 := good_lt hg d (loF h s) hk
    rw [he] at h4
    have := (cmpS_lt _ _).2 h4
    omega
  · exact h1
  · have := loF_lt h1
    omega
def isRow (h : GHead) (s : ByteArray) : Bool := decide (loF h s < h.rows.length) && decide ((h.rows.getD (loF h s) (default : GRow)).name = s)
def rowV (h : GHead) (s : ByteArray) : List GSample × Bool := if goodHead h = true ∧ isRow h s = true then ((h.rows.getD (loF h s) (default : GRow)).samples, true) else ([], false)
end Go.Proofs.YtonfeiloekofdaaGreatDoor

namespace Go.Proofs.YtonfeiloekofdaaGreatDoor
open Go.ChangeShapes Go.WideShapes Go.ChangeAt Go.RowKit Go.BigFrame Go.Deep
set_option linter.unusedVariables false
set_option linter.unusedSimpArgs false
theorem AW.hle {P : Program} {N : Nat} {w0 : Start} {c : Code} {Q : Exit → Sig → Prop} {e : Env} {H H' : Heap} (h : HeapLe H H') (hk : AW P N w0 c Q ⟨e, H'⟩) : AW P N w0 c Q ⟨e, H⟩ :=
  fun ρ S a w Q' hQ hs => hk ρ S a w Q' hQ ⟨hs.size, hs.defers, hs.below, hs.mem.le' fun k p hp => h.get hp, hs.env⟩
abbrev rowK (h : GHead) (x : GSay) : GRow := h.rows.getD (loF h x.name) (default : GRow)
abbrev smpX (x : GSay) : GSample := ⟨x.at_, x.value⟩
abbrev takeLast (h : GHead) (x : GSay) : GSample := (rowK h x).samples.getD ((rowK h x).samples.length - 1) (default : GSample)
def addS (h : GHead) (x : GSay) : List GSample := if isRow h x.name = true then (rowK h x).samples ++ [smpX x] else [smpX x]
def takeCode (h : GHead) (x : GSay) : Nat := if isRow h x.name = true then (if (takeLast h x).at_ = x.at_ then 2 else if x.at_ < (takeLast h x).at_ then 3 else if (rowK h x).samples.length = 40 then 4 else 1) else if h.rows.length = 8 then 4 else 1
def insL {α : Type} (l : List α) (k : Nat) (r : α) : List α := l.take k ++ r :: l.drop k
def takeR (h : GHead) (x : GSay) : List GRow := if takeCode h x = 1 then (if isRow h x.name = true then h.rows.set (loF h x.name) ⟨(rowK h x).name, addS h x⟩ else insL h.rows (loF h x.name) ⟨x.name, addS h x⟩) else h.rows
def takeH (h : GHead) (x : GSay) : GHead := ⟨takeR h x, h.offset + 1⟩
def takeN (h : GHead) (x : GSay) : Nat := if takeCode h x = 1 ∧ isRow h x.name = false then h.rows.length + 1 else h.rows.length
theorem insL_len {α : Type} {l : List α} {k : Nat} {r : α} (hk : k ≤ l.length) : (insL l k r).length = l.length + 1 := by
  unfold insL; rw [List.length_append, List.length_take, List.length_cons, List.length_drop]; omega
theorem insL_at {α : Type} (d : α) {l : List α} {k : Nat} {r : α} (hk : k ≤ l.length) (a : Nat) : (insL l k r).getD a d = if a < k then l.getD a d else if a = k then r else l.getD (a - 1) d := by
  unfold insL
  rw [List.getD_eq_getElem?_getD, List.getD_eq_getElem?_getD, List.getD_eq_getElem?_getD, List.getElem?_append, List.length_take]
  by_cases h1 : a < k
  · rw [if_pos h1, if_pos (by omega), List.getElem?_take, if_pos h1]
  · rw [if_neg h1, if_neg (by omega), show min k l.length = k by omega]
    by_cases h2 : a = k
    · subst h2; rw [if_pos rfl, Nat.sub_self]; rfl
    · rw [if_neg h2]
      obtain ⟨d', hd⟩ : ∃ d', a - k = d' + 1 := ⟨a - k - 1, by omega⟩
      rw [hd, List.getElem?_cons_succ, List.getElem?_drop, show k + d' = a - 1 by omega]
theorem takeN_len (h : GHead) (x : GSay) : takeN h x = (takeH h x).rows.length := by
  show takeN h x = (takeR h x).length
  unfold takeN takeR
  have hk := loF_le h x.name
  by_cases h1 : takeCode h x = 1
  · rw [if_pos h1]
    cases h2 : isRow h x.name with
    | true => rw [if_neg (fun e => by cases e.2), if_pos rfl, List.length_set]
    | false => rw [if_pos ⟨h1, rfl⟩, if_neg (by simp), insL_len hk]
  · rw [if_neg h1, if_neg (fun e => h1 e.1)]
theorem row_lo {h : GHead} {s : ByteArray} (hr : isRow h s = true) : loF h s < h.rows.length := by
  unfold isRow at hr; rw [Bool.and_eq_true] at hr; exact of_decide_eq_true hr.1
theorem good_len {h : GHead} (hg : goodHead h = true) : h.rows.length ≤ 8 := by
  unfold goodHead at hg
  rw [Bool.and_eq_true] at hg
  have h1 := hg.2
  by_cases h2 : (h.rows.length : Int) ≤ 8
  · omega
  · rw [decide_eq_false h2] at h1; cases h1
theorem good_at {h : GHead} (hg : goodHead h = true) {k : Nat} (hk : k < h.rows.length) : nameB (h.rows.getD k (default : GRow)).name false = true ∧ 0 < (h.rows.getD k (default : GRow)).samples.length ∧ samplesB (h.rows.getD k (default : GRow)).samples = true := by
  unfold goodHead at hg
  rw [Bool.and_eq_true] at hg
  have h1 := List.all_eq_true.1 hg.1 k (List.mem_range.2 hk)
  rw [Bool.not_eq_true'] at h1
  unfold rowBad at h1
  revert h1
  generalize nameB _ false = a1
  generalize samplesB _ = a2
  by_cases h3 : ((h.rows.getD k (default : GRow)).samples.length : Int) = 0
  · rw [decide_eq_true h3]
    generalize cond (decide ((0 : Int) < (k : Int))) _ false = a4
    intro h1; revert h1; revert a1 a2 a4; simp
  · rw [decide_eq_false h3]
    generalize cond (decide ((0 : Int) < (k : Int))) _ false = a4
    intro h1
    have : a1 = true ∧ a2 = true := by revert h1; revert a1 a2 a4; decide
    exact ⟨this.1, by omega, this.2⟩
theorem smp_40 {l : List GSample} (h : samplesB l = true) : l.length ≤ 40 := by
  unfold samplesB at h; rw [Bool.and_eq_true] at h
  have := of_decide_eq_true h.2
  omega
theorem tk_full8 {h : GHead} {x : GSay} (hir : isRow h x.name = false) (h8 : h.rows.length = 8) : takeCode h x = 4 := by unfold takeCode; rw [hir, if_neg (by simp), if_pos h8]
theorem tk_ins {h : GHead} {x : GSay} (hir : isRow h x.name = false) (h8 : ¬ h.rows.length = 8) : takeCode h x = 1 := by unfold takeCode; rw [hir, if_neg (by simp), if_neg h8]
theorem tk_again {h : GHead} {x : GSay} (hir : isRow h x.name = true) (h1 : (takeLast h x).at_ = x.at_) : takeCode h x = 2 := by unfold takeCode; rw [hir, if_pos rfl, if_pos h1]
theorem tk_late {h : GHead} {x : GSay} (hir : isRow h x.name = true) (h1 : ¬ (takeLast h x).at_ = x.at_) (h2 : x.at_ < (takeLast h x).at_) : takeCode h x = 3 := by unfold takeCode; rw [hir, if_pos rfl, if_neg h1, if_pos h2]
theorem tk_full {h : GHead} {x : GSay} (hir : isRow h x.name = true) (h1 : ¬ (takeLast h x).at_ = x.at_) (h2 : ¬ x.at_ < (takeLast h x).at_) (h3 : (rowK h x).samples.length = 40) : takeCode h x = 4 := by unfold takeCode; rw [hir, if_pos rfl, if_neg h1, if_neg h2, if_pos h3]
theorem tk_new {h : GHead} {x : GSay} (hir : isRow h x.name = true) (h1 : ¬ (takeLast h x).at_ = x.at_) (h2 : ¬ x.at_ < (takeLast h x).at_) (h3 : ¬ (rowK h x).samples.length = 40) : takeCode h x = 1 := by unfold takeCode; rw [hir, if_pos rfl, if_neg h1, if_neg h2, if_neg h3]
theorem tN_old {h : GHead} {x : GSay} (hc : ¬ takeCode h x = 1) : takeN h x = h.rows.length := if_neg fun e => hc e.1
theorem tN_row {h : GHead} {x : GSay} (hir : isRow h x.name = true) : takeN h x = h.rows.length := if_neg fun e => by rw [hir] at e; cases e.2
theorem tN_ins {h : GHead} {x : GSay} (hir : isRow h x.name = false) (hc : takeCode h x = 1) : takeN h x = h.rows.length + 1 := if_pos ⟨hc, hir⟩
theorem tR_old {h : GHead} {x : GSay} (hc : ¬ takeCode h x = 1) : (takeH h x).rows = h.rows := if_neg hc
theorem tR_row {h : GHead} {x : GSay} (hir : isRow h x.name = true) (hc : takeCode h x = 1) : (takeH h x).rows = h.rows.set (loF h x.name) ⟨(rowK h x).name, addS h x⟩ := by show takeR h x = _; unfold takeR; rw [if_pos hc, if_pos hir]
theorem tR_ins {h : GHead} {x : GSay} (hir : isRow h x.name = false) (hc : takeCode h x = 1) : (takeH h x).rows = insL h.rows (loF h x.name) ⟨x.name, addS h x⟩ := by show takeR h x = _; unfold takeR; rw [if_pos hc, hir, if_neg (by simp)]
theorem getD_app {α : Type} (d : α) (l m : List α) (i : Nat) : (l ++ m).getD i d = if i < l.length then l.getD i d else m.getD (i - l.length) d := by
  rw [List.getD_eq_getElem?_getD, List.getD_eq_getElem?_getD, List.getD_eq_getElem?_getD, List.getElem?_append]
  by_cases h1 : i < l.length
  · rw [if_pos h1, if_pos h1]
  · rw [if_neg h1, if_neg h1]
theorem addS_row {h : GHead} {x : GSay} (hir : isRow h x.name = true) : addS h x = (rowK h x).samples ++ [smpX x] := if_pos hir
theorem addS_ins {h : GHead} {x : GSay} (hir : isRow h x.name = false) : addS h x = [smpX x] := if_neg (by rw [hir]; simp)
theorem addS_cell {h : GHead} {x : GSay} (hir : isRow h x.name = true) {i j : Nat} (hi : i < (rowK h x).samples.length + 1) (hj : j < 2) : (if i < (rowK h x).samples.length then ceSample ((rowK h x).samples.getD i (default : GSample)) j else ([.int .i64 x.at_, .int .i64 x.value] : List AV).getD j (.con undef)) = ceSample ((addS h x).getD i (default : GSample)) j := by
  rw [addS_row hir]
  by_cases h1 : i < (rowK h x).samples.length
  · rw [if_pos h1, getD_app, if_pos h1]
  · rw [if_neg h1, getD_app, if_neg h1, show i - (rowK h x).samples.length = 0 by omega]
    exact (match j, hj with | 0, _ => rfl | 1, _ => rfl | _ + 2, h => absurd h (by omega))
def takeX (h : GHead) (x : GSay) (q : Nat) : AV := if q < h.rows.length then rowX0 h q else .lst 2 (addS h x).length (fun a b => ceSample ((addS h x).getD a (default : GSample)) b)
theorem takeX_lt {h : GHead} {x : GSay} {q : Nat} (hq : q < h.rows.length) : takeX h x q = rowX0 h q := if_pos hq
theorem takeX_n (h : GHead) (x : GSay) : takeX h x h.rows.length = .lst 2 (addS h x).length (fun a b => ceSample ((addS h x).getD a (default : GSample)) b) := if_neg (Nat.lt_irrefl _)
theorem rowC0_ren {h : GHead} {K K' : Nat} {q : Nat → Nat} (hq : q K = K') : ∀ a b, rowC0 h K' a b = (rowC0 h K a b).ren q := fun a b => match b with
  | 0 => rfl
  | 1 => by subst hq; rfl
  | _ + 2 => rfl
theorem rowC0_no {h : GHead} {K id : Nat} (hk : (K == id) = false) (a b : Nat) : (rowC0 h K a b).no id = true := match b with
  | 0 => rfl
  | 1 => by show (!(K == id)) = true; rw [hk]; rfl
  | _ + 2 => rfl
abbrev newC (x : GSay) : Nat → Nat → AV := fun _ jc => ([.str x.name, .con (.slice none 0 0)] : List AV).getD jc (.con undef)
theorem insF_no {f g : Nat → Nat → AV} {id : Nat} (hf : ∀ a b, (f a b).no id = true) (hg : ∀ a b, (g a b).no id = true) (i a b : Nat) : (insF f g i a b).no id = true := by
  unfold insF
  split
  · exact hf a b
  · split
    · exact hg 0 b
    · exact hf _ b
def pmI (n k q : Nat) : Nat := if q < k then q else if q = k then n else q - 1
theorem pmI_lt {n k : Nat} : ∀ i, i < n + 1 → pmI n k i < n + 1 := fun i hi => by unfold pmI; split <;> (try split) <;> omega
theorem pmI_inj {n k : Nat} (hk : k ≤ n) : ∀ i j, i < n + 1 → j < n + 1 → pmI n k i = pmI n k j → i = j := fun i j hi hj e => by
  unfold pmI at e
  split at e <;> split at e <;> (try split at e) <;> (try split at e) <;> omega
theorem row_id {h : GHead} {K K2 : Nat} : ∀ i j, i < h.rows.length → j < 2 → rowC0 h K2 i j = rowC0 h K i j ∨ ∃ p, p < h.rows.length ∧ rowC0 h K i j = .tre K (id p) ∧ rowC0 h K2 i j = .tre K2 p := fun i j hi hj => match j, hj with
  | 0, _ => .inl rfl
  | 1, _ => .inr ⟨i, hi, rfl, rfl⟩
  | _ + 2, h => absurd h (by omega)
def skP (k q : Nat) : Nat := if q < k then q else q + 1
theorem skP_lt {n k : Nat} (hk : k < n) : ∀ i, i < n - 1 → skP k i < n := fun i hi => by unfold skP; split <;> omega
theorem skP_inj {n k : Nat} : ∀ i j, i < n - 1 → j < n - 1 → skP k i = skP k j → i = j := fun i j _ _ e => by unfold skP at e; split at e <;> split at e <;> omega
theorem pmI_lt' {n k : Nat} (hn : 0 < n) : ∀ i, i < n → pmI (n - 1) k i < n - 1 + 1 := fun i hi => pmI_lt i (by omega)
theorem pmI_inj' {n k : Nat} (hk : k < n) : ∀ i j, i < n → j < n → pmI (n - 1) k i = pmI (n - 1) k j → i = j := fun i j hi hj e => pmI_inj (by omega) i j (by omega) (by omega) e
def rowS (h : GHead) (k a b : Nat) : AV := if a = k ∧ b = 1 then .tre 500 k else ([.str (h.rows.getD a (default : GRow)).name, .tre 501 (if a < k then a else a - 1)] : List AV).getD b (.con undef)
theorem rowS_no {h : GHead} {k id : Nat} (h1 : (500 == id) = false) (h2 : (501 == id) = false) (a b : Nat) : (rowS h k a b).no id = true := by
  unfold rowS
  split
  · show (!(500 == id)) = true; rw [h1]; rfl
  · exact (match b with | 0 => rfl | 1 => by show (!(501 == id)) = true; rw [h2]; rfl | _ + 2 => rfl)
theorem row_skip {h : GHead} {k : Nat} (hk : k < h.rows.length) : ∀ i j, i < h.rows.length → j < 2 → rowS h k i j = rowC0 h 500 i j ∨ ∃ p, p < h.rows.length - 1 ∧ rowC0 h 500 i j = .tre 500 (skP k p) ∧ rowS h k i j = .tre 501 p := fun i j hi hj => match j, hj with
  | 0, _ => .inl (by unfold rowS; rw [if_neg (by omega)]; rfl)
  | 1, _ => by
    by_cases e : i = k
    · subst e; exact .inl (if_pos ⟨rfl, rfl⟩)
    · refine .inr ⟨if i < k then i else i - 1, by split <;> omega, ?_, ?_⟩
      · show AV.tre 500 i = AV.tre 500 _
        rw [show skP k (if i < k then i else i - 1) = i from by
          unfold skP
          by_cases h : i < k
          · rw [if_pos h, if_pos h]
          · rw [if_neg h, if_neg (by omega)]; omega]
      · unfold rowS; rw [if_neg (fun h => e h.1)]; rfl
  | _ + 2, h => absurd h (by omega)
theorem rowX_old {h : GHead} {x : GSay} (hc : ¬ takeCode h x = 1) {q : Nat} (hq : q < h.rows.length) : takeX h x q = rowX0 (takeH h x) q := by
  rw [takeX_lt hq]; unfold rowX0; rw [tR_old hc]
theorem rowC_old {h : GHead} {x : GSay} (hc : ¬ takeCode h x = 1) (K a b : Nat) : rowC0 h K a b = rowC0 (takeH h x) K a b := by
  unfold rowC0; rw [tR_old hc]
theorem set_at {α : Type} (d : α) {l : List α} {k : Nat} {r : α} (hk : k < l.length) (a : Nat) : (l.set k r).getD a d = if a = k then r else l.getD a d := by
  rw [List.getD_eq_getElem?_getD, List.getD_eq_getElem?_getD, List.getElem?_set]
  by_cases e : a = k
  · subst e; rw [if_pos rfl, if_pos rfl, if_pos hk]; rfl
  · rw [if_neg e, if_neg (fun h => e h.symm)]
def takeY (h : GHead) (x : GSay) (q : Nat) : AV := if q < h.rows.length - 1 then takeX h x (skP (loF h x.name) q) else .lst 2 (addS h x).length (fun a b => ceSample ((addS h x).getD a (default : GSample)) b)
theorem takeY_hole {h : GHead} {x : GSay} {vv : Value} {q : Nat} (hq : q < h.rows.length - 1) : (if skP (loF h x.name) q = loF h x.name then .con vv else takeX h x (skP (loF h x.name) q)) = takeY h x q := by
  rw [if_neg (by unfold skP; split <;> omega), takeY, if_pos hq]
theorem takeY_n (h : GHead) (x : GSay) : takeY h x (h.rows.length - 1) = .lst 2 (addS h x).length (fun a b => ceSample ((addS h x).getD a (default : GSample)) b) := if_neg (Nat.lt_irrefl _)
theorem row_back {h : GHead} {k : Nat} : ∀ a b, a < h.rows.length → b < 2 → (if a = k ∧ b = 1 then .tre 500 k else rowC0 h 78 a b) = rowS h k a b ∨ ∃ p, p < h.rows.length ∧ rowS h k a b = .tre 501 (pmI (h.rows.length - 1) k p) ∧ (if a = k ∧ b = 1 then .tre 500 k else rowC0 h 78 a b) = .tre 78 p := fun a b ha hb => match b, hb with
  | 0, _ => by
    refine .inl ?_
    unfold rowS
    rw [if_neg (by omega), if_neg (by omega)]; rfl
  | 1, _ => by
    unfold rowS
    by_cases e2 : a = k
    · rw [if_pos ⟨e2, rfl⟩, if_pos ⟨e2, rfl⟩]; exact .inl rfl
    · refine .inr ⟨a, ha, ?_, ?_⟩
      · rw [if_neg (fun h => e2 h.1)]
        show AV.tre 501 _ = AV.tre 501 _
        rw [show pmI (h.rows.length - 1) k a = if a < k then a else a - 1 from by
          unfold pmI
          by_cases e : a < k
          · rw [if_pos e, if_pos e]
          · rw [if_neg e, if_neg e, if_neg e2]]
      · rw [if_neg (fun h => e2 h.1)]; rfl
  | _ + 2, h => absurd h (by omega)
theorem pmI_self {n k : Nat} : pmI n k k = n := by unfold pmI; rw [if_neg (Nat.lt_irrefl _), if_pos rfl]
theorem rowC_row {h : GHead} {x : GSay} (hir : isRow h x.name = true) (hc : takeCode h x = 1) (K a b : Nat) : (if a = loF h x.name ∧ b = 1 then .tre K (loF h x.name) else if a = loF h x.name ∧ b = 1 then .tre 500 (loF h x.name) else rowC0 h K a b) = rowC0 (takeH h x) K a b := by
  have h1 : rowC0 (takeH h x) K a b = rowC0 h K a b := by
    unfold rowC0; rw [tR_row hir hc, set_at _ (row_lo hir)]
    by_cases e : a = loF h x.name
    · rw [if_pos e, e]
    · rw [if_neg e]
  rw [h1]
  by_cases e : a = loF h x.name ∧ b = 1
  · rw [if_pos e, e.1, e.2]; rfl
  · rw [if_neg e, if_neg e]
theorem rowX_row {h : GHead} {x : GSay} (hir : isRow h x.name = true) (hc : takeCode h x = 1) {q : Nat} (hq : q < h.rows.length) : takeY h x (pmI (h.rows.length - 1) (loF h x.name) q) = rowX0 (takeH h x) q := by
  have hlo := row_lo hir
  unfold rowX0 pmI
  rw [tR_row hir hc, set_at _ hlo]
  by_cases e : q < loF h x.name
  · rw [if_pos e, if_neg (by omega), takeY, if_pos (by omega), skP, if_pos e, takeX_lt hq]; rfl
  · rw [if_neg e]
    by_cases e2 : q = loF h x.name
    · rw [if_pos e2, if_pos e2, takeY_n]
    · rw [if_neg e2, if_neg e2, takeY, if_pos (by omega), skP, if_neg (by omega), show q - 1 + 1 = q by omega, takeX_lt hq]; rfl
theorem rowX_ins {h : GHead} {x : GSay} (hir : isRow h x.name = false) (hc : takeCode h x = 1) {q : Nat} (hq : q < h.rows.length + 1) : takeX h x (pmI h.rows.length (loF h x.name) q) = rowX0 (takeH h x) q := by
  have hlo := loF_le h x.name
  unfold rowX0 pmI
  rw [tR_ins hir hc, insL_at _ hlo]
  by_cases e : q < loF h x.name
  · rw [if_pos e, if_pos e, takeX_lt (by omega)]; rfl
  · rw [if_neg e, if_neg e]
    by_cases e2 : q = loF h x.name
    · rw [if_pos e2, if_pos e2, takeX_n]
    · rw [if_neg e2, if_neg e2, takeX_lt (by omega)]; rfl
end Go.Proofs.YtonfeiloekofdaaGreatDoor
