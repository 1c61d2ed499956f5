/-
  Part 4 of the proof: the texts of a seat's own library, joined.
-/
import Derived.Test.YtmfkmifkkplidaaFsa3
/-
  A calculus for walks, part 43: a tree that is a row with a column of rows becomes a row of the walk's own.
-/
namespace Go.Proofs.Ytmfkmifkkplidaa
open Go.ChangeShapes Go.WideShapes Go.ChangeAt Go.RowKit Go.BigFrame Go.Deep
set_option linter.unusedVariables false

set_option linter.unusedSimpArgs false
section
variable {P : Program} {N : Nat} {w0 : Start} {σ : Sig} {ops : Array Oper} {rest : List Oper} {o : Oper} {Q : Sig → Prop}
theorem St.openRowC {ρ : Rho} {S : Nat → Prop} {a : Act} {w : World} (hs : St N w0 ρ S σ a w) {K q m sz c n id L : Nat} {X : Nat → AV} {f : Nat → Nat → AV} (hK : σ.heap.lookup K = some (.trees m X)) (hq : q < m) (hX : X q = .lst sz n f) (hcs : c < sz)
    (hlst : ∀ i, i < n → ∃ s k g, f i c = .lst s k g) (hscl : ∀ i j, i < n → j < sz → j ≠ c → (f i j).scl = true) (hf : Fr id σ) (hL : Fr L σ) (hne : id ≠ L) : ∃ ρ', St N w0 ρ' S ⟨σ.env, (id, .arr sz n fun i j => if j = c then .tre L i else f i j) :: (L, .trees n fun i => f i c) :: σ.heap.filter fun p => p.1 != K⟩ a w ∧ ∀ v, R ρ' w S (.tre K q) v → R ρ' w S (.own id sz n) v := by
  obtain ⟨t1, t2⟩ := hs.mem.tree K m X hK q hq
  rw [hX] at t1
  unfold Tr at t1
  obtain ⟨A, cp, e, hnc, hcm, hcase⟩ := t1
  obtain ⟨b, cs, F, hA, hblk, hcell, hFd⟩ : ∃ (b : Nat) (cs : Array Value) (F : Nat → Nat → Nat → Prop), (A = some ⟨b, 0, none⟩ ∨ (A = none ∧ cp = 0)) ∧ (cp ≠ 0 → ρ.tb K q b ∧ (∃ e, w.heap[b]? = some (.cells cs e (0, 0))) ∧ cs.size = cp * sz) ∧
      (∀ i j, i < n → j < sz → (∀ p, F i j p → ρ.tb K q p ∧ p ≠ b) ∧ ∃ u, cs[i * sz + j]? = some u ∧ Tr w (f i j) u (F i j)) ∧ ∀ i i', i < n → i' < n → i ≠ i' → ∀ p, F i c p → ¬ F i' c p := by
    rcases hcase with ⟨rfl, hA⟩ | ⟨b, cs, e', g1, g2, g3, g4, F, g5, g6⟩
    · rcases hA with hA | ⟨b, hA⟩
      · exact ⟨0, #[], fun _ _ _ => False, .inr ⟨hA, rfl⟩, fun h => absurd rfl h, fun i j hi => absurd hi (by omega), fun i i' hi => absurd hi (by omega)⟩
      · exact ⟨b, #[], fun _ _ _ => False, .inl hA, fun h => absurd rfl h, fun i j hi => absurd hi (by omega), fun i i' hi => absurd hi (by omega)⟩
    · exact ⟨b, cs, F, .inl g1, fun _ => ⟨g2, ⟨e', g3⟩, g4⟩, g5, fun i i' hi hi' hne p h1 => g6 i c i' c hi hcs hi' hcs (fun e => hne e.1) p h1⟩
  let ρ' : Rho := ⟨fun k => if k = id then (b, cp) else if k = L then (0, 0) else ρ k, ρ.base, fun k i => if k = L then cs.getD (i * sz + c) undef else ρ.tv k i, fun k i => if k = L then F i c else ρ.tb k i, fun k => if k = L then n else ρ.tn k⟩
  have hρA : ∀ k, k ≠ id → k ≠ L → Rho.At ρ ρ' k := fun k hk hk' => ⟨(if_neg hk).trans (if_neg hk'), by funext i; simp [ρ', hk'], by funext i; simp [ρ', hk'], by simp [ρ', hk']⟩
  have hmL : ρ' L = (0, 0) := (if_neg (Ne.symm hne)).trans (if_pos rfl)
  have hmid : ρ' id = (b, cp) := if_pos rfl
  have hm : ∀ k, k ≠ id → k ≠ L → ρ' k = ρ k := fun k hk hk' => (if_neg hk).trans (if_neg hk')
  have hkeep : ∀ {x : AV} {u : Value}, x.no id = true → x.no L = true → R ρ w S x u → R ρ' w S x u := fun {x u} hx hx' hr => hr.keep (ρ := ρ) (Same.refl _ _) ⟨rfl, fun p => by
    by_cases hp : p = id
    · subst hp; exact .inr hx
    · by_cases hp' : p = L
      · subst hp'; exact .inr hx'
      · exact .inl (hρA p hp hp')⟩
  have hget : ∀ k p, (σ.heap.filter fun p => p.1 != K).lookup k = some p → σ.heap.lookup k = some p ∧ k ≠ K ∧ k ≠ id ∧ k ≠ L ∧ p.No id ∧ p.No L := fun k p hp => by
    obtain ⟨f1, f2⟩ := filter_lookup hp
    exact ⟨f2, f1, (hf.heap.get f2).1, (hL.heap.get f2).1, (hf.heap.get f2).2, (hL.heap.get f2).2⟩
  have cases3 : ∀ {k : Nat} {p : AObj}, ((id, AObj.arr sz n fun i j => if j = c then .tre L i else f i j) :: (L, AObj.trees n fun i => f i c) :: σ.heap.filter fun p => p.1 != K).lookup k = some p → (k = id ∧ p = .arr sz n fun i j => if j = c then .tre L i else f i j) ∨ (k = L ∧ p = .trees n fun i => f i c) ∨ (σ.heap.filter fun p => p.1 != K).lookup k = some p := fun {k p} hp => by
    rcases lookup_put hp with ⟨rfl, rfl⟩ | ⟨_, hp⟩
    · exact .inl ⟨rfl, rfl⟩
    · rcases lookup_put hp with ⟨rfl, rfl⟩ | ⟨_, hp⟩
      · exact .inr (.inl ⟨rfl, rfl⟩)
      · exact .inr (.inr hp)
  have htL : ∀ i, i < n → Tr w (f i c) (ρ'.tv L i) (F i c) := fun i hi => by
    obtain ⟨_, u, hu, hT⟩ := hcell i c hi hcs
    show Tr w (f i c) (if L = L then cs.getD (i * sz + c) undef else _) (F i c)
    rw [if_pos rfl, Array.getD_eq_getD_getElem?, hu]; exact hT
  refine ⟨ρ', ?_, ?_⟩
  · refine ⟨hs.size, hs.defers, ⟨hs.below.old, hs.below.same, fun k hk => (hs.below.ids k hk).trans (hρA k (fun e => by have := hf.small; omega) (fun e => by have := hL.small; omega))⟩, ⟨hs.mem.base, hs.mem.low, hs.mem.lt, ?_, ?_, ?_, ?_⟩, fun t' s ht' => ?_⟩
    · intro k p hp
      rcases cases3 hp with ⟨rfl, rfl⟩ | ⟨rfl, rfl⟩ | hp
      · rw [hmid]; exact hnc
      · exact Nat.zero_le _
      · obtain ⟨h1, _, h3, h4, _⟩ := hget k p hp
        rw [hm k h3 h4]; exact hs.mem.cap k p h1
    · intro k p hp hc
      rcases cases3 hp with ⟨rfl, rfl⟩ | ⟨rfl, rfl⟩ | hp
      · rw [hmid] at hc ⊢
        obtain ⟨g1, ⟨e', g2⟩, g3⟩ := hblk hc
        obtain ⟨q1, q2, q3, _⟩ := t2 b g1
        refine ⟨cs, e', g2, g3, hnc, hcm, q1, q3, fun i j hi hj => ?_⟩
        have hi : i < n := hi
        have hj : j < sz := hj
        obtain ⟨_, u, hu, hT⟩ := hcell i j hi hj
        refine ⟨u, hu, ?_⟩
        show R ρ' w S (if j = c then .tre L i else f i j) u
        by_cases hjc : j ≠ c
        · rw [if_neg hjc]
          have hl := hscl i j hi hj hjc
          refine hkeep (scl_no hl _) (scl_no hl _) ?_
          generalize f i j = y at hT hl
          cases y <;> first | exact hT | cases hl
        obtain rfl : j = c := Decidable.not_not.1 hjc
        rw [if_pos rfl]
        show u = (if L = L then cs.getD (i * sz + j) undef else _) ∧ i < (if L = L then n else _) ∧ _
        rw [if_pos rfl, if_pos rfl]
        refine ⟨by rw [Array.getD_eq_getD_getElem?, hu]; rfl, hi, ?_⟩
        obtain ⟨s, k, g, hg⟩ := hlst i hi
        rw [hg] at hT
        obtain ⟨A', c', e'', _⟩ := hT
        exact ⟨A', k, c', e''⟩
      · exact absurd (by rw [hmL]) hc
      · obtain ⟨h1, _, h3, h4, h5, h6⟩ := hget k p hp
        rw [hm k h3 h4] at hc ⊢
        obtain ⟨cs2, e2, g1, g2, g3, g4, g5, g6, g7⟩ := hs.mem.obj k p h1 hc
        refine ⟨cs2, e2, g1, g2, g3, g4, g5, g6, fun i j hi hj => ?_⟩
        obtain ⟨u, hu, hr⟩ := g7 i j hi hj
        exact ⟨u, hu, hkeep (h5.at_ i j) (h6.at_ i j) hr⟩
    · have key : ∀ k p, (σ.heap.filter fun p => p.1 != K).lookup k = some p → (ρ k).2 ≠ 0 → cp ≠ 0 → (ρ k).1 ≠ b := fun k p hp hk hc => (t2 b (hblk hc).1).2.2.2.1 k p (hget k p hp).1 hk
      intro k k' p p' hp hp' hne' hc hc'
      rcases cases3 hp with ⟨rfl, rfl⟩ | ⟨rfl, rfl⟩ | hpp
      · rcases cases3 hp' with ⟨rfl, rfl⟩ | ⟨rfl, rfl⟩ | hp'
        · exact absurd rfl hne'
        · exact absurd (by rw [hmL]) hc'
        · obtain ⟨h1, _, h3, h4, _⟩ := hget k' p' hp'
          rw [hmid] at hc ⊢
          rw [hm k' h3 h4] at hc' ⊢
          exact fun e => key k' p' hp' hc' hc e.symm
      · exact absurd (by rw [hmL]) hc
      · have hp2 := hpp
        obtain ⟨h1, _, h3, h4, _⟩ := hget k p hp2
        rw [hm k h3 h4] at hc ⊢
        rcases cases3 hp' with ⟨rfl, rfl⟩ | ⟨rfl, rfl⟩ | hp'
        · rw [hmid] at hc' ⊢
          exact key k p hp2 hc hc'
        · exact absurd (by rw [hmL]) hc'
        · obtain ⟨h1', _, h3', h4', _⟩ := hget k' p' hp'
          rw [hm k' h3' h4'] at hc' ⊢
          exact hs.mem.inj k k' p p' h1 h1' hne' hc hc'
    · intro k n' Y hY
      rcases cases3 hY with ⟨_, e⟩ | ⟨rfl, e⟩ | hY
      · cases e
      · cases e
        refine ⟨if_pos rfl, fun i hi => ⟨?_, fun p hp => ?_⟩⟩
        · show Tr w (f i c) _ (if k = k then F i c else _)
          rw [if_pos rfl]; exact htL i hi
        · have hpF : F i c p := by
            have : (if k = k then F i c else ρ.tb k i) p := hp
            rwa [if_pos rfl] at this
          obtain ⟨k1, _⟩ := hcell i c hi hcs
          obtain ⟨g1, g2⟩ := k1 p hpF
          obtain ⟨q1, q2, q3, q4, q5⟩ := t2 p g1
          refine ⟨q1, q2, q3, fun id' o ho hc => ?_, fun id' m' Y' i' hY' hi' hne' => ?_⟩
          · rcases cases3 ho with ⟨rfl, rfl⟩ | ⟨rfl, rfl⟩ | ho
            · rw [hmid]; exact fun e => g2 e.symm
            · exact absurd (by rw [hmL]) hc
            · obtain ⟨h1, _, h3, h4, _⟩ := hget id' o ho
              rw [hm id' h3 h4] at hc ⊢
              exact q4 id' o h1 hc
          · rcases cases3 hY' with ⟨_, e⟩ | ⟨rfl, e⟩ | hY'
            · cases e
            · cases e
              show ¬ (if id' = id' then F i' c else ρ.tb id' i') p
              rw [if_pos rfl]
              exact hFd i i' hi hi' (fun e => hne' ⟨rfl, e.symm⟩) p hpF
            · obtain ⟨h1, h2, h3, h4, _⟩ := hget id' _ hY'
              show ¬ (if id' = k then F i' c else ρ.tb id' i') p
              rw [if_neg h4]
              exact q5 id' m' Y' i' h1 hi' (fun e => h2 e.1)
      · obtain ⟨h1, h2, h3, h4, _⟩ := hget k _ hY
        refine ⟨(if_neg h4).trans (hs.mem.tree0 k n' Y h1).1, fun i hi => ?_⟩
        have a1 := hρA k h3 h4
        obtain ⟨t3, t4⟩ := hs.mem.tree k n' Y h1 i hi
        rw [a1.v, a1.b]
        refine ⟨t3, fun p hp => ?_⟩
        obtain ⟨q1, q2, q3, q4, q5⟩ := t4 p hp
        refine ⟨q1, q2, q3, fun id' o ho hc => ?_, fun id' m' Y' i' hY' hi' hne' => ?_⟩
        · rcases cases3 ho with ⟨rfl, rfl⟩ | ⟨rfl, rfl⟩ | ho
          · rw [hmid] at hc ⊢
            intro e
            have e : b = p := e
            subst e
            exact q5 K m X q hK hq (fun e => h2 e.1.symm) (hblk hc).1
          · exact absurd (by rw [hmL]) hc
          · obtain ⟨g1, _, g3, g4, _⟩ := hget id' o ho
            rw [hm id' g3 g4] at hc ⊢
            exact q4 id' o g1 hc
        · rcases cases3 hY' with ⟨_, e⟩ | ⟨rfl, e⟩ | hY'
          · cases e
          · cases e
            show ¬ (if id' = id' then F i' c else ρ.tb id' i') p
            rw [if_pos rfl]
            intro hp'
            exact q5 K m X q hK hq (fun e => h2 e.1.symm) ((hcell i' c hi' hcs).1 p hp').1
          · obtain ⟨g1, _, g3, g4, _⟩ := hget id' _ hY'
            rw [(hρA id' g3 g4).b]
            exact q5 id' m' Y' i' g1 hi' hne'
    · exact (hs.env t' s ht').keep (ρ := ρ) (Same.refl _ _) ⟨rfl, fun p => by
          by_cases hp : p = id
          · subst hp; exact .inr (List.all_eq_true.1 hf.env _ (lookup_mem ht'))
          · by_cases hp' : p = L
            · subst hp'; exact .inr (List.all_eq_true.1 hL.env _ (lookup_mem ht'))
            · exact .inl (hρA p hp hp')⟩
  · have hKid : K ≠ id := (hf.heap.get hK).1
    have hKL : K ≠ L := (hL.heap.get hK).1
    rintro v ⟨hv, _⟩
    have hv2 : v = ρ'.tv K q := hv
    have e2 : ρ'.tv K q = ρ.tv K q := congrFun (hρA K hKid hKL).v q
    rw [e2, e] at hv2
    show ∃ B, v = Value.slice B n (ρ' id).2 ∧ n ≤ (ρ' id).2 ∧ (ρ' id).2 ≤ maxLen ∧ (B = some ⟨(ρ' id).1, 0, none⟩ ∨ (B = none ∧ (ρ' id).2 = 0))
    rw [hmid]
    exact ⟨A, hv2, hnc, hcm, hA⟩
theorem RL.setAt {ρ : Rho} {w : World} {S : Nat → Prop} {x y : AV} (hv : ∀ v, R ρ w S x v → R ρ w S y v) : ∀ {l : List AV} {us : List Value} {j : Nat}, RL ρ w S l us → l[j]? = some x → RL ρ w S (l.set j y) us
  | [], _, _, h, _ => h
  | z :: l, _, 0, ⟨u, us, e, h1, h2⟩, hj => by
    obtain rfl : z = x := by simpa using hj
    exact ⟨u, us, e, hv u h1, h2⟩
  | z :: l, _, j + 1, ⟨u, us, e, h1, h2⟩, hj => ⟨u, us, e, h1, RL.setAt hv h2 (by simpa using hj)⟩
/-- A struct's slot: its cell j, a tree that is a row with a column of rows, becomes a row of the walk's own and a family. -/
theorem AW.openAgg {c0 : Code} {Q2 : Exit → Sig → Prop} (t j K q m sz c n id L : Nat) (l l' : List AV) (X : Nat → AV) (f f' : Nat → Nat → AV) (ht : σ.env.lookup t = some (.agg l)) (hj : l[j]? = some (.tre K q)) (hl : l.set j (.own id sz n) = l') (hK : σ.heap.lookup K = some (.trees m X)) (hq : q < m) (hX : X q = .lst sz n f) (hcs : c < sz)
    (hlst : ∀ i, i < n → ∃ s k g, f i c = .lst s k g) (hscl : ∀ i j, i < n → j < sz → j ≠ c → (f i j).scl = true) (hf : Fr id σ) (hL : Fr L σ) (hne : id ≠ L) (hff : ∀ i j, i < n → j < sz → (if j = c then .tre L i else f i j) = f' i j)
    (h : AW P N w0 c0 Q2 ⟨(t, .agg l') :: σ.env, (id, .arr sz n f') :: (L, .trees n fun i => f i c) :: σ.heap.filter fun p => p.1 != K⟩) : AW P N w0 c0 Q2 σ := by
  intro ρ S a w Q' hQ hs
  obtain ⟨ρ', hs', hv⟩ := hs.openRowC hK hq hX hcs hlst hscl hf hL hne
  refine h ρ' S a w Q' hQ ⟨hs'.size, hs'.defers, hs'.below, hs'.mem.le' fun k p hp => ?_, fun t' s ht' => ?_⟩
  · rcases lookup_put hp with ⟨rfl, rfl⟩ | ⟨hne, hp⟩
    · exact ⟨AObj.arr sz n fun i j => if j = c then .tre L i else f i j, by rw [List.lookup_cons, beq_self_eq_true], rfl, Nat.le_refl _, fun i j hi hj => (hff i j hi hj)⟩
    · exact HLe.refl (by rw [List.lookup_cons, show (k == id) = false by simpa using hne]; exact hp)
  · rcases lookup_put ht' with ⟨rfl, rfl⟩ | ⟨_, ht2⟩
    · obtain ⟨us, e, hr⟩ := hs'.env _ _ ht
      exact ⟨us, e, by rw [← hl]; exact RL.setAt hv hr hj⟩
    · exact hs'.env t' s ht2
theorem ARun.openAgg (t j K q m sz c n id L : Nat) (l l' : List AV) (X : Nat → AV) (f f' : Nat → Nat → AV) (ht : σ.env.lookup t = some (.agg l)) (hj : l[j]? = some (.tre K q)) (hl : l.set j (.own id sz n) = l') (hK : σ.heap.lookup K = some (.trees m X)) (hq : q < m) (hX : X q = .lst sz n f) (hcs : c < sz)
    (hlst : ∀ i, i < n → ∃ s k g, f i c = .lst s k g) (hscl : ∀ i j, i < n → j < sz → j ≠ c → (f i j).scl = true) (hf : Fr id σ) (hL : Fr L σ) (hne : id ≠ L) (hff : ∀ i j, i < n → j < sz → (if j = c then .tre L i else f i j) = f' i j)
    (h : ARun P N w0 ops Q rest ⟨(t, .agg l') :: σ.env, (id, .arr sz n f') :: (L, .trees n fun i => f i c) :: σ.heap.filter fun p => p.1 != K⟩) : ARun P N w0 ops Q rest σ := by
  intro ρ S a w Q' hQ hs
  obtain ⟨ρ', hs', hv⟩ := hs.openRowC hK hq hX hcs hlst hscl hf hL hne
  refine h ρ' S a w Q' hQ ⟨hs'.size, hs'.defers, hs'.below, hs'.mem.le' fun k p hp => ?_, fun t' s ht' => ?_⟩
  · rcases lookup_put hp with ⟨rfl, rfl⟩ | ⟨hne, hp⟩
    · exact ⟨AObj.arr sz n fun i j => if j = c then .tre L i else f i j, by rw [List.lookup_cons, beq_self_eq_true], rfl, Nat.le_refl _, fun i j hi hj => (hff i j hi hj)⟩
    · exact HLe.refl (by rw [List.lookup_cons, show (k == id) = false by simpa using hne]; exact hp)
  · rcases lookup_put ht' with ⟨rfl, rfl⟩ | ⟨_, ht2⟩
    · obtain ⟨us, e, hr⟩ := hs'.env _ _ ht
      exact ⟨us, e, by rw [← hl]; exact RL.setAt hv hr hj⟩
    · exact hs'.env t' s ht2
theorem R.setAt {ρ : Rho} {w : World} {S : Nat → Prop} {x y : AV} (hv : ∀ v, R ρ w S x v → R ρ w S y v) {l : List AV} {j q : Nat} {u : Value} (hj : l[j]? = some x) (hq : q < l.length) (hr : R ρ w S (l.getD q (.con undef)) u) : R ρ w S ((l.set j y).getD q (.con undef)) u := by
  by_cases hqj : q = j
  · subst hqj
    rw [List.getD_eq_getElem?_getD, hj] at hr
    rw [List.getD_eq_getElem?_getD, List.getElem?_set, if_pos rfl, if_pos hq]
    exact hv u hr
  · rw [List.getD_eq_getElem?_getD, List.getElem?_set, if_neg (fun e => hqj e.symm), ← List.getD_eq_getElem?_getD]; exact hr
/-- A row of the walk's own gets a new name; what named it may be named anew. -/
theorem St.moveRowV {ρ : Rho} {S : Nat → Prop} {a : Act} {w : World} (hs : St N w0 ρ S σ a w) {id id2 : Nat} {ob : AObj} (hob : σ.heap.lookup id = some ob) (hT : ob.isT = false) (hf : Fr id2 σ) :
    ∃ ρ', St N w0 ρ' S ⟨σ.env, (id2, ob) :: σ.heap.filter fun p => p.1 != id⟩ a w ∧ ∀ sz n v, R ρ' w S (.own id sz n) v → R ρ' w S (.own id2 sz n) v := by
  have hne : id ≠ id2 := (hf.heap.get hob).1
  let ρ' : Rho := ⟨fun k => if k = id2 then ρ id else ρ k, ρ.base, ρ.tv, ρ.tb, ρ.tn⟩
  have hm : ∀ k, k ≠ id2 → ρ' k = ρ k := fun k hk => if_neg hk
  have hm2 : ρ' id2 = ρ id := if_pos rfl
  have hkeep : ∀ {x : AV} {u : Value}, x.no id2 = true → R ρ w S x u → R ρ' w S x u := R.noB (ρ := ρ) (ρ' := ρ') (id := id2) rfl hm (fun _ _ => rfl) (fun _ _ => rfl)
  -- every object of the new heap is one of the old
  have conv : ∀ {k p}, ((id2, ob) :: σ.heap.filter fun p => p.1 != id : Heap).lookup k = some p → ∃ k', σ.heap.lookup k' = some p ∧ ρ' k = ρ k' ∧ (k' = if k = id2 then id else k) ∧ p.No id2 := fun {k p} hp => by
    rcases lookup_put hp with ⟨rfl, rfl⟩ | ⟨hk, hp⟩
    · exact ⟨id, hob, hm2, (if_pos rfl).symm, (hf.heap.get hob).2⟩
    · obtain ⟨f1, f2⟩ := filter_lookup hp
      exact ⟨k, f2, hm k hk, (if_neg hk).symm, (hf.heap.get f2).2⟩
  refine ⟨ρ', ⟨hs.size, hs.defers, ⟨hs.below.old, hs.below.same, fun k hk => (hs.below.ids k hk).trans ⟨hm k (fun e => by have := hf.small; omega), rfl, rfl, rfl⟩⟩, ⟨hs.mem.base, hs.mem.low, hs.mem.lt, ?_, ?_, ?_, ?_⟩, fun t' s ht' => ?_⟩, fun sz n v h => ?_⟩
  · intro k p hp
    obtain ⟨k', h1, h2, _⟩ := conv hp
    rw [h2]; exact hs.mem.cap k' p h1
  · intro k p hp hc
    obtain ⟨k', h1, h2, _, h4⟩ := conv hp
    rw [h2] at hc ⊢
    obtain ⟨cs, e, g1, g2, g3, g4, g5, g6, g7⟩ := hs.mem.obj k' p h1 hc
    refine ⟨cs, e, g1, g2, g3, g4, g5, g6, fun i j hi hj => ?_⟩
    obtain ⟨u, hu, hr⟩ := g7 i j hi hj
    exact ⟨u, hu, hkeep (h4.at_ i j) hr⟩
  · intro k k' p p' hp hp' hkk hc hc'
    obtain ⟨q, h1, h2, h3, _⟩ := conv hp
    obtain ⟨q', h1', h2', h3', _⟩ := conv hp'
    rw [h2] at hc ⊢
    rw [h2'] at hc' ⊢
    refine hs.mem.inj q q' p p' h1 h1' (fun e => hkk ?_) hc hc'
    have f1 : k ≠ id := fun e => by
      subst e
      rcases lookup_put hp with ⟨e, _⟩ | ⟨_, hp⟩
      · exact hne e
      · exact (filter_lookup hp).1 rfl
    have f2 : k' ≠ id := fun e => by
      subst e
      rcases lookup_put hp' with ⟨e, _⟩ | ⟨_, hp'⟩
      · exact hne e
      · exact (filter_lookup hp').1 rfl
    rw [h3, h3'] at e
    by_cases a1 : k = id2 <;> by_cases a2 : k' = id2
    · rw [a1, a2]
    · rw [if_pos a1, if_neg a2] at e; exact absurd e.symm f2
    · rw [if_neg a1, if_pos a2] at e; exact absurd e f1
    · rwa [if_neg a1, if_neg a2] at e
  · refine hs.mem.treeOf (Nat.le_refl _) (fun k n' X hX => ?_) (fun k n' X i b hX hi hb => ⟨rfl, (((hs.mem.tree k n' X hX i hi).2) b hb).2.1, (((hs.mem.tree k n' X hX i hi).2) b hb).2.2.1⟩) (fun k p hp hc => ?_)
    · rcases lookup_put hX with ⟨_, rfl⟩ | ⟨_, hX⟩
      · cases hT
      · exact ⟨X, (filter_lookup hX).2, fun _ _ => rfl, rfl, rfl, rfl⟩
    · obtain ⟨k', h1, h2, _⟩ := conv hp
      rw [h2] at hc ⊢
      exact .inr fun k4 n4 X4 i4 hX4 hi4 hb4 => ((hs.mem.tree k4 n4 X4 hX4 i4 hi4).2 _ hb4).2.2.2.1 k' p h1 hc rfl
  · exact RS.noB (ρ := ρ) (ρ' := ρ') (id := id2) rfl hm (fun _ _ => rfl) (fun _ _ => rfl) (List.all_eq_true.1 hf.env _ (lookup_mem ht')) (hs.env t' s ht')
  · have h : ∃ A, v = Value.slice A n (ρ' id).2 ∧ n ≤ (ρ' id).2 ∧ (ρ' id).2 ≤ maxLen ∧ (A = some ⟨(ρ' id).1, 0, none⟩ ∨ (A = none ∧ (ρ' id).2 = 0)) := h
    rw [hm id hne] at h
    show ∃ A, v = Value.slice A n (ρ' id2).2 ∧ n ≤ (ρ' id2).2 ∧ (ρ' id2).2 ≤ maxLen ∧ (A = some ⟨(ρ' id2).1, 0, none⟩ ∨ (A = none ∧ (ρ' id2).2 = 0))
    rw [hm2]; exact h
/-- A cell of a variable: the row that it holds gets a new name. -/
theorem AW.moveCell {c0 : Code} {Q2 : Exit → Sig → Prop} (v j id id2 sz n : Nat) (l l' : List AV) {ob : AObj} (hv : σ.heap.lookup v = some (.cells l)) (hj : l[j]? = some (.own id sz n)) (hl : l.set j (.own id2 sz n) = l') (hob : σ.heap.lookup id = some ob) (hT : ob.isT = false) (hvi : v ≠ id) (hf : Fr id2 σ)
    (h : AW P N w0 c0 Q2 ⟨σ.env, (v, .cells l') :: (id2, ob) :: σ.heap.filter fun p => p.1 != id⟩) : AW P N w0 c0 Q2 σ := by
  intro ρ S a w Q' hQ hs
  obtain ⟨ρ', hs', hV⟩ := hs.moveRowV hob hT hf
  have hv2 : v ≠ id2 := (hf.heap.get hv).1
  have hv' : ((id2, ob) :: σ.heap.filter fun p => p.1 != id : Heap).lookup v = some (.cells l) := by
    rw [List.lookup_cons, show (v == id2) = false by simpa using hv2]
    show (σ.heap.filter fun p => p.1 != id).lookup v = _
    rw [lookup_filter_ne hvi]; exact hv
  refine h ρ' S a w Q' hQ ⟨hs'.size, hs'.defers, hs'.below, hs'.mem.reob hv' rfl (by simp [AObj.sz, ← hl]) rfl (fun i q u _ hq hr => ?_), hs'.env⟩
  rw [← hl]
  exact R.setAt (hV sz n) hj hq hr
/-- The length of a tree's row. -/
theorem PureOp.lenTre {t : TypeId} {x : Operand} {K q m sz n : Nat} {X : Nat → AV} {f : Nat → Nat → AV} (ho : o.op = .call { callee := .builtin .len, args := #[x], argTypes := #[t] }) (hx : Kn σ x (.one (.tre K q))) (hK : σ.heap.lookup K = some (.trees m X)) (hq : q < m) (hX : X q = .lst sz n f) (ht : sliceB P t = true) : PureOp P o σ (.one (.int .i64 n)) := by
  refine PureOp.val fun N w0 ρ S ac w hs => ?_
  obtain ⟨e1, _⟩ := hx.sound hs
  obtain ⟨t1, _⟩ := hs.mem.tree K m X hK q hq
  rw [hX] at t1
  unfold Tr at t1
  obtain ⟨A, c, e, _⟩ := t1
  rw [e] at e1
  obtain ⟨e, he⟩ := sliceB_spec ht
  refine ⟨_, rfl, fun w' _ => ?_⟩
  generalize ac.eval = ev at e1 ⊢
  simp [execOp, ho, e1, resolve, invoke, builtin, Builtin.len_, run_underlying he, goInt, go_sem]
/-- A cell of a tree's row is read: address, field, load. -/
theorem ARun.treeLoad {o1 o2 o3 : Oper} {t t2 t3 : TypeId} {x y : Operand} {K q m sz n i fld off d1 d2 d3 : Nat} {k : IntKind} {mi : Int} {X : Nat → AV} {f : Nat → Nat → AV} {z : AV} (ho1 : o1.op = .indexAddr t x y) (ho2 : o2.op = .fieldAddr t2 (.tmp d1) fld) (ho3 : o3.op = .load t3 (.tmp d2))
    (hx : Kn σ x (.one (.tre K q))) (hK : σ.heap.lookup K = some (.trees m X)) (hq : q < m) (hX : X q = .lst sz n f) (hE : elemB P t sz = true) (hy : Kn σ y (.one (.int k mi))) (hm : mi = (i : Int)) (hi : i < n) (hF : fieldB P t2 fld off = true) (hoff : off < sz) (hT : plainB P t3 = true) (hz : f i off = z) (hsc : z.scl = true)
    (hg1 : o1.guard = none) (hg2 : o2.guard = none) (hg3 : o3.guard = none) (hd1 : o1.dst = some d1) (hd2 : o2.dst = some d2) (hd3 : o3.dst = some d3) (hN1 : d1 < N) (hN2 : d2 < N) (hN3 : d3 < N) (he1 : σ.env.lookup d1 = none) (he2 : σ.env.lookup d2 = none)
    (h : ARun P N w0 ops Q rest ⟨(d3, .one z) :: σ.env, σ.heap⟩) : ARun P N w0 ops Q (o1 :: o2 :: o3 :: rest) σ := by
  subst hm
  intro ρ S a w Q' hQ hs
  obtain ⟨ex, _⟩ := hx.sound hs
  obtain ⟨t1, _⟩ := hs.mem.tree K m X hK q hq
  rw [hX] at t1
  unfold Tr at t1
  obtain ⟨A, c, e, hnc, hcm, hcase⟩ := t1
  rw [e] at ex
  obtain ⟨b, cs, e', hA, hblk, u, hu, hTu⟩ : ∃ (b : Nat) (cs : Array Value) (e' : _), A = some ⟨b, 0, none⟩ ∧ w.heap[b]? = some (.cells cs e' (0, 0)) ∧ ∃ u, cs[i * sz + off]? = some u ∧ R ρ w S z u := by
    rcases hcase with ⟨hc, _⟩ | ⟨b, cs, e', g1, _, g3, _, F, g5, _⟩
    · omega
    · obtain ⟨_, u, hu, hT⟩ := g5 i off hi hoff
      refine ⟨b, cs, e', g1, g3, u, hu, ?_⟩
      rw [hz] at hT
      generalize z = zz at hT hsc
      cases zz <;> first | exact hT | cases hsc
  subst hA
  have ey : a.eval y = .int k (i : Int) := hy.sound hs
  have hcell : w.cell? ⟨b, i * sz + off, none⟩ = some u := by simp [World.cell?, hblk, hu]
  refine wpList_plain hg1 fun K1 hK1 => ?_
  have hrun1 : (execOp a.eval o1).run P w = .ok (.value (.pointer (some ⟨b, i * sz, none⟩))) w := by
    generalize a.eval = ev at ex ey ⊢
    simp only [execOp, ho1, ex, ey, Sem.run_bind, indexAt_run hE _ hi]
    simp [go_sem, Result.andThen, Addr.add]
    try omega
  unfold Oper.wp
  rw [hrun1]
  simp only [Oper.upon, hd1]
  have hs1 : St N w0 ρ S (σ.put d1 (.one (.con (.pointer (some ⟨b, i * sz, none⟩))))) (a.put (some d1) (.pointer (some ⟨b, i * sz, none⟩))) w := hs.put hN1 rfl
  refine hK1 _ _ (wpList_plain hg2 fun K2 hK2 => ?_)
  have ev1 : (a.put (some d1) (.pointer (some ⟨b, i * sz, none⟩))).eval (.tmp d1) = .pointer (some ⟨b, i * sz, none⟩) := by
    have h := hs1.env d1 (.one (.con (.pointer (some ⟨b, i * sz, none⟩)))) (by simp [Sig.put])
    exact h
  have hrun2 : (execOp (a.put (some d1) (.pointer (some ⟨b, i * sz, none⟩))).eval o2).run P w = .ok (.value (.pointer (some ⟨b, i * sz + off, none⟩))) w := by
    generalize (a.put (some d1) (.pointer (some ⟨b, i * sz, none⟩))).eval = ev at ev1 ⊢
    simp only [execOp, ho2, ev1, Sem.run_bind, fieldAt_run hF]
    simp [go_sem, Result.andThen, Addr.add]
  unfold Oper.wp
  rw [hrun2]
  simp only [Oper.upon, hd2]
  have hs2 := hs1.put (d := d2) (s := .one (.con (.pointer (some ⟨b, i * sz + off, none⟩)))) (v := .pointer (some ⟨b, i * sz + off, none⟩)) hN2 rfl
  refine hK2 _ _ (wpList_plain hg3 fun K3 hK3 => ?_)
  have ev2 : ((a.put (some d1) (.pointer (some ⟨b, i * sz, none⟩))).put (some d2) (.pointer (some ⟨b, i * sz + off, none⟩))).eval (.tmp d2) = .pointer (some ⟨b, i * sz + off, none⟩) := by
    have h := hs2.env d2 (.one (.con (.pointer (some ⟨b, i * sz + off, none⟩)))) (by simp [Sig.put])
    exact h
  have hrun3 : (execOp ((a.put (some d1) (.pointer (some ⟨b, i * sz, none⟩))).put (some d2) (.pointer (some ⟨b, i * sz + off, none⟩))).eval o3).run P w = .ok (.value u) w := by
    generalize ((a.put (some d1) (.pointer (some ⟨b, i * sz, none⟩))).put (some d2) (.pointer (some ⟨b, i * sz + off, none⟩))).eval = ev at ev2 ⊢
    simp only [execOp, ho3, ev2, Sem.run_bind, loadAt_one hT hcell]
    simp [go_sem, Result.andThen]
  unfold Oper.wp
  rw [hrun3]
  simp only [Oper.upon, hd3]
  have hs3 := hs2.put (d := d3) (s := .one z) (v := u) hN3 hTu
  refine hK3 _ _ (h ρ S _ w Q' hQ ⟨hs3.size, hs3.defers, hs3.below, hs3.mem, fun t' s ht' => ?_⟩)
  refine hs3.env t' s ?_
  simp only [Sig.put]
  rcases lookup_put ht' with ⟨rfl, rfl⟩ | ⟨hne, ht2⟩
  · simp
  · have n1 : t' ≠ d1 := fun e => by subst e; rw [he1] at ht2; cases ht2
    have n2 : t' ≠ d2 := fun e => by subst e; rw [he2] at ht2; cases ht2
    rw [List.lookup_cons, show (t' == d3) = false by simpa using hne]
    show ((d2, _) :: (d1, _) :: σ.env).lookup t' = _
    rw [List.lookup_cons, show (t' == d2) = false by simpa using n2]
    show ((d1, _) :: σ.env).lookup t' = _
    rw [List.lookup_cons, show (t' == d1) = false by simpa using n1]
    exact ht2
theorem LkAll.app {Pq : Nat → AObj → Prop} : ∀ {l l2 : Heap}, LkAll Pq l → (∀ p ∈ l2, Pq p.1 p.2) → LkAll Pq (l ++ l2)
  | [], [], _, _ => trivial
  | [], (k, o) :: l2, _, h => ⟨h _ (List.mem_cons_self ..), LkAll.app (l := []) trivial fun p hp => h p (List.mem_cons_of_mem _ hp)⟩
  | (k, o) :: l, l2, ⟨h1, h2⟩, h => ⟨h1, LkAll.app h2 h⟩
theorem LkAll.imp {Pq Pr : Nat → AObj → Prop} (hi : ∀ k o, Pq k o → Pr k o) : ∀ {l : Heap}, LkAll Pq l → LkAll Pr l
  | [], _ => trivial
  | (_, _) :: _, ⟨h1, h2⟩ => ⟨hi _ _ h1, LkAll.imp hi h2⟩
theorem lookup_app_l {H X : Heap} {k : Nat} {o : AObj} (h : H.lookup k = some o) : (H ++ X).lookup k = some o := by
  induction H with
  | nil => cases h
  | cons p H ih =>
    obtain ⟨k', o'⟩ := p
    rw [List.lookup_cons] at h
    show ((k', o') :: (H ++ X)).lookup k = _
    rw [List.lookup_cons]
    cases hb : k == k' with
    | true => rw [hb] at h; exact h
    | false => rw [hb] at h; exact ih h
theorem lookup_appN {H X : Heap} {k : Nat} (h : H.lookup k = none) : (H ++ X).lookup k = X.lookup k := by
  induction H with
  | nil => rfl
  | cons p H ih =>
    obtain ⟨k', o'⟩ := p
    rw [List.lookup_cons] at h
    cases hb : k == k' with
    | true => rw [hb] at h; cases h
    | false =>
      rw [hb] at h
      show ((k', o') :: (H ++ X)).lookup k = _
      rw [List.lookup_cons, hb]; exact ih h
theorem lookup_allN {H : Heap} {tk : List Nat} (hH : (H.all fun p => tk.contains p.1) = true) {k : Nat} (hk : tk.contains k = false) : H.lookup k = none := by
  cases hl : H.lookup k with
  | none => rfl
  | some o =>
    have := List.all_eq_true.1 hH _ (lookup_mem hl)
    rw [show (k, o).1 = k from rfl, hk] at this; cases this
/-- A call that is handed objects, in a walk that holds others beside. -/
theorem ARun.mutxX {env : Env} {Hin X : Heap} {tk new : List Nat} (hX : XOk tk new X) {f d : Nat} {xs : List Operand} {ts : Array TypeId} {args : List SV} {H H' Hr Hn : Heap} {r : SV} {g g' : Nat → Nat} {K : List Nat} {T : List (Nat × Nat)} (ho : o.op = .call { callee := .value (.func f), args := xs.toArray, argTypes := ts })
    (hF : FnG P f args H r H') (hB : callB P f = true) (hk : KnG ⟨env, Hin ++ X⟩ (Hr ++ nub X) g xs args)
    (hti : (Hin.all fun p => tk.contains p.1) = true) (htr : (Hr.all fun p => tk.contains p.1) = true) (htg : ((H.map (·.1)).map g).all tk.contains = true)
    (hH : LkAll (fun id p => ∃ p', (Hin ++ X).lookup (g id) = some p' ∧ AObj.Rt g p p') H)
    (hr : LkAll (fun id p => (Hin ++ X).lookup id = some p ∧ ((H.map (·.1)).map g).contains id = false) Hr)
    (hg : distB ((H.map (·.1)).map g) = true) (hT : FrAll ⟨env, Hin ++ X⟩ T)
    (hK : K.all (fun k => (Nat.ble 1000000 k && (g' k == g k) && (T.lookup (g k)).isNone) || (T.lookup (g' k) == some k)) = true) (hgi : distB (K.map g') = true)
    (hx : r.hx K = true)
    (hn : LkAll (fun id p => Hr.lookup id = some p ∨ ∃ k q, K.contains k = true ∧ g' k = id ∧ H'.lookup k = some q ∧ AObj.Rt g' q p ∧ q.Hx K) Hn)
    (hgd : o.guard = none) (hd : o.dst = some d) (hdN : d < N) {r' : SV} (hr' : r.ren g' = r') (h : ARun P N w0 ops Q rest ⟨(d, r') :: env, Hn ++ X⟩) : ARun P N w0 ops Q (o :: rest) ⟨env, Hin ++ X⟩ := by
  have hoff : ∀ p ∈ nub X, tk.contains p.1 = false := fun p hp => hX.off _ (lookup_mem (nub_mem hp))
  refine ARun.mutx (Hr := Hr ++ nub X) (Hn := Hn ++ nub X) ho hF hB hk hH (hr.app fun p hp => ⟨?_, ?_⟩) hg hT hK hgi hx ((hn.imp fun k o ho => ?_).app fun p hp => .inl ?_) hgd hd hdN hr' ?_
  · show (Hin ++ X).lookup p.1 = some p.2
    rw [lookup_appN (lookup_allN hti (hoff p hp))]; exact nub_mem hp
  · cases hc : ((H.map (·.1)).map g).contains p.1 with
    | false => rfl
    | true =>
      have := List.all_eq_true.1 htg _ (List.contains_iff_mem.1 hc)
      rw [hoff p hp] at this; cases this
  · rcases ho with ho | ho
    · exact .inl (lookup_app_l ho)
    · exact .inr ho
  · rw [lookup_appN (lookup_allN htr (hoff p hp)), nub_lookup]; exact nub_mem hp
  · intro ρ S a w Q' hQ hs
    refine h ρ S a w Q' hQ ⟨hs.size, hs.defers, hs.below, hs.mem.le' fun k p hp => ?_, hs.env⟩
    rcases lookup_app hp with h1 | ⟨h0, h1⟩
    · exact HLe.refl (lookup_app_l h1)
    · refine HLe.refl ?_
      show (Hn ++ nub X).lookup k = some p
      rw [lookup_appN h0, nub_lookup]; exact h1
end
theorem Fr.consE {id t : Nat} {s : SV} {env : Env} {H : Heap} (hs : s.no id = true) (h : Fr id ⟨env, H⟩) : Fr id ⟨(t, s) :: env, H⟩ :=
  ⟨by rw [Bool.and_eq_true]; exact ⟨by simpa [Nat.blt_eq] using h.small, by rw [List.all_cons, Bool.and_eq_true]; exact ⟨hs, h.env⟩⟩, h.heap⟩
theorem Fr.consH {id k : Nat} {o : AObj} {env : Env} {H : Heap} (hk : k ≠ id) (ho : o.No id) (h : Fr id ⟨env, H⟩) : Fr id ⟨env, (k, o) :: H⟩ := ⟨h.envB, hk, ho, h.heap⟩
theorem FrH.filt {id : Nat} {p : Nat × AObj → Bool} : ∀ {H : Heap}, FrH id H → FrH id (H.filter p)
  | [], _ => trivial
  | (k, o) :: H, ⟨h1, h2, h3⟩ => by
    cases hp : p (k, o) with
    | true => rw [List.filter_cons_of_pos hp]; exact ⟨h1, h2, FrH.filt h3⟩
    | false => rw [List.filter_cons_of_neg (by rw [hp]; decide)]; exact FrH.filt h3
theorem Fr.filt {id : Nat} {p : Nat × AObj → Bool} {env : Env} {H : Heap} (h : Fr id ⟨env, H⟩) : Fr id ⟨env, H.filter p⟩ := ⟨h.envB, h.heap.filt⟩
theorem KnR.tl {σ : Sig} {y : Operand} {id sz q n m : Nat} {ob : AObj} {g : Nat → Nat → AV} (k1 : Kn σ y (.one (.tl id sz q n))) (k2 : σ.heap.lookup id = some ob) (k3 : ob.sz = sz) (k4 : n ≤ ob.n) (hm : m = n - q) (k5 : ∀ i j, i < m → j < sz → ob.f (q + i) j = g i j) : KnR σ y sz m g :=
  .gen (SrcOk.tl k1 k2 k3 k4 hm k5).src
end Go.Proofs.Ytmfkmifkkplidaa


/-
  The program's step (take): what it makes of a head.
-/
namespace Go.Proofs.Ytmfkmifkkplidaa
open Go.ChangeShapes Go.WideShapes Go.ChangeAt Go.RowKit Go.BigFrame Go.Deep
set_option linter.unusedVariables false
set_option linter.unusedSimpArgs false
theorem vtk_ca_48 : callB Try.prog 48 = true := by kernel_rfl
theorem vtk_ca_74 : callB Try.prog 74 = true := by kernel_rfl
theorem vtk_ca_79 : callB Try.prog 79 = true := by kernel_rfl
theorem vtk_el_27_2 : elemB Try.prog 27 2 = true := by kernel_rfl
theorem vtk_el_33_2 : elemB Try.prog 33 2 = true := by kernel_rfl
theorem vtk_fi_29_0_0 : fieldB Try.prog 29 0 0 = true := by kernel_rfl
theorem vtk_fi_29_1_1 : fieldB Try.prog 29 1 1 = true := by kernel_rfl
theorem vtk_fi_47_0_0 : fieldB Try.prog 47 0 0 = true := by kernel_rfl
theorem vtk_fi_47_1_1 : fieldB Try.prog 47 1 1 = true := by kernel_rfl
theorem vtk_fi_47_2_2 : fieldB Try.prog 47 2 2 = true := by kernel_rfl
theorem vtk_fi_67_1_1 : fieldB Try.prog 67 1 1 = true := by kernel_rfl
theorem vtk_fi_81_0_0 : fieldB Try.prog 81 0 0 = true := by kernel_rfl
theorem vtk_pl_27 : plainB Try.prog 27 = true := by kernel_rfl
theorem vtk_pl_3 : plainB Try.prog 3 = true := by kernel_rfl
theorem vtk_pl_33 : plainB Try.prog 33 = true := by kernel_rfl
theorem vtk_pl_9 : plainB Try.prog 9 = true := by kernel_rfl
theorem vtk_sl_27 : sliceB Try.prog 27 = true := by kernel_rfl
theorem vtk_sl_33 : sliceB Try.prog 33 = true := by kernel_rfl
theorem vtk_sz_27_1 : sizeB Try.prog 27 1 = true := by kernel_rfl
theorem vtk_sz_33_1 : sizeB Try.prog 33 1 = true := by kernel_rfl
theorem vtk_sz_3_1 : sizeB Try.prog 3 1 = true := by kernel_rfl
theorem AW.hle {P : Program} {N : Nat} {w0 : Start} {c : Code} {Q : Exit → Sig → Prop} {e : Env} {H H' : Heap} (h : HeapLe H H') (hk : AW P N w0 c Q ⟨e, H'⟩) : AW P N w0 c Q ⟨e, H⟩ :=
  fun ρ S a w Q' hQ hs => hk ρ S a w Q' hQ ⟨hs.size, hs.defers, hs.below, hs.mem.le' fun k p hp => h.get hp, hs.env⟩
/-! What the step makes of a head. -/
abbrev rowK (h : GHead) (x : GSay) : GRow := h.rows.getD (loF h x.name) (default : GRow)
abbrev smpX (x : GSay) : GSample := ⟨x.at_, x.value⟩
abbrev takeLast (h : GHead) (x : GSay) : GSample := (rowK h x).samples.getD ((rowK h x).samples.length - 1) (default : GSample)
def addS (h : GHead) (x : GSay) : List GSample := if isRow h x.name = true then (rowK h x).samples ++ [smpX x] else [smpX x]
def takeCode (h : GHead) (x : GSay) : Nat := if isRow h x.name = true then (if (takeLast h x).at_ = x.at_ then 2 else if x.at_ < (takeLast h x).at_ then 3 else if (rowK h x).samples.length = 40 then 4 else 1) else if h.rows.length = 8 then 4 else 1
def insL {α : Type} (l : List α) (k : Nat) (r : α) : List α := l.take k ++ r :: l.drop k
def takeR (h : GHead) (x : GSay) : List GRow := if takeCode h x = 1 then (if isRow h x.name = true then h.rows.set (loF h x.name) ⟨(rowK h x).name, addS h x⟩ else insL h.rows (loF h x.name) ⟨x.name, addS h x⟩) else h.rows
def takeH (h : GHead) (x : GSay) : GHead := ⟨takeR h x, h.offset + 1⟩
def takeN (h : GHead) (x : GSay) : Nat := if takeCode h x = 1 ∧ isRow h x.name = false then h.rows.length + 1 else h.rows.length
theorem insL_len {α : Type} {l : List α} {k : Nat} {r : α} (hk : k ≤ l.length) : (insL l k r).length = l.length + 1 := by
  unfold insL; rw [List.length_append, List.length_take, List.length_cons, List.length_drop]; omega
theorem insL_at {α : Type} (d : α) {l : List α} {k : Nat} {r : α} (hk : k ≤ l.length) (a : Nat) : (insL l k r).getD a d = if a < k then l.getD a d else if a = k then r else l.getD (a - 1) d := by
  unfold insL
  rw [List.getD_eq_getElem?_getD, List.getD_eq_getElem?_getD, List.getD_eq_getElem?_getD, List.getElem?_append, List.length_take]
  by_cases h1 : a < k
  · rw [if_pos h1, if_pos (by omega), List.getElem?_take, if_pos h1]
  · rw [if_neg h1, if_neg (by omega), show min k l.length = k by omega]
    by_cases h2 : a = k
    · subst h2; rw [if_pos rfl, Nat.sub_self]; rfl
    · rw [if_neg h2]
      obtain ⟨d', hd⟩ : ∃ d', a - k = d' + 1 := ⟨a - k - 1, by omega⟩
      rw [hd, List.getElem?_cons_succ, List.getElem?_drop, show k + d' = a - 1 by omega]
theorem takeN_len (h : GHead) (x : GSay) : takeN h x = (takeH h x).rows.length := by
  show takeN h x = (takeR h x).length
  unfold takeN takeR
  have hk := loF_le h x.name
  by_cases h1 : takeCode h x = 1
  · rw [if_pos h1]
    cases h2 : isRow h x.name with
    | true => rw [if_neg (fun e => by cases e.2), if_pos rfl, List.length_set]
    | false => rw [if_pos ⟨h1, rfl⟩, if_neg (by simp), insL_len hk]
  · rw [if_neg h1, if_neg (fun e => h1 e.1)]
theorem row_lo {h : GHead} {s : ByteArray} (hr : isRow h s = true) : loF h s < h.rows.length := by
  unfold isRow at hr; rw [Bool.and_eq_true] at hr; exact of_decide_eq_true hr.1
theorem good_len {h : GHead} (hg : goodHead h = true) : h.rows.length ≤ 8 := by
  unfold goodHead at hg
  rw [Bool.and_eq_true] at hg
  have h1 := hg.2
  by_cases h2 : (h.rows.length : Int) ≤ 8
  · omega
  · rw [decide_eq_false h2] at h1; cases h1
theorem good_at {h : GHead} (hg : goodHead h = true) {k : Nat} (hk : k < h.rows.length) : nameB (h.rows.getD k (default : GRow)).name false = true ∧ 0 < (h.rows.getD k (default : GRow)).samples.length ∧ samplesB (h.rows.getD k (default : GRow)).samples = true := by
  unfold goodHead at hg
  rw [Bool.and_eq_true] at hg
  have h1 := List.all_eq_true.1 hg.1 k (List.mem_range.2 hk)
  rw [Bool.not_eq_true'] at h1
  unfold rowBad at h1
  revert h1
  generalize nameB _ false = a1
  generalize samplesB _ = a2
  by_cases h3 : ((h.rows.getD k (default : GRow)).samples.length : Int) = 0
  · rw [decide_eq_true h3]
    generalize cond (decide ((0 : Int) < (k : Int))) _ false = a4
    intro h1; revert h1; revert a1 a2 a4; simp
  · rw [decide_eq_false h3]
    generalize cond (decide ((0 : Int) < (k : Int))) _ false = a4
    intro h1
    have : a1 = true ∧ a2 = true := by revert h1; revert a1 a2 a4; decide
    exact ⟨this.1, by omega, this.2⟩
theorem smp_40 {l : List GSample} (h : samplesB l = true) : l.length ≤ 40 := by
  unfold samplesB at h; rw [Bool.and_eq_true] at h
  have := of_decide_eq_true h.2
  omega
theorem tk_full8 {h : GHead} {x : GSay} (hir : isRow h x.name = false) (h8 : h.rows.length = 8) : takeCode h x = 4 := by unfold takeCode; rw [hir, if_neg (by simp), if_pos h8]
theorem tk_ins {h : GHead} {x : GSay} (hir : isRow h x.name = false) (h8 : ¬ h.rows.length = 8) : takeCode h x = 1 := by unfold takeCode; rw [hir, if_neg (by simp), if_neg h8]
theorem tk_again {h : GHead} {x : GSay} (hir : isRow h x.name = true) (h1 : (takeLast h x).at_ = x.at_) : takeCode h x = 2 := by unfold takeCode; rw [hir, if_pos rfl, if_pos h1]
theorem tk_late {h : GHead} {x : GSay} (hir : isRow h x.name = true) (h1 : ¬ (takeLast h x).at_ = x.at_) (h2 : x.at_ < (takeLast h x).at_) : takeCode h x = 3 := by unfold takeCode; rw [hir, if_pos rfl, if_neg h1, if_pos h2]
theorem tk_full {h : GHead} {x : GSay} (hir : isRow h x.name = true) (h1 : ¬ (takeLast h x).at_ = x.at_) (h2 : ¬ x.at_ < (takeLast h x).at_) (h3 : (rowK h x).samples.length = 40) : takeCode h x = 4 := by unfold takeCode; rw [hir, if_pos rfl, if_neg h1, if_neg h2, if_pos h3]
theorem tk_new {h : GHead} {x : GSay} (hir : isRow h x.name = true) (h1 : ¬ (takeLast h x).at_ = x.at_) (h2 : ¬ x.at_ < (takeLast h x).at_) (h3 : ¬ (rowK h x).samples.length = 40) : takeCode h x = 1 := by unfold takeCode; rw [hir, if_pos rfl, if_neg h1, if_neg h2, if_neg h3]
theorem tN_old {h : GHead} {x : GSay} (hc : ¬ takeCode h x = 1) : takeN h x = h.rows.length := if_neg fun e => hc e.1
theorem tN_row {h : GHead} {x : GSay} (hir : isRow h x.name = true) : takeN h x = h.rows.length := if_neg fun e => by rw [hir] at e; cases e.2
theorem tN_ins {h : GHead} {x : GSay} (hir : isRow h x.name = false) (hc : takeCode h x = 1) : takeN h x = h.rows.length + 1 := if_pos ⟨hc, hir⟩
theorem tR_old {h : GHead} {x : GSay} (hc : ¬ takeCode h x = 1) : (takeH h x).rows = h.rows := if_neg hc
theorem tR_row {h : GHead} {x : GSay} (hir : isRow h x.name = true) (hc : takeCode h x = 1) : (takeH h x).rows = h.rows.set (loF h x.name) ⟨(rowK h x).name, addS h x⟩ := by show takeR h x = _; unfold takeR; rw [if_pos hc, if_pos hir]
theorem tR_ins {h : GHead} {x : GSay} (hir : isRow h x.name = false) (hc : takeCode h x = 1) : (takeH h x).rows = insL h.rows (loF h x.name) ⟨x.name, addS h x⟩ := by show takeR h x = _; unfold takeR; rw [if_pos hc, hir, if_neg (by simp)]
theorem getD_app {α : Type} (d : α) (l m : List α) (i : Nat) : (l ++ m).getD i d = if i < l.length then l.getD i d else m.getD (i - l.length) d := by
  rw [List.getD_eq_getElem?_getD, List.getD_eq_getElem?_getD, List.getD_eq_getElem?_getD, List.getElem?_append]
  by_cases h1 : i < l.length
  · rw [if_pos h1, if_pos h1]
  · rw [if_neg h1, if_neg h1]
theorem addS_row {h : GHead} {x : GSay} (hir : isRow h x.name = true) : addS h x = (rowK h x).samples ++ [smpX x] := if_pos hir
theorem addS_ins {h : GHead} {x : GSay} (hir : isRow h x.name = false) : addS h x = [smpX x] := if_neg (by rw [hir]; simp)
theorem addS_cell {h : GHead} {x : GSay} (hir : isRow h x.name = true) {i j : Nat} (hi : i < (rowK h x).samples.length + 1) (hj : j < 2) : (if i < (rowK h x).samples.length then ceSample ((rowK h x).samples.getD i (default : GSample)) j else ([.int .i64 x.at_, .int .i64 x.value] : List AV).getD j (.con undef)) = ceSample ((addS h x).getD i (default : GSample)) j := by
  rw [addS_row hir]
  by_cases h1 : i < (rowK h x).samples.length
  · rw [if_pos h1, getD_app, if_pos h1]
  · rw [if_neg h1, getD_app, if_neg h1, show i - (rowK h x).samples.length = 0 by omega]
    exact (match j, hj with | 0, _ => rfl | 1, _ => rfl | _ + 2, h => absurd h (by omega))
theorem addS_cellN {h : GHead} {x : GSay} (hir : isRow h x.name = false) {i j : Nat} (hi : i < 0 + 1) (hj : j < 2) : (if i < 0 then (.con undef : AV) else ([.int .i64 x.at_, .int .i64 x.value] : List AV).getD j (.con undef)) = ceSample ((addS h x).getD i (default : GSample)) j := by
  obtain rfl : i = 0 := by omega
  rw [addS_ins hir, if_neg (Nat.not_lt_zero _)]
  exact (match j, hj with | 0, _ => rfl | 1, _ => rfl | _ + 2, h => absurd h (by omega))
/-- The family of the walk: the members of the head, and behind them what the step makes. -/
def takeX (h : GHead) (x : GSay) (q : Nat) : AV := if q < h.rows.length then rowX0 h q else .lst 2 (addS h x).length (fun a b => ceSample ((addS h x).getD a (default : GSample)) b)
theorem takeX_lt {h : GHead} {x : GSay} {q : Nat} (hq : q < h.rows.length) : takeX h x q = rowX0 h q := if_pos hq
theorem takeX_n (h : GHead) (x : GSay) : takeX h x h.rows.length = .lst 2 (addS h x).length (fun a b => ceSample ((addS h x).getD a (default : GSample)) b) := if_neg (Nat.lt_irrefl _)
theorem rowC0_ren {h : GHead} {K K' : Nat} {q : Nat → Nat} (hq : q K = K') : ∀ a b, rowC0 h K' a b = (rowC0 h K a b).ren q := fun a b => match b with
  | 0 => rfl
  | 1 => by subst hq; rfl
  | _ + 2 => rfl
theorem rowC0_no {h : GHead} {K id : Nat} (hk : (K == id) = false) (a b : Nat) : (rowC0 h K a b).no id = true := match b with
  | 0 => rfl
  | 1 => by show (!(K == id)) = true; rw [hk]; rfl
  | _ + 2 => rfl
theorem rowC0_oc {h : GHead} {K : Nat} (a b : Nat) (hb : b < 2) : (rowC0 h K a b).oc = true := match b, hb with
  | 0, _ => rfl
  | 1, _ => rfl
  | _ + 2, h => absurd h (by omega)
theorem rowC0_ok (h : GHead) : CellsOk (rowC0 h 1000002) := ⟨rowC0_oc, fun k hk => rowC0_no (by simp; omega)⟩
abbrev newC (x : GSay) : Nat → Nat → AV := fun _ jc => ([.str x.name, .con (.slice none 0 0)] : List AV).getD jc (.con undef)
theorem newC_ok (x : GSay) : CellsOk (newC x) := ⟨fun _ b hb => (match b, hb with | 0, _ => rfl | 1, _ => rfl | _ + 2, h => absurd h (by omega)), fun _ _ _ b => (match b with | 0 => rfl | 1 => rfl | _ + 2 => rfl)⟩
theorem newC_ren (x : GSay) (q : Nat → Nat) (a b : Nat) : newC x a b = (newC x a b).ren q := match b with | 0 => rfl | 1 => rfl | _ + 2 => rfl
theorem insF_ren {f f' g g' : Nat → Nat → AV} {q : Nat → Nat} (hf : ∀ a b, f' a b = (f a b).ren q) (hg : ∀ a b, g' a b = (g a b).ren q) (i a b : Nat) : insF f' g' i a b = (insF f g i a b).ren q := by
  unfold insF
  split
  · exact hf a b
  · split
    · exact hg 0 b
    · exact hf _ b
theorem insF_no {f g : Nat → Nat → AV} {id : Nat} (hf : ∀ a b, (f a b).no id = true) (hg : ∀ a b, (g a b).no id = true) (i a b : Nat) : (insF f g i a b).no id = true := by
  unfold insF
  split
  · exact hf a b
  · split
    · exact hg 0 b
    · exact hf _ b
theorem insF_hx {h : GHead} {x : GSay} {K i a b : Nat} {L : List Nat} (hK : L.contains K = true) : (insF (rowC0 h K) (newC x) i a b).hx L = true := by
  have h1 : ∀ a b, (rowC0 h K a b).hx L = true := fun a b => match b with
    | 0 => rfl
    | 1 => hK
    | _ + 2 => rfl
  have h2 : ∀ a b, (newC x a b).hx L = true := fun a b => match b with | 0 => rfl | 1 => rfl | _ + 2 => rfl
  unfold insF
  split
  · exact h1 a b
  · split
    · exact h2 0 b
    · exact h1 _ b
/-! The names given anew. -/
def pmI (n k q : Nat) : Nat := if q < k then q else if q = k then n else q - 1
theorem pmI_lt {n k : Nat} : ∀ i, i < n + 1 → pmI n k i < n + 1 := fun i hi => by unfold pmI; split <;> (try split) <;> omega
theorem pmI_inj {n k : Nat} (hk : k ≤ n) : ∀ i j, i < n + 1 → j < n + 1 → pmI n k i = pmI n k j → i = j := fun i j hi hj e => by
  unfold pmI at e
  split at e <;> split at e <;> (try split at e) <;> (try split at e) <;> omega
theorem row_id {h : GHead} {K K2 : Nat} : ∀ i j, i < h.rows.length → j < 2 → rowC0 h K2 i j = rowC0 h K i j ∨ ∃ p, p < h.rows.length ∧ rowC0 h K i j = .tre K (id p) ∧ rowC0 h K2 i j = .tre K2 p := fun i j hi hj => match j, hj with
  | 0, _ => .inl rfl
  | 1, _ => .inr ⟨i, hi, rfl, rfl⟩
  | _ + 2, h => absurd h (by omega)
/-- A member left out. -/
def skP (k q : Nat) : Nat := if q < k then q else q + 1
theorem skP_lt {n k : Nat} (hk : k < n) : ∀ i, i < n - 1 → skP k i < n := fun i hi => by unfold skP; split <;> omega
theorem skP_inj {n k : Nat} : ∀ i j, i < n - 1 → j < n - 1 → skP k i = skP k j → i = j := fun i j _ _ e => by unfold skP at e; split at e <;> split at e <;> omega
theorem pmI_lt' {n k : Nat} (hn : 0 < n) : ∀ i, i < n → pmI (n - 1) k i < n - 1 + 1 := fun i hi => pmI_lt i (by omega)
theorem pmI_inj' {n k : Nat} (hk : k < n) : ∀ i j, i < n → j < n → pmI (n - 1) k i = pmI (n - 1) k j → i = j := fun i j hi hj e => pmI_inj (by omega) i j (by omega) (by omega) e
def rowS (h : GHead) (k a b : Nat) : AV := if a = k ∧ b = 1 then .tre 500 k else ([.str (h.rows.getD a (default : GRow)).name, .tre 501 (if a < k then a else a - 1)] : List AV).getD b (.con undef)
theorem rowS_no {h : GHead} {k id : Nat} (h1 : (500 == id) = false) (h2 : (501 == id) = false) (a b : Nat) : (rowS h k a b).no id = true := by
  unfold rowS
  split
  · show (!(500 == id)) = true; rw [h1]; rfl
  · exact (match b with | 0 => rfl | 1 => by show (!(501 == id)) = true; rw [h2]; rfl | _ + 2 => rfl)
theorem row_skip {h : GHead} {k : Nat} (hk : k < h.rows.length) : ∀ i j, i < h.rows.length → j < 2 → rowS h k i j = rowC0 h 500 i j ∨ ∃ p, p < h.rows.length - 1 ∧ rowC0 h 500 i j = .tre 500 (skP k p) ∧ rowS h k i j = .tre 501 p := fun i j hi hj => match j, hj with
  | 0, _ => .inl (by unfold rowS; rw [if_neg (by omega)]; rfl)
  | 1, _ => by
    by_cases e : i = k
    · subst e; exact .inl (if_pos ⟨rfl, rfl⟩)
    · refine .inr ⟨if i < k then i else i - 1, by split <;> omega, ?_, ?_⟩
      · show AV.tre 500 i = AV.tre 500 _
        rw [show skP k (if i < k then i else i - 1) = i from by
          unfold skP
          by_cases h : i < k
          · rw [if_pos h, if_pos h]
          · rw [if_neg h, if_neg (by omega)]; omega]
      · unfold rowS; rw [if_neg (fun h => e h.1)]; rfl
  | _ + 2, h => absurd h (by omega)
theorem rowX_old {h : GHead} {x : GSay} (hc : ¬ takeCode h x = 1) {q : Nat} (hq : q < h.rows.length) : takeX h x q = rowX0 (takeH h x) q := by
  rw [takeX_lt hq]; unfold rowX0; rw [tR_old hc]
theorem rowC_old {h : GHead} {x : GSay} (hc : ¬ takeCode h x = 1) (K a b : Nat) : rowC0 h K a b = rowC0 (takeH h x) K a b := by
  unfold rowC0; rw [tR_old hc]
theorem set_at {α : Type} (d : α) {l : List α} {k : Nat} {r : α} (hk : k < l.length) (a : Nat) : (l.set k r).getD a d = if a = k then r else l.getD a d := by
  rw [List.getD_eq_getElem?_getD, List.getD_eq_getElem?_getD, List.getElem?_set]
  by_cases e : a = k
  · subst e; rw [if_pos rfl, if_pos rfl, if_pos hk]; rfl
  · rw [if_neg e, if_neg (fun h => e h.symm)]
/-- The family without the member that is written, and behind it what the step makes. -/
def takeY (h : GHead) (x : GSay) (q : Nat) : AV := if q < h.rows.length - 1 then takeX h x (skP (loF h x.name) q) else .lst 2 (addS h x).length (fun a b => ceSample ((addS h x).getD a (default : GSample)) b)
theorem takeY_hole {h : GHead} {x : GSay} {vv : Value} {q : Nat} (hq : q < h.rows.length - 1) : (if skP (loF h x.name) q = loF h x.name then .con vv else takeX h x (skP (loF h x.name) q)) = takeY h x q := by
  rw [if_neg (by unfold skP; split <;> omega), takeY, if_pos hq]
theorem takeY_n (h : GHead) (x : GSay) : takeY h x (h.rows.length - 1) = .lst 2 (addS h x).length (fun a b => ceSample ((addS h x).getD a (default : GSample)) b) := if_neg (Nat.lt_irrefl _)
theorem row_back {h : GHead} {k : Nat} : ∀ a b, a < h.rows.length → b < 2 → (if a = k ∧ b = 1 then .tre 500 k else rowC0 h 78 a b) = rowS h k a b ∨ ∃ p, p < h.rows.length ∧ rowS h k a b = .tre 501 (pmI (h.rows.length - 1) k p) ∧ (if a = k ∧ b = 1 then .tre 500 k else rowC0 h 78 a b) = .tre 78 p := fun a b ha hb => match b, hb with
  | 0, _ => by
    refine .inl ?_
    unfold rowS
    rw [if_neg (by omega), if_neg (by omega)]; rfl
  | 1, _ => by
    unfold rowS
    by_cases e2 : a = k
    · rw [if_pos ⟨e2, rfl⟩, if_pos ⟨e2, rfl⟩]; exact .inl rfl
    · refine .inr ⟨a, ha, ?_, ?_⟩
      · rw [if_neg (fun h => e2 h.1)]
        show AV.tre 501 _ = AV.tre 501 _
        rw [show pmI (h.rows.length - 1) k a = if a < k then a else a - 1 from by
          unfold pmI
          by_cases e : a < k
          · rw [if_pos e, if_pos e]
          · rw [if_neg e, if_neg e, if_neg e2]]
      · rw [if_neg (fun h => e2 h.1)]; rfl
  | _ + 2, h => absurd h (by omega)
theorem pmI_self {n k : Nat} : pmI n k k = n := by unfold pmI; rw [if_neg (Nat.lt_irrefl _), if_pos rfl]
theorem rowC_row {h : GHead} {x : GSay} (hir : isRow h x.name = true) (hc : takeCode h x = 1) (K a b : Nat) : (if a = loF h x.name ∧ b = 1 then .tre K (loF h x.name) else if a = loF h x.name ∧ b = 1 then .tre 500 (loF h x.name) else rowC0 h K a b) = rowC0 (takeH h x) K a b := by
  have h1 : rowC0 (takeH h x) K a b = rowC0 h K a b := by
    unfold rowC0; rw [tR_row hir hc, set_at _ (row_lo hir)]
    by_cases e : a = loF h x.name
    · rw [if_pos e, e]
    · rw [if_neg e]
  rw [h1]
  by_cases e : a = loF h x.name ∧ b = 1
  · rw [if_pos e, e.1, e.2]; rfl
  · rw [if_neg e, if_neg e]
theorem rowX_row {h : GHead} {x : GSay} (hir : isRow h x.name = true) (hc : takeCode h x = 1) {q : Nat} (hq : q < h.rows.length) : takeY h x (pmI (h.rows.length - 1) (loF h x.name) q) = rowX0 (takeH h x) q := by
  have hlo := row_lo hir
  unfold rowX0 pmI
  rw [tR_row hir hc, set_at _ hlo]
  by_cases e : q < loF h x.name
  · rw [if_pos e, if_neg (by omega), takeY, if_pos (by omega), skP, if_pos e, takeX_lt hq]; rfl
  · rw [if_neg e]
    by_cases e2 : q = loF h x.name
    · rw [if_pos e2, if_pos e2, takeY_n]
    · rw [if_neg e2, if_neg e2, takeY, if_pos (by omega), skP, if_neg (by omega), show q - 1 + 1 = q by omega, takeX_lt hq]; rfl
theorem rowX_ins {h : GHead} {x : GSay} (hir : isRow h x.name = false) (hc : takeCode h x = 1) {q : Nat} (hq : q < h.rows.length + 1) : takeX h x (pmI h.rows.length (loF h x.name) q) = rowX0 (takeH h x) q := by
  have hlo := loF_le h x.name
  unfold rowX0 pmI
  rw [tR_ins hir hc, insL_at _ hlo]
  by_cases e : q < loF h x.name
  · rw [if_pos e, if_pos e, takeX_lt (by omega)]; rfl
  · rw [if_neg e, if_neg e]
    by_cases e2 : q = loF h x.name
    · rw [if_pos e2, if_pos e2, takeX_n]
    · rw [if_neg e2, if_neg e2, takeX_lt (by omega)]; rfl
theorem row_ins {h : GHead} {x : GSay} (hir : isRow h x.name = false) (hc : takeCode h x = 1) : ∀ a b, a < h.rows.length + 1 → b < 2 → rowC0 (takeH h x) 78 a b = (if a = loF h x.name ∧ b = 1 then .tre 500 h.rows.length else insF (rowC0 h 500) (newC x) (loF h x.name) a b) ∨ ∃ p, p < h.rows.length + 1 ∧ (if a = loF h x.name ∧ b = 1 then .tre 500 h.rows.length else insF (rowC0 h 500) (newC x) (loF h x.name) a b) = .tre 500 (pmI h.rows.length (loF h x.name) p) ∧ rowC0 (takeH h x) 78 a b = .tre 78 p := fun a b ha hb => match b, hb with
  | 0, _ => by
    refine .inl ?_
    rw [if_neg (by omega)]
    unfold insF
    show AV.str ((takeH h x).rows.getD a (default : GRow)).name = _
    rw [tR_ins hir hc, insL_at _ (loF_le h x.name)]
    split
    · rfl
    · split <;> rfl
  | 1, _ => by
    refine .inr ⟨a, ha, ?_, rfl⟩
    unfold insF pmI
    by_cases e2 : a = loF h x.name
    · rw [if_pos ⟨e2, rfl⟩, if_neg (by omega), if_pos e2]
    · rw [if_neg (fun h => e2 h.1)]
      by_cases e : a < loF h x.name
      · rw [if_pos e, if_pos e]; rfl
      · rw [if_neg e, if_neg e, if_neg e2, if_neg e2]; rfl
  | _ + 2, h => absurd h (by omega)
theorem insF_new {f g : Nat → Nat → AV} {i b : Nat} : insF f g i i b = g 0 b := by unfold insF; rw [if_neg (Nat.lt_irrefl _), if_pos rfl]

theorem v_FindR (h : GHead) (o : Int) (s : ByteArray) (hl : h.rows.length ≤ 1048576) (hg : goodHead ⟨h.rows, 0⟩ = true) : Fn Try.prog 48 [.one (.ref 2 (fun j => ([.lst 2 h.rows.length (fun i0 j0 => ([.str ((h.rows.getD i0 (default : GRow)).name), .lst 2 (((h.rows.getD i0 (default : GRow)).samples).length) (fun i1 j1 => ([.int .i64 ((((h.rows.getD i0 (default : GRow)).samples).getD i1 (default : GSample)).at_), .int .i64 ((((h.rows.getD i0 (default : GRow)).samples).getD i1 (default : GSample)).value)] : List AV).getD j1 (.con undef))] : List AV).getD j0 (.con undef)), .int .i64 o] : List AV).getD j (.con undef))), .one (.str s)] (.tup2 (.one (.int .i64 (loF h s : Int))) (.one (.bool (isRow h s)))) := by
  refine Fn.of_body (fn := Try.f48) Try.func48 rfl (Nat.le_of_ble_eq_true rfl) ⟨trivial, trivial⟩ ?_
  intro w0
  show AW _ 14 _ _ _ _
  refine AW.seq ?_
  refine AW.region ?_
  refine ARun.pure (PureOp.assign rfl .int) rfl rfl (Nat.le_of_ble_eq_true rfl) ?_
  refine ARun.pure (PureOp.assign rfl .bool) rfl rfl (Nat.le_of_ble_eq_true rfl) ?_
  refine ARun.nil ?_
  refine AW.seq ?_
  refine AW.region ?_
  refine ARun.pure (PureOp.move rfl (.tmp rfl)) rfl rfl (Nat.le_of_ble_eq_true rfl) ?_
  refine ARun.pure (PureOp.nilRef rfl (.tmp rfl)) rfl rfl (Nat.le_of_ble_eq_true rfl) ?_
  refine ARun.pure (PureOp.fieldRef rfl (.tmp rfl) vtk_fi_29_0_0 (Nat.le_of_ble_eq_true rfl)) rfl rfl (Nat.le_of_ble_eq_true rfl) ?_
  refine ARun.pure (PureOp.loadRef rfl (.tmp rfl) vtk_pl_27 (Nat.le_of_ble_eq_true rfl)) rfl rfl (Nat.le_of_ble_eq_true rfl) ?_
  refine ARun.pure (PureOp.move rfl (.tmp rfl)) rfl rfl (Nat.le_of_ble_eq_true rfl) ?_
  refine ARun.pure (PureOp.call rfl (v_Bs h.rows s (loF h s) (by omega) (loF_le h s) (fun _ hq => loF_lt hq) (fun _ hq1 hq2 => loF_ge (h := ⟨h.rows, 0⟩) (s := s) hg hq1 hq2)) ⟨⟨_, (.tmp rfl), .lst⟩, ⟨_, (.tmp rfl), .str⟩, ⟨_, .func, (.fn (fun j h => absurd h (by omega)))⟩, trivial⟩ vtk_ca_74 ⟨trivial, trivial⟩) rfl rfl (Nat.le_of_ble_eq_true rfl) ?_
  refine ARun.pure (PureOp.ext2a rfl (.tmp rfl)) rfl rfl (Nat.le_of_ble_eq_true rfl) ?_
  refine ARun.pure (PureOp.ext2b rfl (.tmp rfl)) rfl rfl (Nat.le_of_ble_eq_true rfl) ?_
  refine ARun.pure (PureOp.assign rfl (.tmp rfl)) rfl rfl (Nat.le_of_ble_eq_true rfl) ?_
  refine ARun.pure (PureOp.assign rfl (.tmp rfl)) rfl rfl (Nat.le_of_ble_eq_true rfl) ?_
  refine ARun.nil ?_
  refine AW.ret (show ResL _ _ [.tmp 4, .tmp 5] _ from res2I rfl rfl ?_)
  exact ⟨rfl, rfl⟩

theorem v_take0 (h : GHead) (x : GSay) (hg : goodHead ⟨h.rows, 0⟩ = true) (ho : 0 ≤ h.offset ∧ h.offset ≤ 1000000) : FnG Try.prog 60 [.one (.ptr 1000000 2 0 0), .agg [.str x.name, .int .i64 x.at_, .int .i64 x.value]] [(1000000, .cells [.own 1000001 2 h.rows.length, .int .i64 h.offset]), (1000001, .arr 2 h.rows.length (rowC0 h 1000002)), (1000002, .trees h.rows.length (rowX0 h))] (.one (.int .i64 ((takeCode h x : Nat) : Int))) [(77, .arr 2 (takeN h x) (rowC0 (takeH h x) 78)), (78, .trees (takeN h x) (rowX0 (takeH h x))), (1000000, .cells [.own 77 2 (takeN h x), .int .i64 ((takeH h x).offset)])] := by
  obtain ⟨ho0, ho1⟩ := ho
  have hr8 : h.rows.length ≤ 8 := good_len (h := ⟨h.rows, 0⟩) hg
  refine FnG.of_body (fn := Try.f60) Try.func60 rfl (Nat.le_of_ble_eq_true rfl) ?_
  intro w0
  show AW _ 94 _ _ _ _
  refine AW.reindex 1000002 500 1000001 h.rows.length h.rows.length 2 h.rows.length id (rowX0 h) (rowC0 h 1000002) (rowC0 h 500) rfl rfl (fun _ hi => hi) (fun _ _ _ _ e => e) row_id ⟨rfl, (by repeat first | exact trivial | refine ⟨by decide, by first | rfl | exact trivial | (intro a_ b_; first | exact getD_no rfl | exact rowC0_no rfl _ _ | exact rowS_no rfl rfl _ _ | exact insF_no (rowC0_no rfl) (fun _ _ => getD_no rfl) _ _ _ | ((try dsimp only); (repeat' split) <;> first | rfl | exact rowC0_no rfl _ _ | exact getD_no rfl | exact insF_no (rowC0_no rfl) (fun _ _ => getD_no rfl) _ _ _)), ?_⟩)⟩ ?_
  refine AW.hle (H' := [(500, .trees h.rows.length (takeX h x)), (1000000, .cells [.own 1000001 2 h.rows.length, .int .i64 h.offset]), (1000001, .arr 2 h.rows.length (rowC0 h 500))]) ⟨⟨_, rfl, fun _ hi => (takeX_lt hi).symm⟩, HeapLe.one rfl (HeapLe.one rfl trivial)⟩ ?_
  refine AW.seq ?_
  refine AW.region ?_
  refine ARun.box (id := 0) rfl (.tmp rfl) (SV.cells_of (by exact ⟨trivial, trivial, trivial, trivial⟩)) ⟨rfl, (by repeat first | exact trivial | refine ⟨by decide, by first | rfl | exact trivial | (intro a_ b_; first | exact getD_no rfl | exact rowC0_no rfl _ _ | exact rowS_no rfl rfl _ _ | exact insF_no (rowC0_no rfl) (fun _ _ => getD_no rfl) _ _ _ | ((try dsimp only); (repeat' split) <;> first | rfl | exact rowC0_no rfl _ _ | exact getD_no rfl | exact insF_no (rowC0_no rfl) (fun _ _ => getD_no rfl) _ _ _)), ?_⟩)⟩ rfl rfl rfl (Nat.le_of_ble_eq_true rfl) ?_
  refine ARun.pure (PureOp.assign rfl .int) rfl rfl (Nat.le_of_ble_eq_true rfl) ?_
  refine ARun.nil ?_
  refine AW.seq ?_
  refine AW.region ?_
  refine ARun.pure (PureOp.move rfl (.tmp rfl)) rfl rfl (Nat.le_of_ble_eq_true rfl) ?_
  refine ARun.pure (PureOp.nilPtr rfl (.tmp rfl)) rfl rfl (Nat.le_of_ble_eq_true rfl) ?_
  refine ARun.pure (PureOp.fieldPtr rfl (.tmp rfl) vtk_fi_29_1_1) rfl rfl (Nat.le_of_ble_eq_true rfl) ?_
  refine ARun.pure (PureOp.loadPtr rfl (.tmp rfl) vtk_pl_3 rfl rfl (Nat.le_of_ble_eq_true rfl) (Nat.le_of_ble_eq_true rfl)) rfl rfl (Nat.le_of_ble_eq_true rfl) ?_
  refine ARun.pure (PureOp.add (c := h.offset + 1) rfl (.tmp rfl) .int (wrap_id (by omega) (by omega))) rfl rfl (Nat.le_of_ble_eq_true rfl) ?_
  refine ARun.pure (PureOp.nilPtr rfl (.tmp rfl)) rfl rfl (Nat.le_of_ble_eq_true rfl) ?_
  refine ARun.pure (PureOp.fieldPtr rfl (.tmp rfl) vtk_fi_29_1_1) rfl rfl (Nat.le_of_ble_eq_true rfl) ?_
  refine ARun.store rfl (.tmp rfl) (.tmp rfl) trivial rfl (Nat.le_of_ble_eq_true rfl) vtk_sz_3_1 rfl rfl ?_
  refine ARun.nil ?_
  refine AW.seq ?_
  refine AW.region ?_
  refine ARun.pure (PureOp.move rfl (.tmp rfl)) rfl rfl (Nat.le_of_ble_eq_true rfl) ?_
  refine ARun.pure (PureOp.fieldPtr rfl (.tmp rfl) vtk_fi_47_0_0) rfl rfl (Nat.le_of_ble_eq_true rfl) ?_
  refine ARun.pure (PureOp.loadPtr rfl (.tmp rfl) vtk_pl_9 rfl rfl (Nat.le_of_ble_eq_true rfl) (Nat.le_of_ble_eq_true rfl)) rfl rfl (Nat.le_of_ble_eq_true rfl) ?_
  refine ARun.pure (PureOp.call rfl (v_FindR h (h.offset + 1) x.name (by omega) hg) ⟨⟨_, (.tmp rfl), (.ptr (m := 2) rfl rfl (Nat.le_of_ble_eq_true rfl) (Nat.le_of_ble_eq_true rfl) (fun | 0, _ => (.own rfl rfl (Nat.le_refl _) (fun i j hi hj => (match j, hj with | 0, _ => .str | 1, _ => (Vw.cast (Vw.tre rfl hi) ((takeX_lt hi).trans rfl)) | _ + 2, h => absurd h (by omega)))) | 1, _ => .int | _ + 2, h => absurd h (by omega)))⟩, ⟨_, (.tmp rfl), .str⟩, trivial⟩ vtk_ca_48 ⟨trivial, trivial⟩) rfl rfl (Nat.le_of_ble_eq_true rfl) ?_
  refine ARun.pure (PureOp.move rfl (.tmp rfl)) rfl rfl (Nat.le_of_ble_eq_true rfl) ?_
  refine ARun.pure (PureOp.ext2a rfl (.tmp rfl)) rfl rfl (Nat.le_of_ble_eq_true rfl) ?_
  refine ARun.pure (PureOp.ext2b rfl (.tmp rfl)) rfl rfl (Nat.le_of_ble_eq_true rfl) ?_
  refine ARun.pure (PureOp.assign rfl (.tmp rfl)) rfl rfl (Nat.le_of_ble_eq_true rfl) ?_
  refine ARun.pure (PureOp.assign rfl (.tmp rfl)) rfl rfl (Nat.le_of_ble_eq_true rfl) ?_
  refine ARun.nil ?_
  refine AW.seq ?_
  refine AW.seq ?_
  refine AW.region ?_
  refine ARun.pure (PureOp.move rfl (.tmp rfl)) rfl rfl (Nat.le_of_ble_eq_true rfl) ?_
  refine ARun.pure (PureOp.not rfl (.tmp rfl)) rfl rfl (Nat.le_of_ble_eq_true rfl) ?_
  refine ARun.nil ?_
  refine AW.cond (.tmp rfl) (fun hb1 => ?_) (fun hb1 => ?_)
  · have _u := True.intro
    have hir : isRow h x.name = false := of_not hb1
    have hlo := loF_le h x.name
    refine AW.seq ?_
    refine AW.seq ?_
    refine AW.region ?_
    refine ARun.pure (PureOp.move rfl (.tmp rfl)) rfl rfl (Nat.le_of_ble_eq_true rfl) ?_
    refine ARun.pure (PureOp.nilPtr rfl (.tmp rfl)) rfl rfl (Nat.le_of_ble_eq_true rfl) ?_
    refine ARun.pure (PureOp.fieldPtr rfl (.tmp rfl) vtk_fi_29_0_0) rfl rfl (Nat.le_of_ble_eq_true rfl) ?_
    refine ARun.pure (PureOp.loadPtr rfl (.tmp rfl) vtk_pl_27 rfl rfl (Nat.le_of_ble_eq_true rfl) (Nat.le_of_ble_eq_true rfl)) rfl rfl (Nat.le_of_ble_eq_true rfl) ?_
    refine ARun.pure (PureOp.lenOwn rfl (.tmp rfl) vtk_sl_27) rfl rfl (Nat.le_of_ble_eq_true rfl) ?_
    refine ARun.pure (PureOp.intOp rfl (.tmp rfl) .int rfl) rfl rfl (Nat.le_of_ble_eq_true rfl) ?_
    refine ARun.nil ?_
    refine AW.cond (.tmp rfl) (fun hb2 => ?_) (fun hb2 => ?_)
    · have _u := True.intro
      replace hb2 := of_decide_eq_true hb2
      have hcode := tk_full8 hir (show h.rows.length = 8 from by omega)
      have hcn : ¬ takeCode h x = 1 := by omega
      refine AW.seq ?_
      refine AW.region ?_
      refine ARun.pure (PureOp.assign rfl .int) rfl rfl (Nat.le_of_ble_eq_true rfl) ?_
      refine ARun.nil ?_
      rw [tN_old hcn, hcode]
      refine AW.moveCell 1000000 0 1000001 77 2 h.rows.length [.own 1000001 2 h.rows.length, .int .i64 (h.offset + 1)] [.own 77 2 h.rows.length, .int .i64 (h.offset + 1)] rfl rfl rfl rfl rfl (by decide) ⟨rfl, (by repeat first | exact trivial | refine ⟨by decide, by first | rfl | exact trivial | (intro a_ b_; first | exact getD_no rfl | exact rowC0_no rfl _ _ | exact rowS_no rfl rfl _ _ | exact insF_no (rowC0_no rfl) (fun _ _ => getD_no rfl) _ _ _ | ((try dsimp only); (repeat' split) <;> first | rfl | exact rowC0_no rfl _ _ | exact getD_no rfl | exact insF_no (rowC0_no rfl) (fun _ _ => getD_no rfl) _ _ _)), ?_⟩)⟩ ?_
      refine AW.reindex 500 78 77 h.rows.length h.rows.length 2 h.rows.length id (takeX h x) (rowC0 h 500) (rowC0 h 78) rfl rfl (fun _ hi => hi) (fun _ _ _ _ e => e) row_id ⟨rfl, (by repeat first | exact trivial | refine ⟨by decide, by first | rfl | exact trivial | (intro a_ b_; first | exact getD_no rfl | exact rowC0_no rfl _ _ | exact rowS_no rfl rfl _ _ | exact insF_no (rowC0_no rfl) (fun _ _ => getD_no rfl) _ _ _ | ((try dsimp only); (repeat' split) <;> first | rfl | exact rowC0_no rfl _ _ | exact getD_no rfl | exact insF_no (rowC0_no rfl) (fun _ _ => getD_no rfl) _ _ _)), ?_⟩)⟩ ?_
      refine AW.ret (show ResL _ _ [.tmp 4] _ ∧ HeapLe _ _ from ⟨resI rfl ?_, ⟨⟨_, rfl, rfl, Nat.le_refl _, fun a b _ _ => rowC_old hcn 78 a b⟩, ⟨_, rfl, fun q hq => rowX_old hcn hq⟩, HLe.refl rfl, trivial⟩⟩)
      rfl
    · have _u := True.intro
      replace hb2 := of_decide_eq_false hb2
      have hcode := tk_ins hir (show ¬ h.rows.length = 8 from by omega)
      refine AW.skip ?_
      refine AW.anyX [⟨[], [], [], []⟩, ⟨[], [], [], []⟩, ⟨[], [], [], []⟩, ⟨[], [], [], []⟩, ⟨[1000000], [], [], []⟩, ⟨[], [], [], []⟩, ⟨[], [], [], []⟩, ⟨[0], [], [], []⟩, ⟨[], [], [], []⟩, ⟨[], [1], [1], [(1, .arr 2 1 (fun _ jc => ([.str x.name, .con (.slice none 0 0)] : List AV).getD jc (.con undef)))]⟩, ⟨[], [1, 77, 1000001], [77], [(77, .arr 2 (h.rows.length + 1) (insF (rowC0 h 500) (newC x) (loF h x.name)))]⟩, ⟨[], [], [], []⟩, ⟨[], [], [], []⟩, ⟨[], [1000000], [], [(1000000, .cells [.own 77 2 (h.rows.length + 1), .int .i64 (h.offset + 1)])]⟩] (by kernel_rfl) (by kernel_rfl) (by kernel_rfl) ⟨⟨.inl rfl, .inr (.inr trivial), .inr (.inr trivial), .inr (.inr trivial), .inr (.inr trivial), .inr (.inr trivial), .inr (.inr trivial), .inr (.inr trivial), .inr (.inr trivial), .inr (.inr (by repeat first | exact trivial | refine And.intro ?_ ?_ | exact rfl | ((intro a_ b_; first | exact getD_no rfl | exact rowC0_no rfl _ _ | exact rowS_no rfl rfl _ _ | exact insF_no (rowC0_no rfl) (fun _ _ => getD_no rfl) _ _ _ | ((try dsimp only); (repeat' split) <;> first | rfl | exact rowC0_no rfl _ _ | exact getD_no rfl | exact insF_no (rowC0_no rfl) (fun _ _ => getD_no rfl) _ _ _))))), .inr (.inr (by repeat first | exact trivial | refine And.intro ?_ ?_ | exact rfl | ((intro a_ b_; first | exact getD_no rfl | exact rowC0_no rfl _ _ | exact rowS_no rfl rfl _ _ | exact insF_no (rowC0_no rfl) (fun _ _ => getD_no rfl) _ _ _ | ((try dsimp only); (repeat' split) <;> first | rfl | exact rowC0_no rfl _ _ | exact getD_no rfl | exact insF_no (rowC0_no rfl) (fun _ _ => getD_no rfl) _ _ _))))), .inr (.inr trivial), .inr (.inr trivial), .inr (.inr trivial), trivial⟩, ⟨.inr (.inr trivial), .inl rfl, .inr (.inr trivial), .inr (.inr trivial), .inr (.inr trivial), .inr (.inr trivial), .inr (.inr trivial), .inr (.inr trivial), .inr (.inr trivial), .inr (.inr (by repeat first | exact trivial | refine And.intro ?_ ?_ | exact rfl | ((intro a_ b_; first | exact getD_no rfl | exact rowC0_no rfl _ _ | exact rowS_no rfl rfl _ _ | exact insF_no (rowC0_no rfl) (fun _ _ => getD_no rfl) _ _ _ | ((try dsimp only); (repeat' split) <;> first | rfl | exact rowC0_no rfl _ _ | exact getD_no rfl | exact insF_no (rowC0_no rfl) (fun _ _ => getD_no rfl) _ _ _))))), .inr (.inr (by repeat first | exact trivial | refine And.intro ?_ ?_ | exact rfl | ((intro a_ b_; first | exact getD_no rfl | exact rowC0_no rfl _ _ | exact rowS_no rfl rfl _ _ | exact insF_no (rowC0_no rfl) (fun _ _ => getD_no rfl) _ _ _ | ((try dsimp only); (repeat' split) <;> first | rfl | exact rowC0_no rfl _ _ | exact getD_no rfl | exact insF_no (rowC0_no rfl) (fun _ _ => getD_no rfl) _ _ _))))), .inr (.inr trivial), .inr (.inr trivial), .inr (.inr trivial), trivial⟩, ⟨.inr (.inr trivial), .inr (.inr trivial), .inl rfl, .inr (.inr trivial), .inr (.inr trivial), .inr (.inr trivial), .inr (.inr trivial), .inr (.inr trivial), .inr (.inr trivial), .inr (.inr (by repeat first | exact trivial | refine And.intro ?_ ?_ | exact rfl | ((intro a_ b_; first | exact getD_no rfl | exact rowC0_no rfl _ _ | exact rowS_no rfl rfl _ _ | exact insF_no (rowC0_no rfl) (fun _ _ => getD_no rfl) _ _ _ | ((try dsimp only); (repeat' split) <;> first | rfl | exact rowC0_no rfl _ _ | exact getD_no rfl | exact insF_no (rowC0_no rfl) (fun _ _ => getD_no rfl) _ _ _))))), .inr (.inr (by repeat first | exact trivial | refine And.intro ?_ ?_ | exact rfl | ((intro a_ b_; first | exact getD_no rfl | exact rowC0_no rfl _ _ | exact rowS_no rfl rfl _ _ | exact insF_no (rowC0_no rfl) (fun _ _ => getD_no rfl) _ _ _ | ((try dsimp only); (repeat' split) <;> first | rfl | exact rowC0_no rfl _ _ | exact getD_no rfl | exact insF_no (rowC0_no rfl) (fun _ _ => getD_no rfl) _ _ _))))), .inr (.inr trivial), .inr (.inr trivial), .inr (.inr trivial), trivial⟩, ⟨.inr (.inr trivial), .inr (.inr trivial), .inr (.inr trivial), .inl rfl, .inr (.inr trivial), .inr (.inr trivial), .inr (.inr trivial), .inr (.inr trivial), .inr (.inr trivial), .inr (.inr (by repeat first | exact trivial | refine And.intro ?_ ?_ | exact rfl | ((intro a_ b_; first | exact getD_no rfl | exact rowC0_no rfl _ _ | exact rowS_no rfl rfl _ _ | exact insF_no (rowC0_no rfl) (fun _ _ => getD_no rfl) _ _ _ | ((try dsimp only); (repeat' split) <;> first | rfl | exact rowC0_no rfl _ _ | exact getD_no rfl | exact insF_no (rowC0_no rfl) (fun _ _ => getD_no rfl) _ _ _))))), .inr (.inr (by repeat first | exact trivial | refine And.intro ?_ ?_ | exact rfl | ((intro a_ b_; first | exact getD_no rfl | exact rowC0_no rfl _ _ | exact rowS_no rfl rfl _ _ | exact insF_no (rowC0_no rfl) (fun _ _ => getD_no rfl) _ _ _ | ((try dsimp only); (repeat' split) <;> first | rfl | exact rowC0_no rfl _ _ | exact getD_no rfl | exact insF_no (rowC0_no rfl) (fun _ _ => getD_no rfl) _ _ _))))), .inr (.inr trivial), .inr (.inr trivial), .inr (.inr trivial), trivial⟩, ⟨.inr (.inr trivial), .inr (.inr trivial), .inr (.inr trivial), .inr (.inr trivial), .inl rfl, .inr (.inr trivial), .inr (.inr trivial), .inr (.inr trivial), .inr (.inr trivial), .inr (.inr (by repeat first | exact trivial | refine And.intro ?_ ?_ | exact rfl | ((intro a_ b_; first | exact getD_no rfl | exact rowC0_no rfl _ _ | exact rowS_no rfl rfl _ _ | exact insF_no (rowC0_no rfl) (fun _ _ => getD_no rfl) _ _ _ | ((try dsimp only); (repeat' split) <;> first | rfl | exact rowC0_no rfl _ _ | exact getD_no rfl | exact insF_no (rowC0_no rfl) (fun _ _ => getD_no rfl) _ _ _))))), .inr (.inr (by repeat first | exact trivial | refine And.intro ?_ ?_ | exact rfl | ((intro a_ b_; first | exact getD_no rfl | exact rowC0_no rfl _ _ | exact rowS_no rfl rfl _ _ | exact insF_no (rowC0_no rfl) (fun _ _ => getD_no rfl) _ _ _ | ((try dsimp only); (repeat' split) <;> first | rfl | exact rowC0_no rfl _ _ | exact getD_no rfl | exact insF_no (rowC0_no rfl) (fun _ _ => getD_no rfl) _ _ _))))), .inr (.inr trivial), .inr (.inr trivial), .inr (.inr trivial), trivial⟩, ⟨.inr (.inr trivial), .inr (.inr trivial), .inr (.inr trivial), .inr (.inr trivial), .inr (.inr trivial), .inl rfl, .inr (.inr trivial), .inr (.inr trivial), .inr (.inr trivial), .inr (.inr (by repeat first | exact trivial | refine And.intro ?_ ?_ | exact rfl | ((intro a_ b_; first | exact getD_no rfl | exact rowC0_no rfl _ _ | exact rowS_no rfl rfl _ _ | exact insF_no (rowC0_no rfl) (fun _ _ => getD_no rfl) _ _ _ | ((try dsimp only); (repeat' split) <;> first | rfl | exact rowC0_no rfl _ _ | exact getD_no rfl | exact insF_no (rowC0_no rfl) (fun _ _ => getD_no rfl) _ _ _))))), .inr (.inr (by repeat first | exact trivial | refine And.intro ?_ ?_ | exact rfl | ((intro a_ b_; first | exact getD_no rfl | exact rowC0_no rfl _ _ | exact rowS_no rfl rfl _ _ | exact insF_no (rowC0_no rfl) (fun _ _ => getD_no rfl) _ _ _ | ((try dsimp only); (repeat' split) <;> first | rfl | exact rowC0_no rfl _ _ | exact getD_no rfl | exact insF_no (rowC0_no rfl) (fun _ _ => getD_no rfl) _ _ _))))), .inr (.inr trivial), .inr (.inr trivial), .inr (.inr trivial), trivial⟩, ⟨.inr (.inr trivial), .inr (.inr trivial), .inr (.inr trivial), .inr (.inr trivial), .inr (.inr trivial), .inr (.inr trivial), .inl rfl, .inr (.inr trivial), .inr (.inr trivial), .inr (.inr (by repeat first | exact trivial | refine And.intro ?_ ?_ | exact rfl | ((intro a_ b_; first | exact getD_no rfl | exact rowC0_no rfl _ _ | exact rowS_no rfl rfl _ _ | exact insF_no (rowC0_no rfl) (fun _ _ => getD_no rfl) _ _ _ | ((try dsimp only); (repeat' split) <;> first | rfl | exact rowC0_no rfl _ _ | exact getD_no rfl | exact insF_no (rowC0_no rfl) (fun _ _ => getD_no rfl) _ _ _))))), .inr (.inr (by repeat first | exact trivial | refine And.intro ?_ ?_ | exact rfl | ((intro a_ b_; first | exact getD_no rfl | exact rowC0_no rfl _ _ | exact rowS_no rfl rfl _ _ | exact insF_no (rowC0_no rfl) (fun _ _ => getD_no rfl) _ _ _ | ((try dsimp only); (repeat' split) <;> first | rfl | exact rowC0_no rfl _ _ | exact getD_no rfl | exact insF_no (rowC0_no rfl) (fun _ _ => getD_no rfl) _ _ _))))), .inr (.inr trivial), .inr (.inr trivial), .inr (.inr trivial), trivial⟩, ⟨.inr (.inr trivial), .inr (.inr trivial), .inr (.inr trivial), .inr (.inr trivial), .inr (.inr trivial), .inr (.inr trivial), .inr (.inr trivial), .inl rfl, .inr (.inr trivial), .inr (.inr (by repeat first | exact trivial | refine And.intro ?_ ?_ | exact rfl | ((intro a_ b_; first | exact getD_no rfl | exact rowC0_no rfl _ _ | exact rowS_no rfl rfl _ _ | exact insF_no (rowC0_no rfl) (fun _ _ => getD_no rfl) _ _ _ | ((try dsimp only); (repeat' split) <;> first | rfl | exact rowC0_no rfl _ _ | exact getD_no rfl | exact insF_no (rowC0_no rfl) (fun _ _ => getD_no rfl) _ _ _))))), .inr (.inr (by repeat first | exact trivial | refine And.intro ?_ ?_ | exact rfl | ((intro a_ b_; first | exact getD_no rfl | exact rowC0_no rfl _ _ | exact rowS_no rfl rfl _ _ | exact insF_no (rowC0_no rfl) (fun _ _ => getD_no rfl) _ _ _ | ((try dsimp only); (repeat' split) <;> first | rfl | exact rowC0_no rfl _ _ | exact getD_no rfl | exact insF_no (rowC0_no rfl) (fun _ _ => getD_no rfl) _ _ _))))), .inr (.inr trivial), .inr (.inr trivial), .inr (.inr trivial), trivial⟩, ⟨.inr (.inr trivial), .inr (.inr trivial), .inr (.inr trivial), .inr (.inr trivial), .inr (.inr trivial), .inr (.inr trivial), .inr (.inr trivial), .inr (.inr trivial), .inl rfl, .inr (.inr (by repeat first | exact trivial | refine And.intro ?_ ?_ | exact rfl | ((intro a_ b_; first | exact getD_no rfl | exact rowC0_no rfl _ _ | exact rowS_no rfl rfl _ _ | exact insF_no (rowC0_no rfl) (fun _ _ => getD_no rfl) _ _ _ | ((try dsimp only); (repeat' split) <;> first | rfl | exact rowC0_no rfl _ _ | exact getD_no rfl | exact insF_no (rowC0_no rfl) (fun _ _ => getD_no rfl) _ _ _))))), .inr (.inr (by repeat first | exact trivial | refine And.intro ?_ ?_ | exact rfl | ((intro a_ b_; first | exact getD_no rfl | exact rowC0_no rfl _ _ | exact rowS_no rfl rfl _ _ | exact insF_no (rowC0_no rfl) (fun _ _ => getD_no rfl) _ _ _ | ((try dsimp only); (repeat' split) <;> first | rfl | exact rowC0_no rfl _ _ | exact getD_no rfl | exact insF_no (rowC0_no rfl) (fun _ _ => getD_no rfl) _ _ _))))), .inr (.inr trivial), .inr (.inr trivial), .inr (.inr trivial), trivial⟩, ⟨.inr (.inr trivial), .inr (.inr trivial), .inr (.inr trivial), .inr (.inr trivial), .inr (.inr trivial), .inr (.inr trivial), .inr (.inr trivial), .inr (.inr trivial), .inr (.inr trivial), .inl rfl, .inr (.inr (by repeat first | exact trivial | refine And.intro ?_ ?_ | exact rfl | ((intro a_ b_; first | exact getD_no rfl | exact rowC0_no rfl _ _ | exact rowS_no rfl rfl _ _ | exact insF_no (rowC0_no rfl) (fun _ _ => getD_no rfl) _ _ _ | ((try dsimp only); (repeat' split) <;> first | rfl | exact rowC0_no rfl _ _ | exact getD_no rfl | exact insF_no (rowC0_no rfl) (fun _ _ => getD_no rfl) _ _ _))))), .inr (.inr trivial), .inr (.inr trivial), .inr (.inr trivial), trivial⟩, ⟨.inr (.inr trivial), .inr (.inr trivial), .inr (.inr trivial), .inr (.inr trivial), .inr (.inr trivial), .inr (.inr trivial), .inr (.inr trivial), .inr (.inr trivial), .inr (.inr trivial), .inr (.inl (by kernel_rfl)), .inl rfl, .inr (.inr trivial), .inr (.inr trivial), .inr (.inr trivial), trivial⟩, ⟨.inr (.inr trivial), .inr (.inr trivial), .inr (.inr trivial), .inr (.inr trivial), .inr (.inr trivial), .inr (.inr trivial), .inr (.inr trivial), .inr (.inr trivial), .inr (.inr trivial), .inr (.inl (by kernel_rfl)), .inr (.inl (by kernel_rfl)), .inl rfl, .inr (.inr trivial), .inr (.inr trivial), trivial⟩, ⟨.inr (.inr trivial), .inr (.inr trivial), .inr (.inr trivial), .inr (.inr trivial), .inr (.inr trivial), .inr (.inr trivial), .inr (.inr trivial), .inr (.inr trivial), .inr (.inr trivial), .inr (.inl (by kernel_rfl)), .inr (.inl (by kernel_rfl)), .inr (.inr trivial), .inl rfl, .inr (.inr trivial), trivial⟩, ⟨.inr (.inr trivial), .inr (.inr trivial), .inr (.inr trivial), .inr (.inr trivial), .inr (.inr trivial), .inr (.inr trivial), .inr (.inr trivial), .inr (.inr trivial), .inr (.inr trivial), .inr (.inl (by kernel_rfl)), .inr (.inl (by kernel_rfl)), .inr (.inr trivial), .inr (.inr trivial), .inl rfl, trivial⟩, trivial⟩ ⟨trivial, trivial, trivial, trivial, trivial, trivial, trivial, trivial, trivial, ⟨(by repeat first | exact trivial | refine ⟨by decide, by first | rfl | exact trivial | (intro a_ b_; first | exact getD_no rfl | exact rowC0_no rfl _ _ | exact rowS_no rfl rfl _ _ | exact insF_no (rowC0_no rfl) (fun _ _ => getD_no rfl) _ _ _ | ((try dsimp only); (repeat' split) <;> first | rfl | exact rowC0_no rfl _ _ | exact getD_no rfl | exact insF_no (rowC0_no rfl) (fun _ _ => getD_no rfl) _ _ _)), ?_⟩), trivial⟩, ⟨(by repeat first | exact trivial | refine ⟨by decide, by first | rfl | exact trivial | (intro a_ b_; first | exact getD_no rfl | exact rowC0_no rfl _ _ | exact rowS_no rfl rfl _ _ | exact insF_no (rowC0_no rfl) (fun _ _ => getD_no rfl) _ _ _ | ((try dsimp only); (repeat' split) <;> first | rfl | exact rowC0_no rfl _ _ | exact getD_no rfl | exact insF_no (rowC0_no rfl) (fun _ _ => getD_no rfl) _ _ _)), ?_⟩), trivial⟩, trivial, trivial, trivial, trivial⟩ ?_
      refine ADX.pure [] (PureOp.move rfl (.tmp rfl)) rfl rfl (Nat.le_of_ble_eq_true rfl) trivial rfl ?_
      refine ADX.pure [] (PureOp.move rfl (.tmp rfl)) rfl rfl (Nat.le_of_ble_eq_true rfl) trivial rfl ?_
      refine ADX.pure [] (PureOp.nilPtr rfl (.tmp rfl)) rfl rfl (Nat.le_of_ble_eq_true rfl) trivial rfl ?_
      refine ADX.pure [] (PureOp.fieldPtr rfl (.tmp rfl) vtk_fi_29_0_0) rfl rfl (Nat.le_of_ble_eq_true rfl) trivial rfl ?_
      refine ADX.pure [(1000000, .cells [.own 1000001 2 h.rows.length, .int .i64 (h.offset + 1)])] (PureOp.loadPtr rfl (.tmp rfl) vtk_pl_27 rfl rfl (Nat.le_of_ble_eq_true rfl) (Nat.le_of_ble_eq_true rfl)) rfl rfl (Nat.le_of_ble_eq_true rfl) ⟨rfl, trivial⟩ rfl ?_
      refine ADX.pure [] (PureOp.move rfl (.tmp rfl)) rfl rfl (Nat.le_of_ble_eq_true rfl) trivial rfl ?_
      refine ADX.pure [] (PureOp.fieldPtr rfl (.tmp rfl) vtk_fi_47_0_0) rfl rfl (Nat.le_of_ble_eq_true rfl) trivial rfl ?_
      refine ADX.pure [(0, .cells [.str x.name, .int .i64 x.at_, .int .i64 x.value])] (PureOp.loadPtr rfl (.tmp rfl) vtk_pl_9 rfl rfl (Nat.le_of_ble_eq_true rfl) (Nat.le_of_ble_eq_true rfl)) rfl rfl (Nat.le_of_ble_eq_true rfl) ⟨rfl, trivial⟩ rfl ?_
      refine ADX.pure [] (PureOp.build (ys := [.str x.name]) (l := [.str ByteArray.empty, .con (.slice none 0 0)]) (pl := [(0, 1), (1, 1)]) (z := (.agg #[.string ByteArray.empty, .slice none 0 0])) rfl (by kernel_rfl) (by kernel_rfl) (fun _ _ _ => ⟨_, _, rfl, ⟨rfl, by decide⟩, ⟨_, _, rfl, rfl, rfl⟩⟩) ⟨(.tmp rfl), trivial, rfl, trivial⟩ rfl) rfl rfl (Nat.le_of_ble_eq_true rfl) trivial rfl ?_
      refine ADX.eff (tk := [1]) (new := [1]) (s := .one (.own 1 2 1)) (F := [(41, .one (.own 1 2 1))]) (Hin := []) (Hout := [(1, .arr 2 1 (fun _ jc => ([.str x.name, .con (.slice none 0 0)] : List AV).getD jc (.con undef)))]) (fun E X hE hX Q rest hk => ?_) trivial ⟨rfl, rfl⟩ rfl rfl rfl rfl ⟨(by repeat first | exact trivial | refine ⟨by decide, by first | rfl | exact trivial | (intro a_ b_; first | exact getD_no rfl | exact rowC0_no rfl _ _ | exact rowS_no rfl rfl _ _ | exact insF_no (rowC0_no rfl) (fun _ _ => getD_no rfl) _ _ _ | ((try dsimp only); (repeat' split) <;> first | rfl | exact rowC0_no rfl _ _ | exact getD_no rfl | exact insF_no (rowC0_no rfl) (fun _ _ => getD_no rfl) _ _ _)), ?_⟩), trivial⟩ rfl (fun _ e => by cases e; exact Nat.le_of_ble_eq_true rfl) ?_
      · refine ARun.slice1 (id := 1) (z := (.agg #[.string ByteArray.empty, .slice none 0 0])) (by_ := 40) rfl (.tmp rfl) (SV.cells_of (by exact ⟨trivial, ⟨rfl, (fun _ e => by cases e), (fun _ e => by cases e)⟩, trivial⟩)) (by kernel_rfl) rfl rfl (by decide) (by decide) (Fr.ext2 ⟨rfl, (by repeat first | exact trivial | refine ⟨by decide, by first | rfl | exact trivial | (intro a_ b_; first | exact getD_no rfl | exact rowC0_no rfl _ _ | exact rowS_no rfl rfl _ _ | exact insF_no (rowC0_no rfl) (fun _ _ => getD_no rfl) _ _ _ | ((try dsimp only); (repeat' split) <;> first | rfl | exact rowC0_no rfl _ _ | exact getD_no rfl | exact insF_no (rowC0_no rfl) (fun _ _ => getD_no rfl) _ _ _)), ?_⟩)⟩ hE hX rfl rfl) rfl rfl rfl (Nat.le_of_ble_eq_true rfl) ?_
        refine ARun.hleX ?_ ?_ hk
        · exact HeapLe.one rfl trivial
        · repeat (first | exact LkX.refl | refine LkX.cons (hX.none rfl) ?_ | refine LkX.filter (hX.none rfl) ?_)
      refine ADX.eff (tk := [1, 77, 1000001]) (new := [77]) (s := .one (.own 77 2 (h.rows.length + 1))) (F := [(42, .one (.own 77 2 (h.rows.length + 1)))]) (Hin := [(1, .arr 2 1 (fun _ jc => ([.str x.name, .con (.slice none 0 0)] : List AV).getD jc (.con undef))), (1000001, .arr 2 h.rows.length (rowC0 h 500))]) (Hout := [(77, .arr 2 (h.rows.length + 1) (insF (rowC0 h 500) (newC x) (loF h x.name)))]) (fun E X hE hX Q rest hk => ?_) ⟨rfl, rfl, trivial⟩ ⟨rfl, rfl⟩ rfl rfl rfl rfl ⟨(by repeat first | exact trivial | refine ⟨by decide, by first | rfl | exact trivial | (intro a_ b_; first | exact getD_no rfl | exact rowC0_no rfl _ _ | exact rowS_no rfl rfl _ _ | exact insF_no (rowC0_no rfl) (fun _ _ => getD_no rfl) _ _ _ | ((try dsimp only); (repeat' split) <;> first | rfl | exact rowC0_no rfl _ _ | exact getD_no rfl | exact insF_no (rowC0_no rfl) (fun _ _ => getD_no rfl) _ _ _)), ?_⟩), trivial⟩ rfl (fun _ e => by cases e; exact Nat.le_of_ble_eq_true rfl) ?_
      · have hlo := loF_le h x.name
        refine ARun.mutxX hX (Hr := []) (Hn := [(77, .arr 2 (h.rows.length + 1) (insF (rowC0 h 500) (newC x) (loF h x.name)))]) (g := fun zz => if zz = 1000001 then 1000001 else if zz = 1000003 then 1 else if zz = 1000002 then 500 else zz) (g' := fun zz => if zz = 1000001 then 1000001 else if zz = 1000003 then 1 else if zz = 1000002 then 500 else if zz = 77 then 77 else zz) (K := [77, 1000002]) (T := [(77, 77)]) rfl (v_InsertRow (rowC0 h 1000002) (newC x) h.rows.length (loF h x.name) ⟨loF_le h x.name, hr8⟩ (rowC0_ok h) (newC_ok x)) vtk_ca_79 ⟨.inr (.tmp rfl), ⟨.inl ⟨_, (.tmp rfl), .int⟩, ⟨.inr (.tmp rfl), trivial⟩⟩⟩ rfl rfl rfl ⟨⟨_, rfl, ⟨rfl, rfl, fun a b _ _ => rowC0_ren (h := h) (K := 1000002) (K' := 500) rfl a b⟩⟩, ⟨_, rfl, ⟨rfl, rfl, fun a b _ _ => newC_ren x _ a b⟩⟩, trivial⟩ trivial rfl ⟨(Fr.ext2 ⟨rfl, (by repeat first | exact trivial | refine ⟨by decide, by first | rfl | exact trivial | (intro a_ b_; first | exact getD_no rfl | exact rowC0_no rfl _ _ | exact rowS_no rfl rfl _ _ | exact insF_no (rowC0_no rfl) (fun _ _ => getD_no rfl) _ _ _ | ((try dsimp only); (repeat' split) <;> first | rfl | exact rowC0_no rfl _ _ | exact getD_no rfl | exact insF_no (rowC0_no rfl) (fun _ _ => getD_no rfl) _ _ _)), ?_⟩)⟩ hE hX rfl rfl), trivial⟩ (by kernel_rfl) (by kernel_rfl) (by kernel_rfl) ⟨.inr ⟨77, _, rfl, rfl, rfl, ⟨rfl, rfl, fun a b _ _ => insF_ren (f := rowC0 h 1000002) (f' := rowC0 h 500) (rowC0_ren rfl) (newC_ren x _) _ a b⟩, (fun a b _ _ => insF_hx rfl)⟩, trivial⟩ rfl rfl (Nat.le_of_ble_eq_true rfl) (r' := .one (.own 77 2 (h.rows.length + 1))) rfl ?_
        refine ARun.hleX ?_ ?_ hk
        · exact HeapLe.one rfl trivial
        · repeat (first | exact LkX.refl | refine LkX.cons (hX.none rfl) ?_ | refine LkX.filter (hX.none rfl) ?_)
      refine ADX.pure [] (PureOp.nilPtr rfl (.tmp rfl)) rfl rfl (Nat.le_of_ble_eq_true rfl) trivial rfl ?_
      refine ADX.pure [] (PureOp.fieldPtr rfl (.tmp rfl) vtk_fi_29_0_0) rfl rfl (Nat.le_of_ble_eq_true rfl) trivial rfl ?_
      refine ADX.eff (tk := [1000000]) (new := []) (s := .one (.con undef)) (F := []) (Hin := [(1000000, .cells [.own 1000001 2 h.rows.length, .int .i64 (h.offset + 1)])]) (Hout := [(1000000, .cells [.own 77 2 (h.rows.length + 1), .int .i64 (h.offset + 1)])]) (fun E X hE hX Q rest hk => ?_) ⟨rfl, trivial⟩ ⟨rfl, rfl⟩ rfl rfl rfl rfl trivial rfl (fun _ e => by cases e) ?_
      · refine ARun.store rfl (.tmp rfl) (.tmp rfl) trivial rfl (Nat.le_of_ble_eq_true rfl) vtk_sz_27_1 rfl rfl ?_
        refine ARun.hleX ?_ ?_ hk
        · exact HeapLe.one rfl trivial
        · repeat (first | exact LkX.refl | refine LkX.cons (hX.none rfl) ?_ | refine LkX.filter (hX.none rfl) ?_)
      refine ADX.nil (H := [(0, .cells [.str x.name, .int .i64 x.at_, .int .i64 x.value]), (77, .arr 2 (h.rows.length + 1) (insF (rowC0 h 500) (newC x) (loF h x.name))), (500, .trees h.rows.length (takeX h x)), (1000000, .cells [.own 77 2 (h.rows.length + 1), .int .i64 (h.offset + 1)])]) ?_ ?_
      · exact HeapLe.one rfl (HeapLe.one rfl (HeapLe.one rfl (HeapLe.one rfl trivial)))
      refine AW.seq ?_
      refine AW.region ?_
      refine ARun.pure (PureOp.move rfl (.tmp rfl)) rfl rfl (Nat.le_of_ble_eq_true rfl) ?_
      refine ARun.pure (PureOp.nilPtr rfl (.tmp rfl)) rfl rfl (Nat.le_of_ble_eq_true rfl) ?_
      refine ARun.pure (PureOp.fieldPtr rfl (.tmp rfl) vtk_fi_29_0_0) rfl rfl (Nat.le_of_ble_eq_true rfl) ?_
      refine ARun.pure (PureOp.loadPtr rfl (.tmp rfl) vtk_pl_27 rfl rfl (Nat.le_of_ble_eq_true rfl) (Nat.le_of_ble_eq_true rfl)) rfl rfl (Nat.le_of_ble_eq_true rfl) ?_
      refine ARun.pure (PureOp.move rfl (.tmp rfl)) rfl rfl (Nat.le_of_ble_eq_true rfl) ?_
      refine ARun.pure (PureOp.indexOwn (i := loF h x.name) rfl (.tmp rfl) vtk_el_27_2 (.tmp rfl) rfl (show loF h x.name < _ from by omega)) rfl rfl (Nat.le_of_ble_eq_true rfl) ?_
      refine ARun.pure (PureOp.assign rfl (.tmp rfl)) rfl rfl (Nat.le_of_ble_eq_true rfl) ?_
      refine ARun.nil ?_
      refine AW.seq ?_
      refine AW.seq ?_
      refine AW.region ?_
      refine ARun.pure (PureOp.move rfl (.tmp rfl)) rfl rfl (Nat.le_of_ble_eq_true rfl) ?_
      refine ARun.pure (PureOp.nilPtr rfl (.tmp rfl)) rfl rfl (Nat.le_of_ble_eq_true rfl) ?_
      refine ARun.pure (PureOp.fieldPtr rfl (.tmp rfl) vtk_fi_67_1_1) rfl rfl (Nat.le_of_ble_eq_true rfl) ?_
      refine ARun.pure (PureOp.loadPtrE (y := .con (.slice none 0 0)) rfl (.tmp rfl) vtk_pl_33 rfl rfl (show loF h x.name < (h.rows.length + 1) from by omega) (Nat.le_of_ble_eq_true rfl) (show insF _ _ _ _ _ = _ from insF_new)) rfl rfl (Nat.le_of_ble_eq_true rfl) ?_
      refine ARun.pure (PureOp.lenLst rfl (.unnil 1 (fun _ _ => .con undef) (.tmp rfl)) vtk_sl_33) rfl rfl (Nat.le_of_ble_eq_true rfl) ?_
      refine ARun.pure (PureOp.assign rfl (.tmp rfl)) rfl rfl (Nat.le_of_ble_eq_true rfl) ?_
      refine ARun.nil ?_
      refine AW.seq ?_
      refine AW.region ?_
      refine ARun.pure (PureOp.move rfl (.tmp rfl)) rfl rfl (Nat.le_of_ble_eq_true rfl) ?_
      refine ARun.pure (PureOp.intOp rfl (.tmp rfl) .int rfl) rfl rfl (Nat.le_of_ble_eq_true rfl) ?_
      refine ARun.nil ?_
      refine AW.cond (.tmp rfl) (fun hb3 => ?_) (fun hb3 => ?_)
      · have _u := True.intro
        replace hb3 := of_decide_eq_true hb3
        exact absurd hb3 (by decide)
        --end
      · have _u := True.intro
        replace hb3 := of_decide_eq_false hb3
        refine AW.skip ?_
        refine AW.seq ?_
        refine AW.anyX [⟨[], [], [], []⟩, ⟨[], [], [], []⟩, ⟨[], [], [], []⟩, ⟨[], [], [], []⟩, ⟨[77], [], [], []⟩, ⟨[], [], [], []⟩, ⟨[0], [], [], []⟩, ⟨[], [], [], []⟩, ⟨[0], [], [], []⟩, ⟨[], [], [], []⟩, ⟨[], [2], [2], [(2, .arr 2 1 (fun _ jc => ([.int .i64 x.at_, .int .i64 x.value] : List AV).getD jc (.con undef)))]⟩, ⟨[], [2, 3, 500], [3], [(2, .arr 2 1 (fun _ jc => ([.int .i64 x.at_, .int .i64 x.value] : List AV).getD jc (.con undef))), (500, .trees (h.rows.length + 1) (takeX h x))]⟩, ⟨[], [], [], []⟩, ⟨[], [], [], []⟩, ⟨[], [77], [], [(77, .arr 2 (h.rows.length + 1) (fun a b => if a = loF h x.name ∧ b = 1 then .tre 500 h.rows.length else (insF (rowC0 h 500) (newC x) (loF h x.name)) a b))]⟩] (by kernel_rfl) (by kernel_rfl) (by kernel_rfl) ⟨⟨.inl rfl, .inr (.inr trivial), .inr (.inr trivial), .inr (.inr trivial), .inr (.inr trivial), .inr (.inr trivial), .inr (.inr trivial), .inr (.inr trivial), .inr (.inr trivial), .inr (.inr trivial), .inr (.inr (by repeat first | exact trivial | refine And.intro ?_ ?_ | exact rfl | ((intro a_ b_; first | exact getD_no rfl | exact rowC0_no rfl _ _ | exact rowS_no rfl rfl _ _ | exact insF_no (rowC0_no rfl) (fun _ _ => getD_no rfl) _ _ _ | ((try dsimp only); (repeat' split) <;> first | rfl | exact rowC0_no rfl _ _ | exact getD_no rfl | exact insF_no (rowC0_no rfl) (fun _ _ => getD_no rfl) _ _ _))))), .inr (.inr (by repeat first | exact trivial | refine And.intro ?_ ?_ | exact rfl | ((intro a_ b_; first | exact getD_no rfl | exact rowC0_no rfl _ _ | exact rowS_no rfl rfl _ _ | exact insF_no (rowC0_no rfl) (fun _ _ => getD_no rfl) _ _ _ | ((try dsimp only); (repeat' split) <;> first | rfl | exact rowC0_no rfl _ _ | exact getD_no rfl | exact insF_no (rowC0_no rfl) (fun _ _ => getD_no rfl) _ _ _))))), .inr (.inr trivial), .inr (.inr trivial), .inr (.inr trivial), trivial⟩, ⟨.inr (.inr trivial), .inl rfl, .inr (.inr trivial), .inr (.inr trivial), .inr (.inr trivial), .inr (.inr trivial), .inr (.inr trivial), .inr (.inr trivial), .inr (.inr trivial), .inr (.inr trivial), .inr (.inr (by repeat first | exact trivial | refine And.intro ?_ ?_ | exact rfl | ((intro a_ b_; first | exact getD_no rfl | exact rowC0_no rfl _ _ | exact rowS_no rfl rfl _ _ | exact insF_no (rowC0_no rfl) (fun _ _ => getD_no rfl) _ _ _ | ((try dsimp only); (repeat' split) <;> first | rfl | exact rowC0_no rfl _ _ | exact getD_no rfl | exact insF_no (rowC0_no rfl) (fun _ _ => getD_no rfl) _ _ _))))), .inr (.inr (by repeat first | exact trivial | refine And.intro ?_ ?_ | exact rfl | ((intro a_ b_; first | exact getD_no rfl | exact rowC0_no rfl _ _ | exact rowS_no rfl rfl _ _ | exact insF_no (rowC0_no rfl) (fun _ _ => getD_no rfl) _ _ _ | ((try dsimp only); (repeat' split) <;> first | rfl | exact rowC0_no rfl _ _ | exact getD_no rfl | exact insF_no (rowC0_no rfl) (fun _ _ => getD_no rfl) _ _ _))))), .inr (.inr trivial), .inr (.inr trivial), .inr (.inr trivial), trivial⟩, ⟨.inr (.inr trivial), .inr (.inr trivial), .inl rfl, .inr (.inr trivial), .inr (.inr trivial), .inr (.inr trivial), .inr (.inr trivial), .inr (.inr trivial), .inr (.inr trivial), .inr (.inr trivial), .inr (.inr (by repeat first | exact trivial | refine And.intro ?_ ?_ | exact rfl | ((intro a_ b_; first | exact getD_no rfl | exact rowC0_no rfl _ _ | exact rowS_no rfl rfl _ _ | exact insF_no (rowC0_no rfl) (fun _ _ => getD_no rfl) _ _ _ | ((try dsimp only); (repeat' split) <;> first | rfl | exact rowC0_no rfl _ _ | exact getD_no rfl | exact insF_no (rowC0_no rfl) (fun _ _ => getD_no rfl) _ _ _))))), .inr (.inr (by repeat first | exact trivial | refine And.intro ?_ ?_ | exact rfl | ((intro a_ b_; first | exact getD_no rfl | exact rowC0_no rfl _ _ | exact rowS_no rfl rfl _ _ | exact insF_no (rowC0_no rfl) (fun _ _ => getD_no rfl) _ _ _ | ((try dsimp only); (repeat' split) <;> first | rfl | exact rowC0_no rfl _ _ | exact getD_no rfl | exact insF_no (rowC0_no rfl) (fun _ _ => getD_no rfl) _ _ _))))), .inr (.inr trivial), .inr (.inr trivial), .inr (.inr trivial), trivial⟩, ⟨.inr (.inr trivial), .inr (.inr trivial), .inr (.inr trivial), .inl rfl, .inr (.inr trivial), .inr (.inr trivial), .inr (.inr trivial), .inr (.inr trivial), .inr (.inr trivial), .inr (.inr trivial), .inr (.inr (by repeat first | exact trivial | refine And.intro ?_ ?_ | exact rfl | ((intro a_ b_; first | exact getD_no rfl | exact rowC0_no rfl _ _ | exact rowS_no rfl rfl _ _ | exact insF_no (rowC0_no rfl) (fun _ _ => getD_no rfl) _ _ _ | ((try dsimp only); (repeat' split) <;> first | rfl | exact rowC0_no rfl _ _ | exact getD_no rfl | exact insF_no (rowC0_no rfl) (fun _ _ => getD_no rfl) _ _ _))))), .inr (.inr (by repeat first | exact trivial | refine And.intro ?_ ?_ | exact rfl | ((intro a_ b_; first | exact getD_no rfl | exact rowC0_no rfl _ _ | exact rowS_no rfl rfl _ _ | exact insF_no (rowC0_no rfl) (fun _ _ => getD_no rfl) _ _ _ | ((try dsimp only); (repeat' split) <;> first | rfl | exact rowC0_no rfl _ _ | exact getD_no rfl | exact insF_no (rowC0_no rfl) (fun _ _ => getD_no rfl) _ _ _))))), .inr (.inr trivial), .inr (.inr trivial), .inr (.inr trivial), trivial⟩, ⟨.inr (.inr trivial), .inr (.inr trivial), .inr (.inr trivial), .inr (.inr trivial), .inl rfl, .inr (.inr trivial), .inr (.inr trivial), .inr (.inr trivial), .inr (.inr trivial), .inr (.inr trivial), .inr (.inr (by repeat first | exact trivial | refine And.intro ?_ ?_ | exact rfl | ((intro a_ b_; first | exact getD_no rfl | exact rowC0_no rfl _ _ | exact rowS_no rfl rfl _ _ | exact insF_no (rowC0_no rfl) (fun _ _ => getD_no rfl) _ _ _ | ((try dsimp only); (repeat' split) <;> first | rfl | exact rowC0_no rfl _ _ | exact getD_no rfl | exact insF_no (rowC0_no rfl) (fun _ _ => getD_no rfl) _ _ _))))), .inr (.inr (by repeat first | exact trivial | refine And.intro ?_ ?_ | exact rfl | ((intro a_ b_; first | exact getD_no rfl | exact rowC0_no rfl _ _ | exact rowS_no rfl rfl _ _ | exact insF_no (rowC0_no rfl) (fun _ _ => getD_no rfl) _ _ _ | ((try dsimp only); (repeat' split) <;> first | rfl | exact rowC0_no rfl _ _ | exact getD_no rfl | exact insF_no (rowC0_no rfl) (fun _ _ => getD_no rfl) _ _ _))))), .inr (.inr trivial), .inr (.inr trivial), .inr (.inr trivial), trivial⟩, ⟨.inr (.inr trivial), .inr (.inr trivial), .inr (.inr trivial), .inr (.inr trivial), .inr (.inr trivial), .inl rfl, .inr (.inr trivial), .inr (.inr trivial), .inr (.inr trivial), .inr (.inr trivial), .inr (.inr (by repeat first | exact trivial | refine And.intro ?_ ?_ | exact rfl | ((intro a_ b_; first | exact getD_no rfl | exact rowC0_no rfl _ _ | exact rowS_no rfl rfl _ _ | exact insF_no (rowC0_no rfl) (fun _ _ => getD_no rfl) _ _ _ | ((try dsimp only); (repeat' split) <;> first | rfl | exact rowC0_no rfl _ _ | exact getD_no rfl | exact insF_no (rowC0_no rfl) (fun _ _ => getD_no rfl) _ _ _))))), .inr (.inr (by repeat first | exact trivial | refine And.intro ?_ ?_ | exact rfl | ((intro a_ b_; first | exact getD_no rfl | exact rowC0_no rfl _ _ | exact rowS_no rfl rfl _ _ | exact insF_no (rowC0_no rfl) (fun _ _ => getD_no rfl) _ _ _ | ((try dsimp only); (repeat' split) <;> first | rfl | exact rowC0_no rfl _ _ | exact getD_no rfl | exact insF_no (rowC0_no rfl) (fun _ _ => getD_no rfl) _ _ _))))), .inr (.inr trivial), .inr (.inr trivial), .inr (.inr trivial), trivial⟩, ⟨.inr (.inr trivial), .inr (.inr trivial), .inr (.inr trivial), .inr (.inr trivial), .inr (.inr trivial), .inr (.inr trivial), .inl rfl, .inr (.inr trivial), .inr (.inr trivial), .inr (.inr trivial), .inr (.inr (by repeat first | exact trivial | refine And.intro ?_ ?_ | exact rfl | ((intro a_ b_; first | exact getD_no rfl | exact rowC0_no rfl _ _ | exact rowS_no rfl rfl _ _ | exact insF_no (rowC0_no rfl) (fun _ _ => getD_no rfl) _ _ _ | ((try dsimp only); (repeat' split) <;> first | rfl | exact rowC0_no rfl _ _ | exact getD_no rfl | exact insF_no (rowC0_no rfl) (fun _ _ => getD_no rfl) _ _ _))))), .inr (.inr (by repeat first | exact trivial | refine And.intro ?_ ?_ | exact rfl | ((intro a_ b_; first | exact getD_no rfl | exact rowC0_no rfl _ _ | exact rowS_no rfl rfl _ _ | exact insF_no (rowC0_no rfl) (fun _ _ => getD_no rfl) _ _ _ | ((try dsimp only); (repeat' split) <;> first | rfl | exact rowC0_no rfl _ _ | exact getD_no rfl | exact insF_no (rowC0_no rfl) (fun _ _ => getD_no rfl) _ _ _))))), .inr (.inr trivial), .inr (.inr trivial), .inr (.inr trivial), trivial⟩, ⟨.inr (.inr trivial), .inr (.inr trivial), .inr (.inr trivial), .inr (.inr trivial), .inr (.inr trivial), .inr (.inr trivial), .inr (.inr trivial), .inl rfl, .inr (.inr trivial), .inr (.inr trivial), .inr (.inr (by repeat first | exact trivial | refine And.intro ?_ ?_ | exact rfl | ((intro a_ b_; first | exact getD_no rfl | exact rowC0_no rfl _ _ | exact rowS_no rfl rfl _ _ | exact insF_no (rowC0_no rfl) (fun _ _ => getD_no rfl) _ _ _ | ((try dsimp only); (repeat' split) <;> first | rfl | exact rowC0_no rfl _ _ | exact getD_no rfl | exact insF_no (rowC0_no rfl) (fun _ _ => getD_no rfl) _ _ _))))), .inr (.inr (by repeat first | exact trivial | refine And.intro ?_ ?_ | exact rfl | ((intro a_ b_; first | exact getD_no rfl | exact rowC0_no rfl _ _ | exact rowS_no rfl rfl _ _ | exact insF_no (rowC0_no rfl) (fun _ _ => getD_no rfl) _ _ _ | ((try dsimp only); (repeat' split) <;> first | rfl | exact rowC0_no rfl _ _ | exact getD_no rfl | exact insF_no (rowC0_no rfl) (fun _ _ => getD_no rfl) _ _ _))))), .inr (.inr trivial), .inr (.inr trivial), .inr (.inr trivial), trivial⟩, ⟨.inr (.inr trivial), .inr (.inr trivial), .inr (.inr trivial), .inr (.inr trivial), .inr (.inr trivial), .inr (.inr trivial), .inr (.inr trivial), .inr (.inr trivial), .inl rfl, .inr (.inr trivial), .inr (.inr (by repeat first | exact trivial | refine And.intro ?_ ?_ | exact rfl | ((intro a_ b_; first | exact getD_no rfl | exact rowC0_no rfl _ _ | exact rowS_no rfl rfl _ _ | exact insF_no (rowC0_no rfl) (fun _ _ => getD_no rfl) _ _ _ | ((try dsimp only); (repeat' split) <;> first | rfl | exact rowC0_no rfl _ _ | exact getD_no rfl | exact insF_no (rowC0_no rfl) (fun _ _ => getD_no rfl) _ _ _))))), .inr (.inr (by repeat first | exact trivial | refine And.intro ?_ ?_ | exact rfl | ((intro a_ b_; first | exact getD_no rfl | exact rowC0_no rfl _ _ | exact rowS_no rfl rfl _ _ | exact insF_no (rowC0_no rfl) (fun _ _ => getD_no rfl) _ _ _ | ((try dsimp only); (repeat' split) <;> first | rfl | exact rowC0_no rfl _ _ | exact getD_no rfl | exact insF_no (rowC0_no rfl) (fun _ _ => getD_no rfl) _ _ _))))), .inr (.inr trivial), .inr (.inr trivial), .inr (.inr trivial), trivial⟩, ⟨.inr (.inr trivial), .inr (.inr trivial), .inr (.inr trivial), .inr (.inr trivial), .inr (.inr trivial), .inr (.inr trivial), .inr (.inr trivial), .inr (.inr trivial), .inr (.inr trivial), .inl rfl, .inr (.inr (by repeat first | exact trivial | refine And.intro ?_ ?_ | exact rfl | ((intro a_ b_; first | exact getD_no rfl | exact rowC0_no rfl _ _ | exact rowS_no rfl rfl _ _ | exact insF_no (rowC0_no rfl) (fun _ _ => getD_no rfl) _ _ _ | ((try dsimp only); (repeat' split) <;> first | rfl | exact rowC0_no rfl _ _ | exact getD_no rfl | exact insF_no (rowC0_no rfl) (fun _ _ => getD_no rfl) _ _ _))))), .inr (.inr (by repeat first | exact trivial | refine And.intro ?_ ?_ | exact rfl | ((intro a_ b_; first | exact getD_no rfl | exact rowC0_no rfl _ _ | exact rowS_no rfl rfl _ _ | exact insF_no (rowC0_no rfl) (fun _ _ => getD_no rfl) _ _ _ | ((try dsimp only); (repeat' split) <;> first | rfl | exact rowC0_no rfl _ _ | exact getD_no rfl | exact insF_no (rowC0_no rfl) (fun _ _ => getD_no rfl) _ _ _))))), .inr (.inr trivial), .inr (.inr trivial), .inr (.inr trivial), trivial⟩, ⟨.inr (.inr trivial), .inr (.inr trivial), .inr (.inr trivial), .inr (.inr trivial), .inr (.inr trivial), .inr (.inr trivial), .inr (.inr trivial), .inr (.inr trivial), .inr (.inr trivial), .inr (.inr trivial), .inl rfl, .inr (.inr (by repeat first | exact trivial | refine And.intro ?_ ?_ | exact rfl | ((intro a_ b_; first | exact getD_no rfl | exact rowC0_no rfl _ _ | exact rowS_no rfl rfl _ _ | exact insF_no (rowC0_no rfl) (fun _ _ => getD_no rfl) _ _ _ | ((try dsimp only); (repeat' split) <;> first | rfl | exact rowC0_no rfl _ _ | exact getD_no rfl | exact insF_no (rowC0_no rfl) (fun _ _ => getD_no rfl) _ _ _))))), .inr (.inr trivial), .inr (.inr trivial), .inr (.inr trivial), trivial⟩, ⟨.inr (.inr trivial), .inr (.inr trivial), .inr (.inr trivial), .inr (.inr trivial), .inr (.inr trivial), .inr (.inr trivial), .inr (.inr trivial), .inr (.inr trivial), .inr (.inr trivial), .inr (.inr trivial), .inr (.inl (by kernel_rfl)), .inl rfl, .inr (.inr trivial), .inr (.inr trivial), .inr (.inr trivial), trivial⟩, ⟨.inr (.inr trivial), .inr (.inr trivial), .inr (.inr trivial), .inr (.inr trivial), .inr (.inr trivial), .inr (.inr trivial), .inr (.inr trivial), .inr (.inr trivial), .inr (.inr trivial), .inr (.inr trivial), .inr (.inl (by kernel_rfl)), .inr (.inl (by kernel_rfl)), .inl rfl, .inr (.inr trivial), .inr (.inr trivial), trivial⟩, ⟨.inr (.inr trivial), .inr (.inr trivial), .inr (.inr trivial), .inr (.inr trivial), .inr (.inr trivial), .inr (.inr trivial), .inr (.inr trivial), .inr (.inr trivial), .inr (.inr trivial), .inr (.inr trivial), .inr (.inl (by kernel_rfl)), .inr (.inl (by kernel_rfl)), .inr (.inr trivial), .inl rfl, .inr (.inr trivial), trivial⟩, ⟨.inr (.inr trivial), .inr (.inr trivial), .inr (.inr trivial), .inr (.inr trivial), .inr (.inr trivial), .inr (.inr trivial), .inr (.inr trivial), .inr (.inr trivial), .inr (.inr trivial), .inr (.inr trivial), .inr (.inl (by kernel_rfl)), .inr (.inl (by kernel_rfl)), .inr (.inr trivial), .inr (.inr trivial), .inl rfl, trivial⟩, trivial⟩ ⟨trivial, trivial, trivial, trivial, trivial, trivial, trivial, trivial, trivial, trivial, ⟨(by repeat first | exact trivial | refine ⟨by decide, by first | rfl | exact trivial | (intro a_ b_; first | exact getD_no rfl | exact rowC0_no rfl _ _ | exact rowS_no rfl rfl _ _ | exact insF_no (rowC0_no rfl) (fun _ _ => getD_no rfl) _ _ _ | ((try dsimp only); (repeat' split) <;> first | rfl | exact rowC0_no rfl _ _ | exact getD_no rfl | exact insF_no (rowC0_no rfl) (fun _ _ => getD_no rfl) _ _ _)), ?_⟩), trivial⟩, ⟨(by repeat first | exact trivial | refine ⟨by decide, by first | rfl | exact trivial | (intro a_ b_; first | exact getD_no rfl | exact rowC0_no rfl _ _ | exact rowS_no rfl rfl _ _ | exact insF_no (rowC0_no rfl) (fun _ _ => getD_no rfl) _ _ _ | ((try dsimp only); (repeat' split) <;> first | rfl | exact rowC0_no rfl _ _ | exact getD_no rfl | exact insF_no (rowC0_no rfl) (fun _ _ => getD_no rfl) _ _ _)), ?_⟩), trivial⟩, trivial, trivial, trivial, trivial⟩ ?_
        refine ADX.pure [] (PureOp.move rfl (.tmp rfl)) rfl rfl (Nat.le_of_ble_eq_true rfl) trivial rfl ?_
        refine ADX.pure [] (PureOp.move rfl (.tmp rfl)) rfl rfl (Nat.le_of_ble_eq_true rfl) trivial rfl ?_
        refine ADX.pure [] (PureOp.nilPtr rfl (.tmp rfl)) rfl rfl (Nat.le_of_ble_eq_true rfl) trivial rfl ?_
        refine ADX.pure [] (PureOp.fieldPtr rfl (.tmp rfl) vtk_fi_67_1_1) rfl rfl (Nat.le_of_ble_eq_true rfl) trivial rfl ?_
        refine ADX.pure [(77, .arr 2 (h.rows.length + 1) (insF (rowC0 h 500) (newC x) (loF h x.name)))] (PureOp.loadPtrE (y := .con (.slice none 0 0)) rfl (.tmp rfl) vtk_pl_33 rfl rfl (show loF h x.name < (h.rows.length + 1) from by omega) (Nat.le_of_ble_eq_true rfl) (show insF _ _ _ _ _ = _ from insF_new)) rfl rfl (Nat.le_of_ble_eq_true rfl) ⟨rfl, trivial⟩ rfl ?_
        refine ADX.pure [] (PureOp.fieldPtr rfl (.tmp rfl) vtk_fi_47_1_1) rfl rfl (Nat.le_of_ble_eq_true rfl) trivial rfl ?_
        refine ADX.pure [(0, .cells [.str x.name, .int .i64 x.at_, .int .i64 x.value])] (PureOp.loadPtr rfl (.tmp rfl) vtk_pl_3 rfl rfl (Nat.le_of_ble_eq_true rfl) (Nat.le_of_ble_eq_true rfl)) rfl rfl (Nat.le_of_ble_eq_true rfl) ⟨rfl, trivial⟩ rfl ?_
        refine ADX.pure [] (PureOp.fieldPtr rfl (.tmp rfl) vtk_fi_47_2_2) rfl rfl (Nat.le_of_ble_eq_true rfl) trivial rfl ?_
        refine ADX.pure [(0, .cells [.str x.name, .int .i64 x.at_, .int .i64 x.value])] (PureOp.loadPtr rfl (.tmp rfl) vtk_pl_3 rfl rfl (Nat.le_of_ble_eq_true rfl) (Nat.le_of_ble_eq_true rfl)) rfl rfl (Nat.le_of_ble_eq_true rfl) ⟨rfl, trivial⟩ rfl ?_
        refine ADX.pure [] (PureOp.build (ys := [.int .i64 x.at_, .int .i64 x.value]) (l := [.int .i64 0, .int .i64 0]) (pl := [(0, 1), (1, 1)]) (z := (.agg #[.int .i64 0, .int .i64 0])) rfl (by kernel_rfl) (by kernel_rfl) (fun _ _ _ => ⟨_, _, rfl, rfl, ⟨_, _, rfl, rfl, rfl⟩⟩) ⟨(.tmp rfl), trivial, rfl, ⟨(.tmp rfl), trivial, rfl, trivial⟩⟩ rfl) rfl rfl (Nat.le_of_ble_eq_true rfl) trivial rfl ?_
        refine ADX.eff (tk := [2]) (new := [2]) (s := .one (.own 2 2 1)) (F := [(90, .one (.own 2 2 1))]) (Hin := []) (Hout := [(2, .arr 2 1 (fun _ jc => ([.int .i64 x.at_, .int .i64 x.value] : List AV).getD jc (.con undef)))]) (fun E X hE hX Q rest hk => ?_) trivial ⟨rfl, rfl⟩ rfl rfl rfl rfl ⟨(by repeat first | exact trivial | refine ⟨by decide, by first | rfl | exact trivial | (intro a_ b_; first | exact getD_no rfl | exact rowC0_no rfl _ _ | exact rowS_no rfl rfl _ _ | exact insF_no (rowC0_no rfl) (fun _ _ => getD_no rfl) _ _ _ | ((try dsimp only); (repeat' split) <;> first | rfl | exact rowC0_no rfl _ _ | exact getD_no rfl | exact insF_no (rowC0_no rfl) (fun _ _ => getD_no rfl) _ _ _)), ?_⟩), trivial⟩ rfl (fun _ e => by cases e; exact Nat.le_of_ble_eq_true rfl) ?_
        · refine ARun.slice1 (id := 2) (z := (.agg #[.int .i64 0, .int .i64 0])) (by_ := 16) rfl (.tmp rfl) (SV.cells_of (by exact ⟨trivial, trivial, trivial⟩)) (by kernel_rfl) rfl rfl (by decide) (by decide) (Fr.ext2 ⟨rfl, (by repeat first | exact trivial | refine ⟨by decide, by first | rfl | exact trivial | (intro a_ b_; first | exact getD_no rfl | exact rowC0_no rfl _ _ | exact rowS_no rfl rfl _ _ | exact insF_no (rowC0_no rfl) (fun _ _ => getD_no rfl) _ _ _ | ((try dsimp only); (repeat' split) <;> first | rfl | exact rowC0_no rfl _ _ | exact getD_no rfl | exact insF_no (rowC0_no rfl) (fun _ _ => getD_no rfl) _ _ _)), ?_⟩)⟩ hE hX rfl rfl) rfl rfl rfl (Nat.le_of_ble_eq_true rfl) ?_
          refine ARun.hleX ?_ ?_ hk
          · exact HeapLe.one rfl trivial
          · repeat (first | exact LkX.refl | refine LkX.cons (hX.none rfl) ?_ | refine LkX.filter (hX.none rfl) ?_)
        refine ADX.eff (tk := [2, 3, 500]) (new := [3]) (s := .one (.tre 500 h.rows.length)) (F := [(91, .one (.tre 500 h.rows.length)), (91, .one (.own 3 2 (0 + 1)))]) (Hin := [(2, .arr 2 1 (fun _ jc => ([.int .i64 x.at_, .int .i64 x.value] : List AV).getD jc (.con undef))), (500, .trees h.rows.length (takeX h x))]) (Hout := [(2, .arr 2 1 (fun _ jc => ([.int .i64 x.at_, .int .i64 x.value] : List AV).getD jc (.con undef))), (500, .trees (h.rows.length + 1) (takeX h x))]) (fun E X hE hX Q rest hk => ?_) ⟨rfl, rfl, trivial⟩ ⟨rfl, rfl⟩ rfl rfl rfl rfl ⟨(by repeat first | exact trivial | refine ⟨by decide, by first | rfl | exact trivial | (intro a_ b_; first | exact getD_no rfl | exact rowC0_no rfl _ _ | exact rowS_no rfl rfl _ _ | exact insF_no (rowC0_no rfl) (fun _ _ => getD_no rfl) _ _ _ | ((try dsimp only); (repeat' split) <;> first | rfl | exact rowC0_no rfl _ _ | exact getD_no rfl | exact insF_no (rowC0_no rfl) (fun _ _ => getD_no rfl) _ _ _)), ?_⟩), trivial⟩ rfl (fun _ e => by cases e; exact Nat.le_of_ble_eq_true rfl) ?_
        · refine ARun.append (id := 3) (sz := 2) (n := 0) (m := 1) (by_ := 16) (z := (.agg #[.int .i64 0, .int .i64 0])) (f := fun _ _ => .con undef) (g := fun _ jc => ([.int .i64 x.at_, .int .i64 x.value] : List AV).getD jc (.con undef)) (h := fun ia ja => if ia < 0 then (fun _ _ => .con undef : Nat → Nat → AV) ia ja else (fun _ jc => ([.int .i64 x.at_, .int .i64 x.value] : List AV).getD jc (.con undef) : Nat → Nat → AV) (ia - 0) ja) rfl (by kernel_rfl) rfl vtk_sl_33 (.nil (.tmp rfl) rfl) (.own (.tmp rfl) rfl rfl (Nat.le_refl _) (fun _ _ _ _ => rfl)) (by decide) (fun i j hi hj => match j, hj with | 0, _ => rfl | 1, _ => rfl | _ + 2, h => absurd h (by omega)) (fun _ _ _ _ => rfl) (by omega) (by omega) (by repeat first | exact Fr.ext2 ⟨rfl, (by repeat first | exact trivial | refine ⟨by decide, by first | rfl | exact trivial | (intro a_ b_; first | exact getD_no rfl | exact rowC0_no rfl _ _ | exact rowS_no rfl rfl _ _ | exact insF_no (rowC0_no rfl) (fun _ _ => getD_no rfl) _ _ _ | ((try dsimp only); (repeat' split) <;> first | rfl | exact rowC0_no rfl _ _ | exact getD_no rfl | exact insF_no (rowC0_no rfl) (fun _ _ => getD_no rfl) _ _ _)), ?_⟩)⟩ hE hX rfl rfl | refine Fr.consE rfl ?_ | refine Fr.consH (by decide) (by first | rfl | exact trivial | (intro a_ b_; first | exact getD_no rfl | exact rowC0_no rfl _ _ | exact rowS_no rfl rfl _ _ | exact insF_no (rowC0_no rfl) (fun _ _ => getD_no rfl) _ _ _ | ((try dsimp only); (repeat' split) <;> first | rfl | exact rowC0_no rfl _ _ | exact getD_no rfl | exact insF_no (rowC0_no rfl) (fun _ _ => getD_no rfl) _ _ _))) ?_ | refine Fr.filt ?_) (fun i j => by dsimp only; (repeat' split) <;> first | rfl | exact getD_no rfl) rfl rfl (Nat.le_of_ble_eq_true rfl) ?_
          refine ARun.closeRow 91 3 500 h.rows.length 2 (0 + 1) (m' := (addS h x).length) (X := takeX h x) (g := fun a b => ceSample ((addS h x).getD a (default : GSample)) b) rfl rfl rfl rfl (Nat.le_refl _) rfl rfl (takeX_n h x) (by rw [addS_ins hir]; rfl) (fun i j hi hj => (show (if i < 0 then _ else _) = _ from addS_cellN hir hi hj)) (fun i j hi hj => match j, hj with | 0, _ => rfl | 1, _ => rfl | _ + 2, h => absurd h (by omega)) ?_
          refine ARun.hleX ?_ ?_ hk
          · exact HeapLe.one rfl (HeapLe.one rfl trivial)
          · repeat (first | exact LkX.refl | refine LkX.cons (hX.none rfl) ?_ | refine LkX.filter (hX.none rfl) ?_)
        refine ADX.pure [] (PureOp.nilPtr rfl (.tmp rfl)) rfl rfl (Nat.le_of_ble_eq_true rfl) trivial rfl ?_
        refine ADX.pure [] (PureOp.fieldPtr rfl (.tmp rfl) vtk_fi_67_1_1) rfl rfl (Nat.le_of_ble_eq_true rfl) trivial rfl ?_
        refine ADX.eff (tk := [77]) (new := []) (s := .one (.con undef)) (F := []) (Hin := [(77, .arr 2 (h.rows.length + 1) (insF (rowC0 h 500) (newC x) (loF h x.name)))]) (Hout := [(77, .arr 2 (h.rows.length + 1) (fun a b => if a = loF h x.name ∧ b = 1 then .tre 500 h.rows.length else (insF (rowC0 h 500) (newC x) (loF h x.name)) a b))]) (fun E X hE hX Q rest hk => ?_) ⟨rfl, trivial⟩ ⟨rfl, rfl⟩ rfl rfl rfl rfl trivial rfl (fun _ e => by cases e) ?_
        · refine ARun.storeArr rfl (.tmp rfl) (.tmp rfl) trivial rfl (show loF h x.name < (h.rows.length + 1) from by omega) (Nat.le_of_ble_eq_true rfl) vtk_sz_33_1 rfl rfl ?_
          refine ARun.hleX ?_ ?_ hk
          · exact HeapLe.one rfl trivial
          · repeat (first | exact LkX.refl | refine LkX.cons (hX.none rfl) ?_ | refine LkX.filter (hX.none rfl) ?_)
        refine ADX.nil (H := [(0, .cells [.str x.name, .int .i64 x.at_, .int .i64 x.value]), (2, .arr 2 1 (fun _ jc => ([.int .i64 x.at_, .int .i64 x.value] : List AV).getD jc (.con undef))), (77, .arr 2 (h.rows.length + 1) (fun a b => if a = loF h x.name ∧ b = 1 then .tre 500 h.rows.length else (insF (rowC0 h 500) (newC x) (loF h x.name)) a b)), (500, .trees (h.rows.length + 1) (takeX h x)), (1000000, .cells [.own 77 2 (h.rows.length + 1), .int .i64 (h.offset + 1)])]) ?_ ?_
        · exact HeapLe.one rfl (HeapLe.one rfl (HeapLe.one rfl (HeapLe.one rfl (HeapLe.one rfl trivial))))
        refine AW.seq ?_
        refine AW.region ?_
        refine ARun.pure (PureOp.assign rfl .int) rfl rfl (Nat.le_of_ble_eq_true rfl) ?_
        refine ARun.nil ?_
        rw [tN_ins hir hcode, hcode]
        refine AW.reindex 500 78 77 (h.rows.length + 1) (h.rows.length + 1) 2 (h.rows.length + 1) (pmI h.rows.length (loF h x.name)) (takeX h x) (fun a b => if a = loF h x.name ∧ b = 1 then .tre 500 h.rows.length else (insF (rowC0 h 500) (newC x) (loF h x.name)) a b) (rowC0 (takeH h x) 78) rfl rfl pmI_lt (pmI_inj hlo) (row_ins hir hcode) ⟨rfl, (by repeat first | exact trivial | refine ⟨by decide, by first | rfl | exact trivial | (intro a_ b_; first | exact getD_no rfl | exact rowC0_no rfl _ _ | exact rowS_no rfl rfl _ _ | exact insF_no (rowC0_no rfl) (fun _ _ => getD_no rfl) _ _ _ | ((try dsimp only); (repeat' split) <;> first | rfl | exact rowC0_no rfl _ _ | exact getD_no rfl | exact insF_no (rowC0_no rfl) (fun _ _ => getD_no rfl) _ _ _)), ?_⟩)⟩ ?_
        refine AW.ret (show ResL _ _ [.tmp 4] _ ∧ HeapLe _ _ from ⟨resI rfl ?_, ⟨⟨_, rfl, rfl, Nat.le_refl _, fun a b _ _ => rfl⟩, ⟨_, rfl, fun q hq => rowX_ins hir hcode hq⟩, HLe.refl rfl, trivial⟩⟩)
        rfl
  · have _u := True.intro
    have hir : isRow h x.name = true := not_f hb1
    have hlo := row_lo hir
    have hgr := good_at (h := ⟨h.rows, 0⟩) hg hlo
    have hs1 := hgr.2.1
    have hs2 := smp_40 hgr.2.2
    replace hs1 : 0 < (rowK h x).samples.length := hs1
    replace hs2 : (rowK h x).samples.length ≤ 40 := hs2
    refine AW.skip ?_
    refine AW.seq ?_
    refine AW.region ?_
    refine ARun.pure (PureOp.move rfl (.tmp rfl)) rfl rfl (Nat.le_of_ble_eq_true rfl) ?_
    refine ARun.pure (PureOp.nilPtr rfl (.tmp rfl)) rfl rfl (Nat.le_of_ble_eq_true rfl) ?_
    refine ARun.pure (PureOp.fieldPtr rfl (.tmp rfl) vtk_fi_29_0_0) rfl rfl (Nat.le_of_ble_eq_true rfl) ?_
    refine ARun.pure (PureOp.loadPtr rfl (.tmp rfl) vtk_pl_27 rfl rfl (Nat.le_of_ble_eq_true rfl) (Nat.le_of_ble_eq_true rfl)) rfl rfl (Nat.le_of_ble_eq_true rfl) ?_
    refine ARun.pure (PureOp.move rfl (.tmp rfl)) rfl rfl (Nat.le_of_ble_eq_true rfl) ?_
    refine ARun.pure (PureOp.indexOwn (i := loF h x.name) rfl (.tmp rfl) vtk_el_27_2 (.tmp rfl) rfl (show loF h x.name < _ from by omega)) rfl rfl (Nat.le_of_ble_eq_true rfl) ?_
    refine ARun.pure (PureOp.assign rfl (.tmp rfl)) rfl rfl (Nat.le_of_ble_eq_true rfl) ?_
    refine ARun.nil ?_
    refine AW.seq ?_
    refine AW.seq ?_
    refine AW.region ?_
    refine ARun.pure (PureOp.move rfl (.tmp rfl)) rfl rfl (Nat.le_of_ble_eq_true rfl) ?_
    refine ARun.pure (PureOp.nilPtr rfl (.tmp rfl)) rfl rfl (Nat.le_of_ble_eq_true rfl) ?_
    refine ARun.pure (PureOp.fieldPtr rfl (.tmp rfl) vtk_fi_67_1_1) rfl rfl (Nat.le_of_ble_eq_true rfl) ?_
    refine ARun.pure (PureOp.loadPtrE (y := .tre 500 (loF h x.name)) rfl (.tmp rfl) vtk_pl_33 rfl rfl (show loF h x.name < h.rows.length from by omega) (Nat.le_of_ble_eq_true rfl) rfl) rfl rfl (Nat.le_of_ble_eq_true rfl) ?_
    refine ARun.pure (PureOp.lenTre (m := h.rows.length) (sz := 2) (n := (rowK h x).samples.length) (f := (fun a b => ceSample ((rowK h x).samples.getD a (default : GSample)) b)) rfl (.tmp rfl) rfl (by omega) ((takeX_lt (by omega)).trans rfl) vtk_sl_33) rfl rfl (Nat.le_of_ble_eq_true rfl) ?_
    refine ARun.pure (PureOp.assign rfl (.tmp rfl)) rfl rfl (Nat.le_of_ble_eq_true rfl) ?_
    refine ARun.nil ?_
    refine AW.seq ?_
    refine AW.region ?_
    refine ARun.pure (PureOp.move rfl (.tmp rfl)) rfl rfl (Nat.le_of_ble_eq_true rfl) ?_
    refine ARun.pure (PureOp.intOp rfl (.tmp rfl) .int rfl) rfl rfl (Nat.le_of_ble_eq_true rfl) ?_
    refine ARun.nil ?_
    refine AW.cond (.tmp rfl) (fun hb4 => ?_) (fun hb4 => ?_)
    · have _u := True.intro
      replace hb4 := of_decide_eq_true hb4
      refine AW.seq ?_
      refine AW.region ?_
      refine ARun.pure (PureOp.move rfl (.tmp rfl)) rfl rfl (Nat.le_of_ble_eq_true rfl) ?_
      refine ARun.pure (PureOp.nilPtr rfl (.tmp rfl)) rfl rfl (Nat.le_of_ble_eq_true rfl) ?_
      refine ARun.pure (PureOp.fieldPtr rfl (.tmp rfl) vtk_fi_67_1_1) rfl rfl (Nat.le_of_ble_eq_true rfl) ?_
      refine ARun.pure (PureOp.loadPtrE (y := .tre 500 (loF h x.name)) rfl (.tmp rfl) vtk_pl_33 rfl rfl (show loF h x.name < h.rows.length from by omega) (Nat.le_of_ble_eq_true rfl) rfl) rfl rfl (Nat.le_of_ble_eq_true rfl) ?_
      refine ARun.pure (PureOp.move rfl (.tmp rfl)) rfl rfl (Nat.le_of_ble_eq_true rfl) ?_
      refine ARun.pure (PureOp.sub (c := (((rowK h x).samples.length - 1 : Nat) : Int)) rfl (.tmp rfl) .int (by rw [wrap_id (by omega) (by omega)]; omega)) rfl rfl (Nat.le_of_ble_eq_true rfl) ?_
      refine ARun.treeLoad (m := h.rows.length) (sz := 2) (n := (rowK h x).samples.length) (i := ((rowK h x).samples.length - 1)) (off := 0) (f := (fun a b => ceSample ((rowK h x).samples.getD a (default : GSample)) b)) (z := .int .i64 ((takeLast h x).at_)) rfl rfl rfl (.tmp rfl) rfl (by omega) ((takeX_lt (by omega)).trans rfl) vtk_el_33_2 (.tmp rfl) rfl (by omega) vtk_fi_81_0_0 (by decide) vtk_pl_3 rfl rfl rfl rfl rfl rfl rfl rfl (Nat.le_of_ble_eq_true rfl) (Nat.le_of_ble_eq_true rfl) (Nat.le_of_ble_eq_true rfl) rfl rfl ?_
      refine ARun.pure (PureOp.assign rfl (.tmp rfl)) rfl rfl (Nat.le_of_ble_eq_true rfl) ?_
      refine ARun.nil ?_
      refine AW.block ?_
      refine AW.seq ?_
      refine AW.region ?_
      refine ARun.pure (PureOp.move rfl (.tmp rfl)) rfl rfl (Nat.le_of_ble_eq_true rfl) ?_
      refine ARun.pure (PureOp.fieldPtr rfl (.tmp rfl) vtk_fi_47_1_1) rfl rfl (Nat.le_of_ble_eq_true rfl) ?_
      refine ARun.pure (PureOp.loadPtr rfl (.tmp rfl) vtk_pl_3 rfl rfl (Nat.le_of_ble_eq_true rfl) (Nat.le_of_ble_eq_true rfl)) rfl rfl (Nat.le_of_ble_eq_true rfl) ?_
      refine ARun.pure (PureOp.intOp rfl (.tmp rfl) (.tmp rfl) rfl) rfl rfl (Nat.le_of_ble_eq_true rfl) ?_
      refine ARun.pure (PureOp.assign rfl (.tmp rfl)) rfl rfl (Nat.le_of_ble_eq_true rfl) ?_
      refine ARun.nil ?_
      refine AW.cond (.tmp rfl) (fun hb5 => ?_) (fun hb5 => ?_)
      · have _u := True.intro
        replace hb5 := of_decide_eq_true hb5
        have hcode := tk_again hir hb5
        have hcn : ¬ takeCode h x = 1 := by omega
        refine AW.seq ?_
        refine AW.region ?_
        refine ARun.pure (PureOp.assign rfl .int) rfl rfl (Nat.le_of_ble_eq_true rfl) ?_
        refine ARun.nil ?_
        rw [tN_old hcn, hcode]
        refine AW.moveCell 1000000 0 1000001 77 2 h.rows.length [.own 1000001 2 h.rows.length, .int .i64 (h.offset + 1)] [.own 77 2 h.rows.length, .int .i64 (h.offset + 1)] rfl rfl rfl rfl rfl (by decide) ⟨rfl, (by repeat first | exact trivial | refine ⟨by decide, by first | rfl | exact trivial | (intro a_ b_; first | exact getD_no rfl | exact rowC0_no rfl _ _ | exact rowS_no rfl rfl _ _ | exact insF_no (rowC0_no rfl) (fun _ _ => getD_no rfl) _ _ _ | ((try dsimp only); (repeat' split) <;> first | rfl | exact rowC0_no rfl _ _ | exact getD_no rfl | exact insF_no (rowC0_no rfl) (fun _ _ => getD_no rfl) _ _ _)), ?_⟩)⟩ ?_
        refine AW.reindex 500 78 77 h.rows.length h.rows.length 2 h.rows.length id (takeX h x) (rowC0 h 500) (rowC0 h 78) rfl rfl (fun _ hi => hi) (fun _ _ _ _ e => e) row_id ⟨rfl, (by repeat first | exact trivial | refine ⟨by decide, by first | rfl | exact trivial | (intro a_ b_; first | exact getD_no rfl | exact rowC0_no rfl _ _ | exact rowS_no rfl rfl _ _ | exact insF_no (rowC0_no rfl) (fun _ _ => getD_no rfl) _ _ _ | ((try dsimp only); (repeat' split) <;> first | rfl | exact rowC0_no rfl _ _ | exact getD_no rfl | exact insF_no (rowC0_no rfl) (fun _ _ => getD_no rfl) _ _ _)), ?_⟩)⟩ ?_
        refine AW.ret (show ResL _ _ [.tmp 4] _ ∧ HeapLe _ _ from ⟨resI rfl ?_, ⟨⟨_, rfl, rfl, Nat.le_refl _, fun a b _ _ => rowC_old hcn 78 a b⟩, ⟨_, rfl, fun q hq => rowX_old hcn hq⟩, HLe.refl rfl, trivial⟩⟩)
        rfl
      · have _u := True.intro
        replace hb5 := of_decide_eq_false hb5
        have hc1 := hb5
        refine AW.seq ?_
        refine AW.region ?_
        refine ARun.pure (PureOp.move rfl (.tmp rfl)) rfl rfl (Nat.le_of_ble_eq_true rfl) ?_
        refine ARun.pure (PureOp.fieldPtr rfl (.tmp rfl) vtk_fi_47_1_1) rfl rfl (Nat.le_of_ble_eq_true rfl) ?_
        refine ARun.pure (PureOp.loadPtr rfl (.tmp rfl) vtk_pl_3 rfl rfl (Nat.le_of_ble_eq_true rfl) (Nat.le_of_ble_eq_true rfl)) rfl rfl (Nat.le_of_ble_eq_true rfl) ?_
        refine ARun.pure (PureOp.intOp rfl (.tmp rfl) (.tmp rfl) rfl) rfl rfl (Nat.le_of_ble_eq_true rfl) ?_
        refine ARun.pure (PureOp.assign rfl (.tmp rfl)) rfl rfl (Nat.le_of_ble_eq_true rfl) ?_
        refine ARun.nil ?_
        refine AW.cond (.tmp rfl) (fun hb6 => ?_) (fun hb6 => ?_)
        · have _u := True.intro
          replace hb6 := of_decide_eq_true hb6
          have hcode := tk_late hir hc1 hb6
          have hcn : ¬ takeCode h x = 1 := by omega
          refine AW.seq ?_
          refine AW.region ?_
          refine ARun.pure (PureOp.assign rfl .int) rfl rfl (Nat.le_of_ble_eq_true rfl) ?_
          refine ARun.nil ?_
          rw [tN_old hcn, hcode]
          refine AW.moveCell 1000000 0 1000001 77 2 h.rows.length [.own 1000001 2 h.rows.length, .int .i64 (h.offset + 1)] [.own 77 2 h.rows.length, .int .i64 (h.offset + 1)] rfl rfl rfl rfl rfl (by decide) ⟨rfl, (by repeat first | exact trivial | refine ⟨by decide, by first | rfl | exact trivial | (intro a_ b_; first | exact getD_no rfl | exact rowC0_no rfl _ _ | exact rowS_no rfl rfl _ _ | exact insF_no (rowC0_no rfl) (fun _ _ => getD_no rfl) _ _ _ | ((try dsimp only); (repeat' split) <;> first | rfl | exact rowC0_no rfl _ _ | exact getD_no rfl | exact insF_no (rowC0_no rfl) (fun _ _ => getD_no rfl) _ _ _)), ?_⟩)⟩ ?_
          refine AW.reindex 500 78 77 h.rows.length h.rows.length 2 h.rows.length id (takeX h x) (rowC0 h 500) (rowC0 h 78) rfl rfl (fun _ hi => hi) (fun _ _ _ _ e => e) row_id ⟨rfl, (by repeat first | exact trivial | refine ⟨by decide, by first | rfl | exact trivial | (intro a_ b_; first | exact getD_no rfl | exact rowC0_no rfl _ _ | exact rowS_no rfl rfl _ _ | exact insF_no (rowC0_no rfl) (fun _ _ => getD_no rfl) _ _ _ | ((try dsimp only); (repeat' split) <;> first | rfl | exact rowC0_no rfl _ _ | exact getD_no rfl | exact insF_no (rowC0_no rfl) (fun _ _ => getD_no rfl) _ _ _)), ?_⟩)⟩ ?_
          refine AW.ret (show ResL _ _ [.tmp 4] _ ∧ HeapLe _ _ from ⟨resI rfl ?_, ⟨⟨_, rfl, rfl, Nat.le_refl _, fun a b _ _ => rowC_old hcn 78 a b⟩, ⟨_, rfl, fun q hq => rowX_old hcn hq⟩, HLe.refl rfl, trivial⟩⟩)
          rfl
        · have _u := True.intro
          replace hb6 := of_decide_eq_false hb6
          have hc2 := hb6
          refine AW.seq ?_
          refine AW.region ?_
          refine ARun.pure (PureOp.move rfl (.tmp rfl)) rfl rfl (Nat.le_of_ble_eq_true rfl) ?_
          refine ARun.pure (PureOp.intOp rfl (.tmp rfl) .int rfl) rfl rfl (Nat.le_of_ble_eq_true rfl) ?_
          refine ARun.pure (PureOp.assign rfl (.tmp rfl)) rfl rfl (Nat.le_of_ble_eq_true rfl) ?_
          refine ARun.nil ?_
          refine AW.cond (.tmp rfl) (fun hb7 => ?_) (fun hb7 => ?_)
          · have _u := True.intro
            replace hb7 := of_decide_eq_true hb7
            have hcode := tk_full hir hc1 hc2 (show (rowK h x).samples.length = 40 from by omega)
            have hcn : ¬ takeCode h x = 1 := by omega
            refine AW.seq ?_
            refine AW.region ?_
            refine ARun.pure (PureOp.assign rfl .int) rfl rfl (Nat.le_of_ble_eq_true rfl) ?_
            refine ARun.nil ?_
            rw [tN_old hcn, hcode]
            refine AW.moveCell 1000000 0 1000001 77 2 h.rows.length [.own 1000001 2 h.rows.length, .int .i64 (h.offset + 1)] [.own 77 2 h.rows.length, .int .i64 (h.offset + 1)] rfl rfl rfl rfl rfl (by decide) ⟨rfl, (by repeat first | exact trivial | refine ⟨by decide, by first | rfl | exact trivial | (intro a_ b_; first | exact getD_no rfl | exact rowC0_no rfl _ _ | exact rowS_no rfl rfl _ _ | exact insF_no (rowC0_no rfl) (fun _ _ => getD_no rfl) _ _ _ | ((try dsimp only); (repeat' split) <;> first | rfl | exact rowC0_no rfl _ _ | exact getD_no rfl | exact insF_no (rowC0_no rfl) (fun _ _ => getD_no rfl) _ _ _)), ?_⟩)⟩ ?_
            refine AW.reindex 500 78 77 h.rows.length h.rows.length 2 h.rows.length id (takeX h x) (rowC0 h 500) (rowC0 h 78) rfl rfl (fun _ hi => hi) (fun _ _ _ _ e => e) row_id ⟨rfl, (by repeat first | exact trivial | refine ⟨by decide, by first | rfl | exact trivial | (intro a_ b_; first | exact getD_no rfl | exact rowC0_no rfl _ _ | exact rowS_no rfl rfl _ _ | exact insF_no (rowC0_no rfl) (fun _ _ => getD_no rfl) _ _ _ | ((try dsimp only); (repeat' split) <;> first | rfl | exact rowC0_no rfl _ _ | exact getD_no rfl | exact insF_no (rowC0_no rfl) (fun _ _ => getD_no rfl) _ _ _)), ?_⟩)⟩ ?_
            refine AW.ret (show ResL _ _ [.tmp 4] _ ∧ HeapLe _ _ from ⟨resI rfl ?_, ⟨⟨_, rfl, rfl, Nat.le_refl _, fun a b _ _ => rowC_old hcn 78 a b⟩, ⟨_, rfl, fun q hq => rowX_old hcn hq⟩, HLe.refl rfl, trivial⟩⟩)
            rfl
          · have _u := True.intro
            replace hb7 := of_decide_eq_false hb7
            have hcode := tk_new hir hc1 hc2 (show ¬ (rowK h x).samples.length = 40 from by omega)
            refine AW.skip ?_
            refine AW.seq ?_
            refine AW.anyX [⟨[], [], [], []⟩, ⟨[], [], [], []⟩, ⟨[], [], [], []⟩, ⟨[], [], [], []⟩, ⟨[], [4, 500, 501, 1000001], [4, 501], [(4, .arr 2 ((rowK h x).samples.length) (fun a b => ceSample ((rowK h x).samples.getD a (default : GSample)) b)), (501, .trees (h.rows.length - 1) (takeY h x)), (1000001, .arr 2 h.rows.length (rowS h (loF h x.name)))]⟩, ⟨[], [], [], []⟩, ⟨[0], [], [], []⟩, ⟨[], [], [], []⟩, ⟨[0], [], [], []⟩, ⟨[], [], [], []⟩, ⟨[], [5], [5], [(5, .arr 2 1 (fun _ jc => ([.int .i64 x.at_, .int .i64 x.value] : List AV).getD jc (.con undef)))]⟩, ⟨[], [4, 5, 6, 78, 501, 1000001], [6, 78], [(5, .arr 2 1 (fun _ jc => ([.int .i64 x.at_, .int .i64 x.value] : List AV).getD jc (.con undef))), (78, .trees h.rows.length (rowX0 (takeH h x))), (1000001, .arr 2 h.rows.length (fun a b => if a = (loF h x.name) ∧ b = 1 then .tre 500 (loF h x.name) else rowC0 h 78 a b))]⟩, ⟨[], [], [], []⟩, ⟨[], [], [], []⟩, ⟨[], [1000001], [], [(1000001, .arr 2 h.rows.length (fun a b => if a = loF h x.name ∧ b = 1 then .tre 78 (loF h x.name) else (fun a b => if a = (loF h x.name) ∧ b = 1 then .tre 500 (loF h x.name) else rowC0 h 78 a b : Nat → Nat → AV) a b))]⟩] (by kernel_rfl) (by kernel_rfl) (by kernel_rfl) ⟨⟨.inl rfl, .inr (.inr trivial), .inr (.inr trivial), .inr (.inr trivial), .inr (.inr (by repeat first | exact trivial | refine And.intro ?_ ?_ | exact rfl | ((intro a_ b_; first | exact getD_no rfl | exact rowC0_no rfl _ _ | exact rowS_no rfl rfl _ _ | exact insF_no (rowC0_no rfl) (fun _ _ => getD_no rfl) _ _ _ | ((try dsimp only); (repeat' split) <;> first | rfl | exact rowC0_no rfl _ _ | exact getD_no rfl | exact insF_no (rowC0_no rfl) (fun _ _ => getD_no rfl) _ _ _))))), .inr (.inr trivial), .inr (.inr trivial), .inr (.inr trivial), .inr (.inr trivial), .inr (.inr trivial), .inr (.inr (by repeat first | exact trivial | refine And.intro ?_ ?_ | exact rfl | ((intro a_ b_; first | exact getD_no rfl | exact rowC0_no rfl _ _ | exact rowS_no rfl rfl _ _ | exact insF_no (rowC0_no rfl) (fun _ _ => getD_no rfl) _ _ _ | ((try dsimp only); (repeat' split) <;> first | rfl | exact rowC0_no rfl _ _ | exact getD_no rfl | exact insF_no (rowC0_no rfl) (fun _ _ => getD_no rfl) _ _ _))))), .inr (.inr (by repeat first | exact trivial | refine And.intro ?_ ?_ | exact rfl | ((intro a_ b_; first | exact getD_no rfl | exact rowC0_no rfl _ _ | exact rowS_no rfl rfl _ _ | exact insF_no (rowC0_no rfl) (fun _ _ => getD_no rfl) _ _ _ | ((try dsimp only); (repeat' split) <;> first | rfl | exact rowC0_no rfl _ _ | exact getD_no rfl | exact insF_no (rowC0_no rfl) (fun _ _ => getD_no rfl) _ _ _))))), .inr (.inr trivial), .inr (.inr trivial), .inr (.inr trivial), trivial⟩, ⟨.inr (.inr trivial), .inl rfl, .inr (.inr trivial), .inr (.inr trivial), .inr (.inr (by repeat first | exact trivial | refine And.intro ?_ ?_ | exact rfl | ((intro a_ b_; first | exact getD_no rfl | exact rowC0_no rfl _ _ | exact rowS_no rfl rfl _ _ | exact insF_no (rowC0_no rfl) (fun _ _ => getD_no rfl) _ _ _ | ((try dsimp only); (repeat' split) <;> first | rfl | exact rowC0_no rfl _ _ | exact getD_no rfl | exact insF_no (rowC0_no rfl) (fun _ _ => getD_no rfl) _ _ _))))), .inr (.inr trivial), .inr (.inr trivial), .inr (.inr trivial), .inr (.inr trivial), .inr (.inr trivial), .inr (.inr (by repeat first | exact trivial | refine And.intro ?_ ?_ | exact rfl | ((intro a_ b_; first | exact getD_no rfl | exact rowC0_no rfl _ _ | exact rowS_no rfl rfl _ _ | exact insF_no (rowC0_no rfl) (fun _ _ => getD_no rfl) _ _ _ | ((try dsimp only); (repeat' split) <;> first | rfl | exact rowC0_no rfl _ _ | exact getD_no rfl | exact insF_no (rowC0_no rfl) (fun _ _ => getD_no rfl) _ _ _))))), .inr (.inr (by repeat first | exact trivial | refine And.intro ?_ ?_ | exact rfl | ((intro a_ b_; first | exact getD_no rfl | exact rowC0_no rfl _ _ | exact rowS_no rfl rfl _ _ | exact insF_no (rowC0_no rfl) (fun _ _ => getD_no rfl) _ _ _ | ((try dsimp only); (repeat' split) <;> first | rfl | exact rowC0_no rfl _ _ | exact getD_no rfl | exact insF_no (rowC0_no rfl) (fun _ _ => getD_no rfl) _ _ _))))), .inr (.inr trivial), .inr (.inr trivial), .inr (.inr trivial), trivial⟩, ⟨.inr (.inr trivial), .inr (.inr trivial), .inl rfl, .inr (.inr trivial), .inr (.inr (by repeat first | exact trivial | refine And.intro ?_ ?_ | exact rfl | ((intro a_ b_; first | exact getD_no rfl | exact rowC0_no rfl _ _ | exact rowS_no rfl rfl _ _ | exact insF_no (rowC0_no rfl) (fun _ _ => getD_no rfl) _ _ _ | ((try dsimp only); (repeat' split) <;> first | rfl | exact rowC0_no rfl _ _ | exact getD_no rfl | exact insF_no (rowC0_no rfl) (fun _ _ => getD_no rfl) _ _ _))))), .inr (.inr trivial), .inr (.inr trivial), .inr (.inr trivial), .inr (.inr trivial), .inr (.inr trivial), .inr (.inr (by repeat first | exact trivial | refine And.intro ?_ ?_ | exact rfl | ((intro a_ b_; first | exact getD_no rfl | exact rowC0_no rfl _ _ | exact rowS_no rfl rfl _ _ | exact insF_no (rowC0_no rfl) (fun _ _ => getD_no rfl) _ _ _ | ((try dsimp only); (repeat' split) <;> first | rfl | exact rowC0_no rfl _ _ | exact getD_no rfl | exact insF_no (rowC0_no rfl) (fun _ _ => getD_no rfl) _ _ _))))), .inr (.inr (by repeat first | exact trivial | refine And.intro ?_ ?_ | exact rfl | ((intro a_ b_; first | exact getD_no rfl | exact rowC0_no rfl _ _ | exact rowS_no rfl rfl _ _ | exact insF_no (rowC0_no rfl) (fun _ _ => getD_no rfl) _ _ _ | ((try dsimp only); (repeat' split) <;> first | rfl | exact rowC0_no rfl _ _ | exact getD_no rfl | exact insF_no (rowC0_no rfl) (fun _ _ => getD_no rfl) _ _ _))))), .inr (.inr trivial), .inr (.inr trivial), .inr (.inr trivial), trivial⟩, ⟨.inr (.inr trivial), .inr (.inr trivial), .inr (.inr trivial), .inl rfl, .inr (.inr (by repeat first | exact trivial | refine And.intro ?_ ?_ | exact rfl | ((intro a_ b_; first | exact getD_no rfl | exact rowC0_no rfl _ _ | exact rowS_no rfl rfl _ _ | exact insF_no (rowC0_no rfl) (fun _ _ => getD_no rfl) _ _ _ | ((try dsimp only); (repeat' split) <;> first | rfl | exact rowC0_no rfl _ _ | exact getD_no rfl | exact insF_no (rowC0_no rfl) (fun _ _ => getD_no rfl) _ _ _))))), .inr (.inr trivial), .inr (.inr trivial), .inr (.inr trivial), .inr (.inr trivial), .inr (.inr trivial), .inr (.inr (by repeat first | exact trivial | refine And.intro ?_ ?_ | exact rfl | ((intro a_ b_; first | exact getD_no rfl | exact rowC0_no rfl _ _ | exact rowS_no rfl rfl _ _ | exact insF_no (rowC0_no rfl) (fun _ _ => getD_no rfl) _ _ _ | ((try dsimp only); (repeat' split) <;> first | rfl | exact rowC0_no rfl _ _ | exact getD_no rfl | exact insF_no (rowC0_no rfl) (fun _ _ => getD_no rfl) _ _ _))))), .inr (.inr (by repeat first | exact trivial | refine And.intro ?_ ?_ | exact rfl | ((intro a_ b_; first | exact getD_no rfl | exact rowC0_no rfl _ _ | exact rowS_no rfl rfl _ _ | exact insF_no (rowC0_no rfl) (fun _ _ => getD_no rfl) _ _ _ | ((try dsimp only); (repeat' split) <;> first | rfl | exact rowC0_no rfl _ _ | exact getD_no rfl | exact insF_no (rowC0_no rfl) (fun _ _ => getD_no rfl) _ _ _))))), .inr (.inr trivial), .inr (.inr trivial), .inr (.inr trivial), trivial⟩, ⟨.inr (.inr trivial), .inr (.inr trivial), .inr (.inr trivial), .inr (.inr trivial), .inl rfl, .inr (.inr trivial), .inr (.inr trivial), .inr (.inr trivial), .inr (.inr trivial), .inr (.inr trivial), .inr (.inr (by repeat first | exact trivial | refine And.intro ?_ ?_ | exact rfl | ((intro a_ b_; first | exact getD_no rfl | exact rowC0_no rfl _ _ | exact rowS_no rfl rfl _ _ | exact insF_no (rowC0_no rfl) (fun _ _ => getD_no rfl) _ _ _ | ((try dsimp only); (repeat' split) <;> first | rfl | exact rowC0_no rfl _ _ | exact getD_no rfl | exact insF_no (rowC0_no rfl) (fun _ _ => getD_no rfl) _ _ _))))), .inr (.inr (by repeat first | exact trivial | refine And.intro ?_ ?_ | exact rfl | ((intro a_ b_; first | exact getD_no rfl | exact rowC0_no rfl _ _ | exact rowS_no rfl rfl _ _ | exact insF_no (rowC0_no rfl) (fun _ _ => getD_no rfl) _ _ _ | ((try dsimp only); (repeat' split) <;> first | rfl | exact rowC0_no rfl _ _ | exact getD_no rfl | exact insF_no (rowC0_no rfl) (fun _ _ => getD_no rfl) _ _ _))))), .inr (.inr trivial), .inr (.inr trivial), .inr (.inr trivial), trivial⟩, ⟨.inr (.inr trivial), .inr (.inr trivial), .inr (.inr trivial), .inr (.inr trivial), .inr (.inr (by repeat first | exact trivial | refine And.intro ?_ ?_ | exact rfl | ((intro a_ b_; first | exact getD_no rfl | exact rowC0_no rfl _ _ | exact rowS_no rfl rfl _ _ | exact insF_no (rowC0_no rfl) (fun _ _ => getD_no rfl) _ _ _ | ((try dsimp only); (repeat' split) <;> first | rfl | exact rowC0_no rfl _ _ | exact getD_no rfl | exact insF_no (rowC0_no rfl) (fun _ _ => getD_no rfl) _ _ _))))), .inl rfl, .inr (.inr trivial), .inr (.inr trivial), .inr (.inr trivial), .inr (.inr trivial), .inr (.inr (by repeat first | exact trivial | refine And.intro ?_ ?_ | exact rfl | ((intro a_ b_; first | exact getD_no rfl | exact rowC0_no rfl _ _ | exact rowS_no rfl rfl _ _ | exact insF_no (rowC0_no rfl) (fun _ _ => getD_no rfl) _ _ _ | ((try dsimp only); (repeat' split) <;> first | rfl | exact rowC0_no rfl _ _ | exact getD_no rfl | exact insF_no (rowC0_no rfl) (fun _ _ => getD_no rfl) _ _ _))))), .inr (.inr (by repeat first | exact trivial | refine And.intro ?_ ?_ | exact rfl | ((intro a_ b_; first | exact getD_no rfl | exact rowC0_no rfl _ _ | exact rowS_no rfl rfl _ _ | exact insF_no (rowC0_no rfl) (fun _ _ => getD_no rfl) _ _ _ | ((try dsimp only); (repeat' split) <;> first | rfl | exact rowC0_no rfl _ _ | exact getD_no rfl | exact insF_no (rowC0_no rfl) (fun _ _ => getD_no rfl) _ _ _))))), .inr (.inr trivial), .inr (.inr trivial), .inr (.inr trivial), trivial⟩, ⟨.inr (.inr trivial), .inr (.inr trivial), .inr (.inr trivial), .inr (.inr trivial), .inr (.inr (by repeat first | exact trivial | refine And.intro ?_ ?_ | exact rfl | ((intro a_ b_; first | exact getD_no rfl | exact rowC0_no rfl _ _ | exact rowS_no rfl rfl _ _ | exact insF_no (rowC0_no rfl) (fun _ _ => getD_no rfl) _ _ _ | ((try dsimp only); (repeat' split) <;> first | rfl | exact rowC0_no rfl _ _ | exact getD_no rfl | exact insF_no (rowC0_no rfl) (fun _ _ => getD_no rfl) _ _ _))))), .inr (.inr trivial), .inl rfl, .inr (.inr trivial), .inr (.inr trivial), .inr (.inr trivial), .inr (.inr (by repeat first | exact trivial | refine And.intro ?_ ?_ | exact rfl | ((intro a_ b_; first | exact getD_no rfl | exact rowC0_no rfl _ _ | exact rowS_no rfl rfl _ _ | exact insF_no (rowC0_no rfl) (fun _ _ => getD_no rfl) _ _ _ | ((try dsimp only); (repeat' split) <;> first | rfl | exact rowC0_no rfl _ _ | exact getD_no rfl | exact insF_no (rowC0_no rfl) (fun _ _ => getD_no rfl) _ _ _))))), .inr (.inr (by repeat first | exact trivial | refine And.intro ?_ ?_ | exact rfl | ((intro a_ b_; first | exact getD_no rfl | exact rowC0_no rfl _ _ | exact rowS_no rfl rfl _ _ | exact insF_no (rowC0_no rfl) (fun _ _ => getD_no rfl) _ _ _ | ((try dsimp only); (repeat' split) <;> first | rfl | exact rowC0_no rfl _ _ | exact getD_no rfl | exact insF_no (rowC0_no rfl) (fun _ _ => getD_no rfl) _ _ _))))), .inr (.inr trivial), .inr (.inr trivial), .inr (.inr trivial), trivial⟩, ⟨.inr (.inr trivial), .inr (.inr trivial), .inr (.inr trivial), .inr (.inr trivial), .inr (.inr (by repeat first | exact trivial | refine And.intro ?_ ?_ | exact rfl | ((intro a_ b_; first | exact getD_no rfl | exact rowC0_no rfl _ _ | exact rowS_no rfl rfl _ _ | exact insF_no (rowC0_no rfl) (fun _ _ => getD_no rfl) _ _ _ | ((try dsimp only); (repeat' split) <;> first | rfl | exact rowC0_no rfl _ _ | exact getD_no rfl | exact insF_no (rowC0_no rfl) (fun _ _ => getD_no rfl) _ _ _))))), .inr (.inr trivial), .inr (.inr trivial), .inl rfl, .inr (.inr trivial), .inr (.inr trivial), .inr (.inr (by repeat first | exact trivial | refine And.intro ?_ ?_ | exact rfl | ((intro a_ b_; first | exact getD_no rfl | exact rowC0_no rfl _ _ | exact rowS_no rfl rfl _ _ | exact insF_no (rowC0_no rfl) (fun _ _ => getD_no rfl) _ _ _ | ((try dsimp only); (repeat' split) <;> first | rfl | exact rowC0_no rfl _ _ | exact getD_no rfl | exact insF_no (rowC0_no rfl) (fun _ _ => getD_no rfl) _ _ _))))), .inr (.inr (by repeat first | exact trivial | refine And.intro ?_ ?_ | exact rfl | ((intro a_ b_; first | exact getD_no rfl | exact rowC0_no rfl _ _ | exact rowS_no rfl rfl _ _ | exact insF_no (rowC0_no rfl) (fun _ _ => getD_no rfl) _ _ _ | ((try dsimp only); (repeat' split) <;> first | rfl | exact rowC0_no rfl _ _ | exact getD_no rfl | exact insF_no (rowC0_no rfl) (fun _ _ => getD_no rfl) _ _ _))))), .inr (.inr trivial), .inr (.inr trivial), .inr (.inr trivial), trivial⟩, ⟨.inr (.inr trivial), .inr (.inr trivial), .inr (.inr trivial), .inr (.inr trivial), .inr (.inr (by repeat first | exact trivial | refine And.intro ?_ ?_ | exact rfl | ((intro a_ b_; first | exact getD_no rfl | exact rowC0_no rfl _ _ | exact rowS_no rfl rfl _ _ | exact insF_no (rowC0_no rfl) (fun _ _ => getD_no rfl) _ _ _ | ((try dsimp only); (repeat' split) <;> first | rfl | exact rowC0_no rfl _ _ | exact getD_no rfl | exact insF_no (rowC0_no rfl) (fun _ _ => getD_no rfl) _ _ _))))), .inr (.inr trivial), .inr (.inr trivial), .inr (.inr trivial), .inl rfl, .inr (.inr trivial), .inr (.inr (by repeat first | exact trivial | refine And.intro ?_ ?_ | exact rfl | ((intro a_ b_; first | exact getD_no rfl | exact rowC0_no rfl _ _ | exact rowS_no rfl rfl _ _ | exact insF_no (rowC0_no rfl) (fun _ _ => getD_no rfl) _ _ _ | ((try dsimp only); (repeat' split) <;> first | rfl | exact rowC0_no rfl _ _ | exact getD_no rfl | exact insF_no (rowC0_no rfl) (fun _ _ => getD_no rfl) _ _ _))))), .inr (.inr (by repeat first | exact trivial | refine And.intro ?_ ?_ | exact rfl | ((intro a_ b_; first | exact getD_no rfl | exact rowC0_no rfl _ _ | exact rowS_no rfl rfl _ _ | exact insF_no (rowC0_no rfl) (fun _ _ => getD_no rfl) _ _ _ | ((try dsimp only); (repeat' split) <;> first | rfl | exact rowC0_no rfl _ _ | exact getD_no rfl | exact insF_no (rowC0_no rfl) (fun _ _ => getD_no rfl) _ _ _))))), .inr (.inr trivial), .inr (.inr trivial), .inr (.inr trivial), trivial⟩, ⟨.inr (.inr trivial), .inr (.inr trivial), .inr (.inr trivial), .inr (.inr trivial), .inr (.inr (by repeat first | exact trivial | refine And.intro ?_ ?_ | exact rfl | ((intro a_ b_; first | exact getD_no rfl | exact rowC0_no rfl _ _ | exact rowS_no rfl rfl _ _ | exact insF_no (rowC0_no rfl) (fun _ _ => getD_no rfl) _ _ _ | ((try dsimp only); (repeat' split) <;> first | rfl | exact rowC0_no rfl _ _ | exact getD_no rfl | exact insF_no (rowC0_no rfl) (fun _ _ => getD_no rfl) _ _ _))))), .inr (.inr trivial), .inr (.inr trivial), .inr (.inr trivial), .inr (.inr trivial), .inl rfl, .inr (.inr (by repeat first | exact trivial | refine And.intro ?_ ?_ | exact rfl | ((intro a_ b_; first | exact getD_no rfl | exact rowC0_no rfl _ _ | exact rowS_no rfl rfl _ _ | exact insF_no (rowC0_no rfl) (fun _ _ => getD_no rfl) _ _ _ | ((try dsimp only); (repeat' split) <;> first | rfl | exact rowC0_no rfl _ _ | exact getD_no rfl | exact insF_no (rowC0_no rfl) (fun _ _ => getD_no rfl) _ _ _))))), .inr (.inr (by repeat first | exact trivial | refine And.intro ?_ ?_ | exact rfl | ((intro a_ b_; first | exact getD_no rfl | exact rowC0_no rfl _ _ | exact rowS_no rfl rfl _ _ | exact insF_no (rowC0_no rfl) (fun _ _ => getD_no rfl) _ _ _ | ((try dsimp only); (repeat' split) <;> first | rfl | exact rowC0_no rfl _ _ | exact getD_no rfl | exact insF_no (rowC0_no rfl) (fun _ _ => getD_no rfl) _ _ _))))), .inr (.inr trivial), .inr (.inr trivial), .inr (.inr trivial), trivial⟩, ⟨.inr (.inr trivial), .inr (.inr trivial), .inr (.inr trivial), .inr (.inr trivial), .inr (.inr (by repeat first | exact trivial | refine And.intro ?_ ?_ | exact rfl | ((intro a_ b_; first | exact getD_no rfl | exact rowC0_no rfl _ _ | exact rowS_no rfl rfl _ _ | exact insF_no (rowC0_no rfl) (fun _ _ => getD_no rfl) _ _ _ | ((try dsimp only); (repeat' split) <;> first | rfl | exact rowC0_no rfl _ _ | exact getD_no rfl | exact insF_no (rowC0_no rfl) (fun _ _ => getD_no rfl) _ _ _))))), .inr (.inr trivial), .inr (.inr trivial), .inr (.inr trivial), .inr (.inr trivial), .inr (.inr trivial), .inl rfl, .inr (.inr (by repeat first | exact trivial | refine And.intro ?_ ?_ | exact rfl | ((intro a_ b_; first | exact getD_no rfl | exact rowC0_no rfl _ _ | exact rowS_no rfl rfl _ _ | exact insF_no (rowC0_no rfl) (fun _ _ => getD_no rfl) _ _ _ | ((try dsimp only); (repeat' split) <;> first | rfl | exact rowC0_no rfl _ _ | exact getD_no rfl | exact insF_no (rowC0_no rfl) (fun _ _ => getD_no rfl) _ _ _))))), .inr (.inr trivial), .inr (.inr trivial), .inr (.inr trivial), trivial⟩, ⟨.inr (.inr trivial), .inr (.inr trivial), .inr (.inr trivial), .inr (.inr trivial), .inr (.inl (by kernel_rfl)), .inr (.inr trivial), .inr (.inr trivial), .inr (.inr trivial), .inr (.inr trivial), .inr (.inr trivial), .inr (.inl (by kernel_rfl)), .inl rfl, .inr (.inr trivial), .inr (.inr trivial), .inr (.inr trivial), trivial⟩, ⟨.inr (.inr trivial), .inr (.inr trivial), .inr (.inr trivial), .inr (.inr trivial), .inr (.inl (by kernel_rfl)), .inr (.inr trivial), .inr (.inr trivial), .inr (.inr trivial), .inr (.inr trivial), .inr (.inr trivial), .inr (.inl (by kernel_rfl)), .inr (.inl (by kernel_rfl)), .inl rfl, .inr (.inr trivial), .inr (.inr trivial), trivial⟩, ⟨.inr (.inr trivial), .inr (.inr trivial), .inr (.inr trivial), .inr (.inr trivial), .inr (.inl (by kernel_rfl)), .inr (.inr trivial), .inr (.inr trivial), .inr (.inr trivial), .inr (.inr trivial), .inr (.inr trivial), .inr (.inl (by kernel_rfl)), .inr (.inl (by kernel_rfl)), .inr (.inr trivial), .inl rfl, .inr (.inr trivial), trivial⟩, ⟨.inr (.inr trivial), .inr (.inr trivial), .inr (.inr trivial), .inr (.inr trivial), .inr (.inl (by kernel_rfl)), .inr (.inr trivial), .inr (.inr trivial), .inr (.inr trivial), .inr (.inr trivial), .inr (.inr trivial), .inr (.inl (by kernel_rfl)), .inr (.inl (by kernel_rfl)), .inr (.inr trivial), .inr (.inr trivial), .inl rfl, trivial⟩, trivial⟩ ⟨trivial, trivial, trivial, trivial, ⟨(by repeat first | exact trivial | refine ⟨by decide, by first | rfl | exact trivial | (intro a_ b_; first | exact getD_no rfl | exact rowC0_no rfl _ _ | exact rowS_no rfl rfl _ _ | exact insF_no (rowC0_no rfl) (fun _ _ => getD_no rfl) _ _ _ | ((try dsimp only); (repeat' split) <;> first | rfl | exact rowC0_no rfl _ _ | exact getD_no rfl | exact insF_no (rowC0_no rfl) (fun _ _ => getD_no rfl) _ _ _)), ?_⟩), (by repeat first | exact trivial | refine ⟨by decide, by first | rfl | exact trivial | (intro a_ b_; first | exact getD_no rfl | exact rowC0_no rfl _ _ | exact rowS_no rfl rfl _ _ | exact insF_no (rowC0_no rfl) (fun _ _ => getD_no rfl) _ _ _ | ((try dsimp only); (repeat' split) <;> first | rfl | exact rowC0_no rfl _ _ | exact getD_no rfl | exact insF_no (rowC0_no rfl) (fun _ _ => getD_no rfl) _ _ _)), ?_⟩), trivial⟩, trivial, trivial, trivial, trivial, trivial, ⟨(by repeat first | exact trivial | refine ⟨by decide, by first | rfl | exact trivial | (intro a_ b_; first | exact getD_no rfl | exact rowC0_no rfl _ _ | exact rowS_no rfl rfl _ _ | exact insF_no (rowC0_no rfl) (fun _ _ => getD_no rfl) _ _ _ | ((try dsimp only); (repeat' split) <;> first | rfl | exact rowC0_no rfl _ _ | exact getD_no rfl | exact insF_no (rowC0_no rfl) (fun _ _ => getD_no rfl) _ _ _)), ?_⟩), trivial⟩, ⟨(by repeat first | exact trivial | refine ⟨by decide, by first | rfl | exact trivial | (intro a_ b_; first | exact getD_no rfl | exact rowC0_no rfl _ _ | exact rowS_no rfl rfl _ _ | exact insF_no (rowC0_no rfl) (fun _ _ => getD_no rfl) _ _ _ | ((try dsimp only); (repeat' split) <;> first | rfl | exact rowC0_no rfl _ _ | exact getD_no rfl | exact insF_no (rowC0_no rfl) (fun _ _ => getD_no rfl) _ _ _)), ?_⟩), (by repeat first | exact trivial | refine ⟨by decide, by first | rfl | exact trivial | (intro a_ b_; first | exact getD_no rfl | exact rowC0_no rfl _ _ | exact rowS_no rfl rfl _ _ | exact insF_no (rowC0_no rfl) (fun _ _ => getD_no rfl) _ _ _ | ((try dsimp only); (repeat' split) <;> first | rfl | exact rowC0_no rfl _ _ | exact getD_no rfl | exact insF_no (rowC0_no rfl) (fun _ _ => getD_no rfl) _ _ _)), ?_⟩), trivial⟩, trivial, trivial, trivial, trivial⟩ ?_
            refine ADX.pure [] (PureOp.move rfl (.tmp rfl)) rfl rfl (Nat.le_of_ble_eq_true rfl) trivial rfl ?_
            refine ADX.pure [] (PureOp.move rfl (.tmp rfl)) rfl rfl (Nat.le_of_ble_eq_true rfl) trivial rfl ?_
            refine ADX.pure [] (PureOp.nilPtr rfl (.tmp rfl)) rfl rfl (Nat.le_of_ble_eq_true rfl) trivial rfl ?_
            refine ADX.pure [] (PureOp.fieldPtr rfl (.tmp rfl) vtk_fi_67_1_1) rfl rfl (Nat.le_of_ble_eq_true rfl) trivial rfl ?_
            refine ADX.eff (tk := [4, 500, 501, 1000001]) (new := [4, 501]) (s := .one (.own 4 2 ((rowK h x).samples.length))) (F := [(84, .one (.own 4 2 ((rowK h x).samples.length))), (84, .one (.tre 500 (loF h x.name)))]) (Hin := [(500, .trees h.rows.length (takeX h x)), (1000001, .arr 2 h.rows.length (rowC0 h 500))]) (Hout := [(4, .arr 2 ((rowK h x).samples.length) (fun a b => ceSample ((rowK h x).samples.getD a (default : GSample)) b)), (501, .trees (h.rows.length - 1) (takeY h x)), (1000001, .arr 2 h.rows.length (rowS h (loF h x.name)))]) (fun E X hE hX Q rest hk => ?_) ⟨rfl, rfl, trivial⟩ ⟨rfl, rfl⟩ rfl rfl rfl rfl ⟨(by repeat first | exact trivial | refine ⟨by decide, by first | rfl | exact trivial | (intro a_ b_; first | exact getD_no rfl | exact rowC0_no rfl _ _ | exact rowS_no rfl rfl _ _ | exact insF_no (rowC0_no rfl) (fun _ _ => getD_no rfl) _ _ _ | ((try dsimp only); (repeat' split) <;> first | rfl | exact rowC0_no rfl _ _ | exact getD_no rfl | exact insF_no (rowC0_no rfl) (fun _ _ => getD_no rfl) _ _ _)), ?_⟩), (by repeat first | exact trivial | refine ⟨by decide, by first | rfl | exact trivial | (intro a_ b_; first | exact getD_no rfl | exact rowC0_no rfl _ _ | exact rowS_no rfl rfl _ _ | exact insF_no (rowC0_no rfl) (fun _ _ => getD_no rfl) _ _ _ | ((try dsimp only); (repeat' split) <;> first | rfl | exact rowC0_no rfl _ _ | exact getD_no rfl | exact insF_no (rowC0_no rfl) (fun _ _ => getD_no rfl) _ _ _)), ?_⟩), trivial⟩ rfl (fun _ e => by cases e; exact Nat.le_of_ble_eq_true rfl) ?_
            · refine ARun.pure (PureOp.loadPtrE (y := .tre 500 (loF h x.name)) rfl (.tmp rfl) vtk_pl_33 rfl rfl (show loF h x.name < h.rows.length from by omega) (Nat.le_of_ble_eq_true rfl) rfl) rfl rfl (Nat.le_of_ble_eq_true rfl) ?_
              refine ARun.takeOut 84 500 (loF h x.name) h.rows.length 2 (rowK h x).samples.length 4 (takeX h x) (fun a b => ceSample ((rowK h x).samples.getD a (default : GSample)) b) rfl rfl (by omega) ((takeX_lt (by omega)).trans rfl) rfl (fun i j hi hj => match j, hj with | 0, _ => rfl | 1, _ => rfl | _ + 2, h => absurd h (by omega)) (fun _ _ => getD_no rfl) (by repeat first | exact Fr.ext2 ⟨rfl, (by repeat first | exact trivial | refine ⟨by decide, by first | rfl | exact trivial | (intro a_ b_; first | exact getD_no rfl | exact rowC0_no rfl _ _ | exact rowS_no rfl rfl _ _ | exact insF_no (rowC0_no rfl) (fun _ _ => getD_no rfl) _ _ _ | ((try dsimp only); (repeat' split) <;> first | rfl | exact rowC0_no rfl _ _ | exact getD_no rfl | exact insF_no (rowC0_no rfl) (fun _ _ => getD_no rfl) _ _ _)), ?_⟩)⟩ hE hX rfl rfl | refine Fr.consE rfl ?_ | refine Fr.consH (by decide) (by first | rfl | exact trivial | (intro a_ b_; first | exact getD_no rfl | exact rowC0_no rfl _ _ | exact rowS_no rfl rfl _ _ | exact insF_no (rowC0_no rfl) (fun _ _ => getD_no rfl) _ _ _ | ((try dsimp only); (repeat' split) <;> first | rfl | exact rowC0_no rfl _ _ | exact getD_no rfl | exact insF_no (rowC0_no rfl) (fun _ _ => getD_no rfl) _ _ _))) ?_ | refine Fr.filt ?_) (fun vv => ?_)
              refine ARun.reindex 500 501 1000001 h.rows.length (h.rows.length - 1) 2 h.rows.length (skP (loF h x.name)) (fun i => if i = (loF h x.name) then .con vv else takeX h x i) (rowC0 h 500) (rowS h (loF h x.name)) rfl rfl (skP_lt hlo) skP_inj (row_skip hlo) (by repeat first | exact Fr.ext2 ⟨rfl, (by repeat first | exact trivial | refine ⟨by decide, by first | rfl | exact trivial | (intro a_ b_; first | exact getD_no rfl | exact rowC0_no rfl _ _ | exact rowS_no rfl rfl _ _ | exact insF_no (rowC0_no rfl) (fun _ _ => getD_no rfl) _ _ _ | ((try dsimp only); (repeat' split) <;> first | rfl | exact rowC0_no rfl _ _ | exact getD_no rfl | exact insF_no (rowC0_no rfl) (fun _ _ => getD_no rfl) _ _ _)), ?_⟩)⟩ hE hX rfl rfl | refine Fr.consE rfl ?_ | refine Fr.consH (by decide) (by first | rfl | exact trivial | (intro a_ b_; first | exact getD_no rfl | exact rowC0_no rfl _ _ | exact rowS_no rfl rfl _ _ | exact insF_no (rowC0_no rfl) (fun _ _ => getD_no rfl) _ _ _ | ((try dsimp only); (repeat' split) <;> first | rfl | exact rowC0_no rfl _ _ | exact getD_no rfl | exact insF_no (rowC0_no rfl) (fun _ _ => getD_no rfl) _ _ _))) ?_ | refine Fr.filt ?_) ?_
              refine ARun.hleX ?_ ?_ hk
              · exact ⟨HLe.refl rfl, ⟨_, rfl, fun q hq => takeY_hole hq⟩, HLe.refl rfl, trivial⟩
              · repeat (first | exact LkX.refl | refine LkX.cons (hX.none rfl) ?_ | refine LkX.filter (hX.none rfl) ?_)
            refine ADX.pure [] (PureOp.fieldPtr rfl (.tmp rfl) vtk_fi_47_1_1) rfl rfl (Nat.le_of_ble_eq_true rfl) trivial rfl ?_
            refine ADX.pure [(0, .cells [.str x.name, .int .i64 x.at_, .int .i64 x.value])] (PureOp.loadPtr rfl (.tmp rfl) vtk_pl_3 rfl rfl (Nat.le_of_ble_eq_true rfl) (Nat.le_of_ble_eq_true rfl)) rfl rfl (Nat.le_of_ble_eq_true rfl) ⟨rfl, trivial⟩ rfl ?_
            refine ADX.pure [] (PureOp.fieldPtr rfl (.tmp rfl) vtk_fi_47_2_2) rfl rfl (Nat.le_of_ble_eq_true rfl) trivial rfl ?_
            refine ADX.pure [(0, .cells [.str x.name, .int .i64 x.at_, .int .i64 x.value])] (PureOp.loadPtr rfl (.tmp rfl) vtk_pl_3 rfl rfl (Nat.le_of_ble_eq_true rfl) (Nat.le_of_ble_eq_true rfl)) rfl rfl (Nat.le_of_ble_eq_true rfl) ⟨rfl, trivial⟩ rfl ?_
            refine ADX.pure [] (PureOp.build (ys := [.int .i64 x.at_, .int .i64 x.value]) (l := [.int .i64 0, .int .i64 0]) (pl := [(0, 1), (1, 1)]) (z := (.agg #[.int .i64 0, .int .i64 0])) rfl (by kernel_rfl) (by kernel_rfl) (fun _ _ _ => ⟨_, _, rfl, rfl, ⟨_, _, rfl, rfl, rfl⟩⟩) ⟨(.tmp rfl), trivial, rfl, ⟨(.tmp rfl), trivial, rfl, trivial⟩⟩ rfl) rfl rfl (Nat.le_of_ble_eq_true rfl) trivial rfl ?_
            refine ADX.eff (tk := [5]) (new := [5]) (s := .one (.own 5 2 1)) (F := [(90, .one (.own 5 2 1))]) (Hin := []) (Hout := [(5, .arr 2 1 (fun _ jc => ([.int .i64 x.at_, .int .i64 x.value] : List AV).getD jc (.con undef)))]) (fun E X hE hX Q rest hk => ?_) trivial ⟨rfl, rfl⟩ rfl rfl rfl rfl ⟨(by repeat first | exact trivial | refine ⟨by decide, by first | rfl | exact trivial | (intro a_ b_; first | exact getD_no rfl | exact rowC0_no rfl _ _ | exact rowS_no rfl rfl _ _ | exact insF_no (rowC0_no rfl) (fun _ _ => getD_no rfl) _ _ _ | ((try dsimp only); (repeat' split) <;> first | rfl | exact rowC0_no rfl _ _ | exact getD_no rfl | exact insF_no (rowC0_no rfl) (fun _ _ => getD_no rfl) _ _ _)), ?_⟩), trivial⟩ rfl (fun _ e => by cases e; exact Nat.le_of_ble_eq_true rfl) ?_
            · refine ARun.slice1 (id := 5) (z := (.agg #[.int .i64 0, .int .i64 0])) (by_ := 16) rfl (.tmp rfl) (SV.cells_of (by exact ⟨trivial, trivial, trivial⟩)) (by kernel_rfl) rfl rfl (by decide) (by decide) (Fr.ext2 ⟨rfl, (by repeat first | exact trivial | refine ⟨by decide, by first | rfl | exact trivial | (intro a_ b_; first | exact getD_no rfl | exact rowC0_no rfl _ _ | exact rowS_no rfl rfl _ _ | exact insF_no (rowC0_no rfl) (fun _ _ => getD_no rfl) _ _ _ | ((try dsimp only); (repeat' split) <;> first | rfl | exact rowC0_no rfl _ _ | exact getD_no rfl | exact insF_no (rowC0_no rfl) (fun _ _ => getD_no rfl) _ _ _)), ?_⟩)⟩ hE hX rfl rfl) rfl rfl rfl (Nat.le_of_ble_eq_true rfl) ?_
              refine ARun.hleX ?_ ?_ hk
              · exact HeapLe.one rfl trivial
              · repeat (first | exact LkX.refl | refine LkX.cons (hX.none rfl) ?_ | refine LkX.filter (hX.none rfl) ?_)
            refine ADX.eff (tk := [4, 5, 6, 78, 501, 1000001]) (new := [6, 78]) (s := .one (.tre 78 (loF h x.name))) (F := [(91, .one (.tre 78 (loF h x.name))), (91, .one (.tre 501 (h.rows.length - 1))), (91, .one (.own 6 2 ((rowK h x).samples.length + 1)))]) (Hin := [(4, .arr 2 ((rowK h x).samples.length) (fun a b => ceSample ((rowK h x).samples.getD a (default : GSample)) b)), (5, .arr 2 1 (fun _ jc => ([.int .i64 x.at_, .int .i64 x.value] : List AV).getD jc (.con undef))), (501, .trees (h.rows.length - 1) (takeY h x)), (1000001, .arr 2 h.rows.length (rowS h (loF h x.name)))]) (Hout := [(5, .arr 2 1 (fun _ jc => ([.int .i64 x.at_, .int .i64 x.value] : List AV).getD jc (.con undef))), (78, .trees h.rows.length (rowX0 (takeH h x))), (1000001, .arr 2 h.rows.length (fun a b => if a = (loF h x.name) ∧ b = 1 then .tre 500 (loF h x.name) else rowC0 h 78 a b))]) (fun E X hE hX Q rest hk => ?_) ⟨rfl, rfl, rfl, rfl, trivial⟩ ⟨rfl, rfl⟩ rfl rfl rfl rfl ⟨(by repeat first | exact trivial | refine ⟨by decide, by first | rfl | exact trivial | (intro a_ b_; first | exact getD_no rfl | exact rowC0_no rfl _ _ | exact rowS_no rfl rfl _ _ | exact insF_no (rowC0_no rfl) (fun _ _ => getD_no rfl) _ _ _ | ((try dsimp only); (repeat' split) <;> first | rfl | exact rowC0_no rfl _ _ | exact getD_no rfl | exact insF_no (rowC0_no rfl) (fun _ _ => getD_no rfl) _ _ _)), ?_⟩), (by repeat first | exact trivial | refine ⟨by decide, by first | rfl | exact trivial | (intro a_ b_; first | exact getD_no rfl | exact rowC0_no rfl _ _ | exact rowS_no rfl rfl _ _ | exact insF_no (rowC0_no rfl) (fun _ _ => getD_no rfl) _ _ _ | ((try dsimp only); (repeat' split) <;> first | rfl | exact rowC0_no rfl _ _ | exact getD_no rfl | exact insF_no (rowC0_no rfl) (fun _ _ => getD_no rfl) _ _ _)), ?_⟩), trivial⟩ rfl (fun _ e => by cases e; exact Nat.le_of_ble_eq_true rfl) ?_
            · refine ARun.append (id := 6) (sz := 2) (n := (rowK h x).samples.length) (m := 1) (by_ := 16) (z := (.agg #[.int .i64 0, .int .i64 0])) (f := fun a b => ceSample ((rowK h x).samples.getD a (default : GSample)) b) (g := fun _ jc => ([.int .i64 x.at_, .int .i64 x.value] : List AV).getD jc (.con undef)) (h := fun ia ja => if ia < (rowK h x).samples.length then (fun a b => ceSample ((rowK h x).samples.getD a (default : GSample)) b : Nat → Nat → AV) ia ja else (fun _ jc => ([.int .i64 x.at_, .int .i64 x.value] : List AV).getD jc (.con undef) : Nat → Nat → AV) (ia - (rowK h x).samples.length) ja) rfl (by kernel_rfl) rfl vtk_sl_33 (.own (.tmp rfl) rfl rfl rfl (Nat.le_refl _) (fun _ _ _ _ => rfl)) (.own (.tmp rfl) rfl rfl (Nat.le_refl _) (fun _ _ _ _ => rfl)) (by decide) (fun i j hi hj => match j, hj with | 0, _ => rfl | 1, _ => rfl | _ + 2, h => absurd h (by omega)) (fun _ _ _ _ => rfl) (by omega) (by omega) (by repeat first | exact Fr.ext2 ⟨rfl, (by repeat first | exact trivial | refine ⟨by decide, by first | rfl | exact trivial | (intro a_ b_; first | exact getD_no rfl | exact rowC0_no rfl _ _ | exact rowS_no rfl rfl _ _ | exact insF_no (rowC0_no rfl) (fun _ _ => getD_no rfl) _ _ _ | ((try dsimp only); (repeat' split) <;> first | rfl | exact rowC0_no rfl _ _ | exact getD_no rfl | exact insF_no (rowC0_no rfl) (fun _ _ => getD_no rfl) _ _ _)), ?_⟩)⟩ hE hX rfl rfl | refine Fr.consE rfl ?_ | refine Fr.consH (by decide) (by first | rfl | exact trivial | (intro a_ b_; first | exact getD_no rfl | exact rowC0_no rfl _ _ | exact rowS_no rfl rfl _ _ | exact insF_no (rowC0_no rfl) (fun _ _ => getD_no rfl) _ _ _ | ((try dsimp only); (repeat' split) <;> first | rfl | exact rowC0_no rfl _ _ | exact getD_no rfl | exact insF_no (rowC0_no rfl) (fun _ _ => getD_no rfl) _ _ _))) ?_ | refine Fr.filt ?_) (fun i j => by dsimp only; (repeat' split) <;> first | rfl | exact getD_no rfl) rfl rfl (Nat.le_of_ble_eq_true rfl) ?_
              refine ARun.closeRow 91 6 501 (h.rows.length - 1) 2 ((rowK h x).samples.length + 1) (m' := (addS h x).length) (X := takeY h x) (g := fun a b => ceSample ((addS h x).getD a (default : GSample)) b) rfl rfl rfl rfl (Nat.le_refl _) rfl rfl (takeY_n h x) (by rw [addS_row hir, List.length_append]; rfl) (fun i j hi hj => (show (if i < (rowK h x).samples.length then _ else _) = _ from addS_cell hir hi hj)) (fun i j hi hj => match j, hj with | 0, _ => rfl | 1, _ => rfl | _ + 2, h => absurd h (by omega)) ?_
              refine ARun.reindexS 91 501 78 1000001 (h.rows.length - 1 + 1) h.rows.length 2 h.rows.length (loF h x.name) (pmI (h.rows.length - 1) (loF h x.name)) (takeY h x) (rowS h (loF h x.name)) (fun a b => if a = (loF h x.name) ∧ b = 1 then .tre 500 (loF h x.name) else rowC0 h 78 a b) (by rw [pmI_self]; rfl) (by omega) rfl rfl (pmI_lt' (by omega)) (pmI_inj' hlo) row_back (by repeat first | exact Fr.ext2 ⟨rfl, (by repeat first | exact trivial | refine ⟨by decide, by first | rfl | exact trivial | (intro a_ b_; first | exact getD_no rfl | exact rowC0_no rfl _ _ | exact rowS_no rfl rfl _ _ | exact insF_no (rowC0_no rfl) (fun _ _ => getD_no rfl) _ _ _ | ((try dsimp only); (repeat' split) <;> first | rfl | exact rowC0_no rfl _ _ | exact getD_no rfl | exact insF_no (rowC0_no rfl) (fun _ _ => getD_no rfl) _ _ _)), ?_⟩)⟩ hE hX rfl rfl | refine Fr.consE rfl ?_ | refine Fr.consH (by decide) (by first | rfl | exact trivial | (intro a_ b_; first | exact getD_no rfl | exact rowC0_no rfl _ _ | exact rowS_no rfl rfl _ _ | exact insF_no (rowC0_no rfl) (fun _ _ => getD_no rfl) _ _ _ | ((try dsimp only); (repeat' split) <;> first | rfl | exact rowC0_no rfl _ _ | exact getD_no rfl | exact insF_no (rowC0_no rfl) (fun _ _ => getD_no rfl) _ _ _))) ?_ | refine Fr.filt ?_) ?_
              refine ARun.hleX ?_ ?_ hk
              · exact ⟨HLe.refl rfl, ⟨_, rfl, fun q hq => rowX_row hir hcode hq⟩, HLe.refl rfl, trivial⟩
              · repeat (first | exact LkX.refl | refine LkX.cons (hX.none rfl) ?_ | refine LkX.filter (hX.none rfl) ?_)
            refine ADX.pure [] (PureOp.nilPtr rfl (.tmp rfl)) rfl rfl (Nat.le_of_ble_eq_true rfl) trivial rfl ?_
            refine ADX.pure [] (PureOp.fieldPtr rfl (.tmp rfl) vtk_fi_67_1_1) rfl rfl (Nat.le_of_ble_eq_true rfl) trivial rfl ?_
            refine ADX.eff (tk := [1000001]) (new := []) (s := .one (.con undef)) (F := []) (Hin := [(1000001, .arr 2 h.rows.length (fun a b => if a = (loF h x.name) ∧ b = 1 then .tre 500 (loF h x.name) else rowC0 h 78 a b))]) (Hout := [(1000001, .arr 2 h.rows.length (fun a b => if a = loF h x.name ∧ b = 1 then .tre 78 (loF h x.name) else (fun a b => if a = (loF h x.name) ∧ b = 1 then .tre 500 (loF h x.name) else rowC0 h 78 a b : Nat → Nat → AV) a b))]) (fun E X hE hX Q rest hk => ?_) ⟨rfl, trivial⟩ ⟨rfl, rfl⟩ rfl rfl rfl rfl trivial rfl (fun _ e => by cases e) ?_
            · refine ARun.storeArr rfl (.tmp rfl) (.tmp rfl) trivial rfl (show loF h x.name < h.rows.length from by omega) (Nat.le_of_ble_eq_true rfl) vtk_sz_33_1 rfl rfl ?_
              refine ARun.hleX ?_ ?_ hk
              · exact HeapLe.one rfl trivial
              · repeat (first | exact LkX.refl | refine LkX.cons (hX.none rfl) ?_ | refine LkX.filter (hX.none rfl) ?_)
            refine ADX.nil (H := [(0, .cells [.str x.name, .int .i64 x.at_, .int .i64 x.value]), (5, .arr 2 1 (fun _ jc => ([.int .i64 x.at_, .int .i64 x.value] : List AV).getD jc (.con undef))), (78, .trees h.rows.length (rowX0 (takeH h x))), (1000000, .cells [.own 1000001 2 h.rows.length, .int .i64 (h.offset + 1)]), (1000001, .arr 2 h.rows.length (fun a b => if a = loF h x.name ∧ b = 1 then .tre 78 (loF h x.name) else (fun a b => if a = (loF h x.name) ∧ b = 1 then .tre 500 (loF h x.name) else rowC0 h 78 a b : Nat → Nat → AV) a b))]) ?_ ?_
            · exact HeapLe.one rfl (HeapLe.one rfl (HeapLe.one rfl (HeapLe.one rfl (HeapLe.one rfl trivial))))
            refine AW.seq ?_
            refine AW.region ?_
            refine ARun.pure (PureOp.assign rfl .int) rfl rfl (Nat.le_of_ble_eq_true rfl) ?_
            refine ARun.nil ?_
            rw [tN_row hir, hcode]
            refine AW.moveCell 1000000 0 1000001 77 2 h.rows.length [.own 1000001 2 h.rows.length, .int .i64 (h.offset + 1)] [.own 77 2 h.rows.length, .int .i64 (h.offset + 1)] rfl rfl rfl rfl rfl (by decide) ⟨rfl, (by repeat first | exact trivial | refine ⟨by decide, by first | rfl | exact trivial | (intro a_ b_; first | exact getD_no rfl | exact rowC0_no rfl _ _ | exact rowS_no rfl rfl _ _ | exact insF_no (rowC0_no rfl) (fun _ _ => getD_no rfl) _ _ _ | ((try dsimp only); (repeat' split) <;> first | rfl | exact rowC0_no rfl _ _ | exact getD_no rfl | exact insF_no (rowC0_no rfl) (fun _ _ => getD_no rfl) _ _ _)), ?_⟩)⟩ ?_
            refine AW.ret (show ResL _ _ [.tmp 4] _ ∧ HeapLe _ _ from ⟨resI rfl ?_, ⟨⟨_, rfl, rfl, Nat.le_refl _, fun a b _ _ => rowC_row hir hcode 78 a b⟩, ⟨_, rfl, fun q hq => rfl⟩, HLe.refl rfl, trivial⟩⟩)
            rfl
    · have _u := True.intro
      replace hb4 := of_decide_eq_false hb4
      exact absurd hb4 (by omega)
      --end

theorem v_take (h : GHead) (x : GSay) (hg : goodHead ⟨h.rows, 0⟩ = true) (ho : 0 ≤ h.offset ∧ h.offset ≤ 1000000) : FnG Try.prog 60 [.one (.ptr 1000000 2 0 0), .agg [.str x.name, .int .i64 x.at_, .int .i64 x.value]] [(1000000, .cells [.own 1000001 2 h.rows.length, .int .i64 h.offset]), (1000001, .arr 2 h.rows.length (rowC0 h 1000002)), (1000002, .trees h.rows.length (rowX0 h))] (.one (.int .i64 ((takeCode h x : Nat) : Int))) [(77, .arr 2 (takeH h x).rows.length (rowC0 (takeH h x) 78)), (78, .trees (takeH h x).rows.length (rowX0 (takeH h x))), (1000000, .cells [.own 77 2 (takeH h x).rows.length, .int .i64 (takeH h x).offset])] := by
  have h1 := v_take0 h x hg ho
  rw [takeN_len h x] at h1
  exact h1
end Go.Proofs.Ytmfkmifkkplidaa


/-
  The reference's step (l13Take): what it makes of a head.
-/
namespace Go.Proofs.Ytmfkmifkkplidaa
open Go.ChangeShapes Go.WideShapes Go.ChangeAt Go.RowKit Go.BigFrame Go.Deep
set_option linter.unusedVariables false
set_option linter.unusedSimpArgs false
theorem vst_ag_29_2 : aggB Try.prog 29 2 = true := by kernel_rfl
theorem vst_ag_81_2 : aggB Try.prog 81 2 = true := by kernel_rfl
theorem vst_el_27_2 : elemB Try.prog 27 2 = true := by kernel_rfl
theorem vst_el_33_2 : elemB Try.prog 33 2 = true := by kernel_rfl
theorem vst_fi_29_0_0 : fieldB Try.prog 29 0 0 = true := by kernel_rfl
theorem vst_fi_29_1_1 : fieldB Try.prog 29 1 1 = true := by kernel_rfl
theorem vst_fi_47_0_0 : fieldB Try.prog 47 0 0 = true := by kernel_rfl
theorem vst_fi_47_1_1 : fieldB Try.prog 47 1 1 = true := by kernel_rfl
theorem vst_fi_47_2_2 : fieldB Try.prog 47 2 2 = true := by kernel_rfl
theorem vst_fi_67_0_0 : fieldB Try.prog 67 0 0 = true := by kernel_rfl
theorem vst_fi_67_1_1 : fieldB Try.prog 67 1 1 = true := by kernel_rfl
theorem vst_fi_81_0_0 : fieldB Try.prog 81 0 0 = true := by kernel_rfl
theorem vst_pl_27 : plainB Try.prog 27 = true := by kernel_rfl
theorem vst_pl_3 : plainB Try.prog 3 = true := by kernel_rfl
theorem vst_pl_33 : plainB Try.prog 33 = true := by kernel_rfl
theorem vst_pl_9 : plainB Try.prog 9 = true := by kernel_rfl
theorem vst_sl_27 : sliceB Try.prog 27 = true := by kernel_rfl
theorem vst_sl_33 : sliceB Try.prog 33 = true := by kernel_rfl
theorem vst_sz_27_1 : sizeB Try.prog 27 1 = true := by kernel_rfl
theorem vst_sz_29_2 : sizeB Try.prog 29 2 = true := by kernel_rfl
theorem vst_sz_33_1 : sizeB Try.prog 33 1 = true := by kernel_rfl
theorem vst_sz_3_1 : sizeB Try.prog 3 1 = true := by kernel_rfl
theorem vst_sz_81_2 : sizeB Try.prog 81 2 = true := by kernel_rfl
theorem cnd_t {a b : Bool} (h : cond a b false = true) : a = true ∧ b = true := by revert a b; decide
theorem cnd_f {a b : Bool} (h : cond a b false = false) (ha : a = true) : b = false := by revert a b; decide
theorem loF_unique {h : GHead} {s : ByteArray} {k : Nat} (hk : k ≤ h.rows.length) (h1 : ∀ j, j < k → cmpS (h.rows.getD j (default : GRow)).name s < 0) (h2 : k < h.rows.length → ¬ cmpS (h.rows.getD k (default : GRow)).name s < 0) : loF h s = k := by
  have hle := loF_le h s
  rcases Nat.lt_trichotomy (loF h s) k with h3 | h3 | h3
  · have h4 := loF_at (h := h) (s := s) (by omega)
    have := h1 _ h3
    omega
  · exact h3
  · exact absurd (loF_lt h3) (h2 (by omega))
theorem isRow_c (h : GHead) (s : ByteArray) : isRow h s = cond (decide (((loF h s : Nat) : Int) < ((h.rows.length : Nat) : Int))) (decide ((h.rows.getD (loF h s) (default : GRow)).name = s)) false := by
  unfold isRow
  by_cases h1 : loF h s < h.rows.length
  · rw [decide_eq_true h1, decide_eq_true (show ((loF h s : Nat) : Int) < ((h.rows.length : Nat) : Int) by omega)]; rfl
  · rw [decide_eq_false h1, decide_eq_false (show ¬ ((loF h s : Nat) : Int) < ((h.rows.length : Nat) : Int) by omega)]; rfl
theorem addS_cell1 {h : GHead} {x : GSay} (hir : isRow h x.name = false) {i j : Nat} (hi : i < 1) (hj : j < 2) : ([.int .i64 x.at_, .int .i64 x.value] : List AV).getD j (.con undef) = ceSample ((addS h x).getD i (default : GSample)) j := by
  obtain rfl : i = 0 := by omega
  rw [addS_ins hir]
  exact (match j, hj with | 0, _ => rfl | 1, _ => rfl | _ + 2, h => absurd h (by omega))
abbrev newT (h : GHead) (x : GSay) : Nat → Nat → AV := fun _ jc => ([.str x.name, .tre 500 h.rows.length] : List AV).getD jc (.con undef)
theorem newT_no {h : GHead} {x : GSay} {id : Nat} (h1 : (500 == id) = false) (a b : Nat) : (newT h x a b).no id = true := match b with
  | 0 => rfl
  | 1 => by show (!(500 == id)) = true; rw [h1]; rfl
  | _ + 2 => rfl
theorem row_insT {h : GHead} {x : GSay} (hir : isRow h x.name = false) (hc : takeCode h x = 1) : ∀ a b, a < h.rows.length + 1 → b < 2 → rowC0 (takeH h x) 78 a b = insF (rowC0 h 500) (newT h x) (loF h x.name) a b ∨ ∃ p, p < h.rows.length + 1 ∧ insF (rowC0 h 500) (newT h x) (loF h x.name) a b = .tre 500 (pmI h.rows.length (loF h x.name) p) ∧ rowC0 (takeH h x) 78 a b = .tre 78 p := fun a b ha hb => match b, hb with
  | 0, _ => by
    refine .inl ?_
    unfold insF
    show AV.str ((takeH h x).rows.getD a (default : GRow)).name = _
    rw [tR_ins hir hc, insL_at _ (loF_le h x.name)]
    split
    · rfl
    · split <;> rfl
  | 1, _ => by
    refine .inr ⟨a, ha, ?_, rfl⟩
    unfold insF pmI
    by_cases e : a < loF h x.name
    · rw [if_pos e, if_pos e]; rfl
    · rw [if_neg e, if_neg e]
      by_cases e2 : a = loF h x.name
      · rw [if_pos e2, if_pos e2]; rfl
      · rw [if_neg e2, if_neg e2]; rfl
  | _ + 2, h => absurd h (by omega)

theorem v_l13Take0 (h : GHead) (x : GSay) (hg : goodHead ⟨h.rows, 0⟩ = true) (ho : 0 ≤ h.offset ∧ h.offset ≤ 1000000) : FnG Try.prog 56 [.agg [.own 1000001 2 h.rows.length, .int .i64 h.offset], .agg [.str x.name, .int .i64 x.at_, .int .i64 x.value]] [(1000001, .arr 2 h.rows.length (rowC0 h 1000002)), (1000002, .trees h.rows.length (rowX0 h))] (.tup2 (.agg [.own 77 2 (takeN h x), .int .i64 (takeH h x).offset]) (.one (.int .i64 ((takeCode h x : Nat) : Int)))) [(77, .arr 2 (takeN h x) (rowC0 (takeH h x) 78)), (78, .trees (takeN h x) (rowX0 (takeH h x)))] := by
  obtain ⟨ho0, ho1⟩ := ho
  have hr8 : h.rows.length ≤ 8 := good_len (h := ⟨h.rows, 0⟩) hg
  refine FnG.of_body (fn := Try.f56) Try.func56 rfl (Nat.le_of_ble_eq_true rfl) ?_
  intro w0
  show AW _ 121 _ _ _ _
  refine AW.reindex 1000002 500 1000001 h.rows.length h.rows.length 2 h.rows.length id (rowX0 h) (rowC0 h 1000002) (rowC0 h 500) rfl rfl (fun _ hi => hi) (fun _ _ _ _ e => e) row_id ⟨rfl, (by repeat first | exact trivial | refine ⟨by decide, by first | rfl | exact trivial | (intro a_ b_; first | exact getD_no rfl | exact rowC0_no rfl _ _ | exact newT_no rfl _ _ | exact rowS_no rfl rfl _ _ | exact insF_no (rowC0_no rfl) (newT_no rfl) _ _ _ | ((try dsimp only); (repeat' split) <;> first | rfl | exact rowC0_no rfl _ _ | exact getD_no rfl | exact insF_no (rowC0_no rfl) (newT_no rfl) _ _ _)), ?_⟩)⟩ ?_
  refine AW.hle (H' := [(500, .trees h.rows.length (takeX h x)), (1000001, .arr 2 h.rows.length (rowC0 h 500))]) ⟨⟨_, rfl, fun _ hi => (takeX_lt hi).symm⟩, HeapLe.one rfl trivial⟩ ?_
  refine AW.seq ?_
  refine AW.region ?_
  refine ARun.box (id := 0) rfl (.tmp rfl) (SV.cells_of (by exact ⟨trivial, trivial, trivial⟩)) ⟨rfl, (by repeat first | exact trivial | refine ⟨by decide, by first | rfl | exact trivial | (intro a_ b_; first | exact getD_no rfl | exact rowC0_no rfl _ _ | exact newT_no rfl _ _ | exact rowS_no rfl rfl _ _ | exact insF_no (rowC0_no rfl) (newT_no rfl) _ _ _ | ((try dsimp only); (repeat' split) <;> first | rfl | exact rowC0_no rfl _ _ | exact getD_no rfl | exact insF_no (rowC0_no rfl) (newT_no rfl) _ _ _)), ?_⟩)⟩ rfl rfl rfl (Nat.le_of_ble_eq_true rfl) ?_
  refine ARun.box (id := 1) rfl (.tmp rfl) (SV.cells_of (by exact ⟨trivial, trivial, trivial, trivial⟩)) ⟨rfl, (by repeat first | exact trivial | refine ⟨by decide, by first | rfl | exact trivial | (intro a_ b_; first | exact getD_no rfl | exact rowC0_no rfl _ _ | exact newT_no rfl _ _ | exact rowS_no rfl rfl _ _ | exact insF_no (rowC0_no rfl) (newT_no rfl) _ _ _ | ((try dsimp only); (repeat' split) <;> first | rfl | exact rowC0_no rfl _ _ | exact getD_no rfl | exact insF_no (rowC0_no rfl) (newT_no rfl) _ _ _)), ?_⟩)⟩ rfl rfl rfl (Nat.le_of_ble_eq_true rfl) ?_
  refine ARun.alloc (id := 2) (l := [.con (.slice none 0 0), .int .i64 0]) (z := (.agg #[.slice none 0 0, .int .i64 0])) rfl (by kernel_rfl) (fun _ _ _ => ⟨_, _, rfl, rfl, ⟨_, _, rfl, rfl, rfl⟩⟩) ⟨rfl, (by repeat first | exact trivial | refine ⟨by decide, by first | rfl | exact trivial | (intro a_ b_; first | exact getD_no rfl | exact rowC0_no rfl _ _ | exact newT_no rfl _ _ | exact rowS_no rfl rfl _ _ | exact insF_no (rowC0_no rfl) (newT_no rfl) _ _ _ | ((try dsimp only); (repeat' split) <;> first | rfl | exact rowC0_no rfl _ _ | exact getD_no rfl | exact insF_no (rowC0_no rfl) (newT_no rfl) _ _ _)), ?_⟩)⟩ rfl rfl rfl (Nat.le_of_ble_eq_true rfl) ?_
  refine ARun.pure (PureOp.assign rfl .int) rfl rfl (Nat.le_of_ble_eq_true rfl) ?_
  refine ARun.nil ?_
  refine AW.seq ?_
  refine AW.region ?_
  refine ARun.pure (PureOp.fieldPtr rfl (.tmp rfl) vst_fi_29_1_1) rfl rfl (Nat.le_of_ble_eq_true rfl) ?_
  refine ARun.pure (PureOp.loadPtr rfl (.tmp rfl) vst_pl_3 rfl rfl (Nat.le_of_ble_eq_true rfl) (Nat.le_of_ble_eq_true rfl)) rfl rfl (Nat.le_of_ble_eq_true rfl) ?_
  refine ARun.pure (PureOp.add (c := h.offset + 1) rfl (.tmp rfl) .int (wrap_id (by omega) (by omega))) rfl rfl (Nat.le_of_ble_eq_true rfl) ?_
  refine ARun.pure (PureOp.fieldPtr rfl (.tmp rfl) vst_fi_29_1_1) rfl rfl (Nat.le_of_ble_eq_true rfl) ?_
  refine ARun.store rfl (.tmp rfl) (.tmp rfl) trivial rfl (Nat.le_of_ble_eq_true rfl) vst_sz_3_1 rfl rfl ?_
  refine ARun.nil ?_
  refine AW.seq ?_
  refine AW.region ?_
  refine ARun.pure (PureOp.assign rfl .int) rfl rfl (Nat.le_of_ble_eq_true rfl) ?_
  refine ARun.nil ?_
  refine AW.seq ?_
  refine AW.block ?_
  refine AW.loop (ι := Nat) (fun k => ⟨[(2, .one (.ptr 0 2 0 0)), (3, .one (.ptr 1 3 0 0)), (4, .one (.ptr 2 2 0 0)), (6, .one (.int .i64 (k : Int)))], [(0, .cells [.own 1000001 2 h.rows.length, .int .i64 (h.offset + 1)]), (1, .cells [.str x.name, .int .i64 x.at_, .int .i64 x.value]), (2, .cells [.con (.slice none 0 0), .int .i64 0]), (500, .trees h.rows.length (takeX h x)), (1000001, .arr 2 h.rows.length (rowC0 h 500))]⟩) (fun k => k ≤ h.rows.length ∧ ∀ j, j < k → cmpS (h.rows.getD j (default : GRow)).name x.name < 0) (fun k => h.rows.length - k) 0 ⟨Nat.zero_le _, fun j hj => absurd hj (by omega)⟩ ⟨⟨⟨_, rfl, rfl⟩, ⟨_, rfl, rfl⟩, ⟨_, rfl, rfl⟩, ⟨_, rfl, rfl⟩, trivial⟩, HeapLe.one rfl (HeapLe.one rfl (HeapLe.one rfl (HeapLe.one rfl (HeapLe.one rfl trivial))))⟩ ?_
  intro k hI
  obtain ⟨hk, hlt⟩ := hI
  refine AW.seq ?_
  refine AW.seq ?_
  refine AW.any (by kernel_rfl) (by kernel_rfl) ?_
  refine AD.pure (PureOp.move rfl (.tmp rfl)) rfl rfl (Nat.le_of_ble_eq_true rfl) ?_
  refine AD.pure (PureOp.fieldPtr rfl (.tmp rfl) vst_fi_29_0_0) rfl rfl (Nat.le_of_ble_eq_true rfl) ?_
  refine AD.pure (PureOp.loadPtr rfl (.tmp rfl) vst_pl_27 rfl rfl (Nat.le_of_ble_eq_true rfl) (Nat.le_of_ble_eq_true rfl)) rfl rfl (Nat.le_of_ble_eq_true rfl) ?_
  refine AD.pure (PureOp.lenOwn rfl (.tmp rfl) vst_sl_27) rfl rfl (Nat.le_of_ble_eq_true rfl) ?_
  refine AD.pure (PureOp.intOp rfl (.tmp rfl) (.tmp rfl) rfl) rfl rfl (Nat.le_of_ble_eq_true rfl) ?_
  refine AD.pure (PureOp.move rfl (.tmp rfl)) rfl rfl (Nat.le_of_ble_eq_true rfl) ?_
  refine AD.gpure (want := true) (.tt rfl) (fun hg1 => PureOp.fieldPtr rfl (.tmp rfl) vst_fi_29_0_0) rfl rfl rfl (Nat.le_of_ble_eq_true rfl) ?_
  refine AD.gpure (want := true) (.tt rfl) (fun hg2 => PureOp.loadPtr rfl (.gtmp rfl hg2) vst_pl_27 rfl rfl (Nat.le_of_ble_eq_true rfl) (Nat.le_of_ble_eq_true rfl)) rfl rfl rfl (Nat.le_of_ble_eq_true rfl) ?_
  refine AD.gpure (want := true) (.tt rfl) (fun hg3 => PureOp.move rfl (.tmp rfl)) rfl rfl rfl (Nat.le_of_ble_eq_true rfl) ?_
  refine AD.gpure (want := true) (.tt rfl) (fun hg4 => PureOp.indexOwn (i := k) rfl (.gtmp rfl hg4) vst_el_27_2 (.gtmp rfl hg4) rfl (by have q := hg4; simp only [Bool.cond_true_left, Bool.cond_false_right, Bool.not_eq_true', Bool.or_eq_false_iff, Bool.not_eq_false', Bool.and_eq_true, Bool.not_not, decide_eq_true_eq, decide_eq_false_iff_not, inB] at q; exact (show k < h.rows.length from by omega))) rfl rfl rfl (Nat.le_of_ble_eq_true rfl) ?_
  refine AD.gpure (want := true) (.tt rfl) (fun hg5 => PureOp.fieldPtr rfl (.gtmp rfl hg5) vst_fi_67_0_0) rfl rfl rfl (Nat.le_of_ble_eq_true rfl) ?_
  refine AD.gpure (want := true) (.tt rfl) (fun hg6 => PureOp.loadPtrE (y := .str ((h.rows.getD k (default : GRow)).name)) rfl (.gtmp rfl hg6) vst_pl_9 rfl rfl (by have q := hg6; simp only [Bool.cond_true_left, Bool.cond_false_right, Bool.not_eq_true', Bool.or_eq_false_iff, Bool.not_eq_false', Bool.and_eq_true, Bool.not_not, decide_eq_true_eq, decide_eq_false_iff_not, inB] at q; exact (show k < h.rows.length from by omega)) (Nat.le_of_ble_eq_true rfl) rfl) rfl rfl rfl (Nat.le_of_ble_eq_true rfl) ?_
  refine AD.gpure (want := true) (.tt rfl) (fun hg7 => PureOp.fieldPtr rfl (.tmp rfl) vst_fi_47_0_0) rfl rfl rfl (Nat.le_of_ble_eq_true rfl) ?_
  refine AD.gpure (want := true) (.tt rfl) (fun hg8 => PureOp.loadPtr rfl (.gtmp rfl hg8) vst_pl_9 rfl rfl (Nat.le_of_ble_eq_true rfl) (Nat.le_of_ble_eq_true rfl)) rfl rfl rfl (Nat.le_of_ble_eq_true rfl) ?_
  refine AD.gpure (want := true) (.tt rfl) (fun hg9 => PureOp.strOp rfl (.gtmp rfl hg9) (.gtmp rfl hg9) rfl) rfl rfl rfl (Nat.le_of_ble_eq_true rfl) ?_
  refine AD.pure (PureOp.pick rfl (.tmp rfl) (fun hp10 => .gtmp rfl hp10) (fun _ => .bool)) rfl rfl (Nat.le_of_ble_eq_true rfl) ?_
  refine AD.nil ?_
  refine AW.cond (.tmp rfl) (fun hb12 => ?_) (fun hb12 => ?_)
  · have _u := True.intro
    obtain ⟨hb1_, hb2_⟩ := cnd_t hb12
    have hkl : k < h.rows.length := by have := of_decide_eq_true hb1_; omega
    have hls := (cmpS_lt _ _).2 hb2_
    refine AW.skip ?_
    refine AW.block ?_
    refine AW.region ?_
    refine ARun.pure (PureOp.move rfl (.tmp rfl)) rfl rfl (Nat.le_of_ble_eq_true rfl) ?_
    refine ARun.pure (PureOp.add (c := ((k + 1 : Nat) : Int)) rfl (.tmp rfl) .int (by rw [wrap_id (by omega) (by omega)]; omega)) rfl rfl (Nat.le_of_ble_eq_true rfl) ?_
    refine ARun.pure (PureOp.assign rfl (.tmp rfl)) rfl rfl (Nat.le_of_ble_eq_true rfl) ?_
    refine ARun.nil ?_
    exact ⟨k + 1, ⟨by omega, fun j hj => (Nat.lt_succ_iff_lt_or_eq.1 hj).elim (hlt j) (fun e => e ▸ hls)⟩, by dsimp only; omega, ⟨⟨⟨_, rfl, rfl⟩, ⟨_, rfl, rfl⟩, ⟨_, rfl, rfl⟩, ⟨_, rfl, rfl⟩, trivial⟩, HeapLe.one rfl (HeapLe.one rfl (HeapLe.one rfl (HeapLe.one rfl (HeapLe.one rfl trivial))))⟩⟩
  · have _u := True.intro
    have hlk : loF h x.name = k := loF_unique hk hlt (fun hkn hc => by have := (cmpS_lt _ _).1 hc; rw [cnd_f hb12 (decide_eq_true (by omega))] at this; cases this)
    subst hlk
    have hlo := loF_le h x.name
    refine AW.exit ?_
    refine AW.seq ?_
    refine AW.region ?_
    refine ARun.pure (PureOp.fieldPtr rfl (.tmp rfl) vst_fi_47_1_1) rfl rfl (Nat.le_of_ble_eq_true rfl) ?_
    refine ARun.pure (PureOp.loadPtr rfl (.tmp rfl) vst_pl_3 rfl rfl (Nat.le_of_ble_eq_true rfl) (Nat.le_of_ble_eq_true rfl)) rfl rfl (Nat.le_of_ble_eq_true rfl) ?_
    refine ARun.pure (PureOp.fieldPtr rfl (.tmp rfl) vst_fi_47_2_2) rfl rfl (Nat.le_of_ble_eq_true rfl) ?_
    refine ARun.pure (PureOp.loadPtr rfl (.tmp rfl) vst_pl_3 rfl rfl (Nat.le_of_ble_eq_true rfl) (Nat.le_of_ble_eq_true rfl)) rfl rfl (Nat.le_of_ble_eq_true rfl) ?_
    refine ARun.pure (PureOp.build (ys := [.int .i64 x.at_, .int .i64 x.value]) (l := [.int .i64 0, .int .i64 0]) (pl := [(0, 1), (1, 1)]) (z := (.agg #[.int .i64 0, .int .i64 0])) rfl (by kernel_rfl) (by kernel_rfl) (fun _ _ _ => ⟨_, _, rfl, rfl, ⟨_, _, rfl, rfl, rfl⟩⟩) ⟨(.tmp rfl), trivial, rfl, ⟨(.tmp rfl), trivial, rfl, trivial⟩⟩ rfl) rfl rfl (Nat.le_of_ble_eq_true rfl) ?_
    refine ARun.alloc (id := 3) (l := [.int .i64 0, .int .i64 0]) (z := (.agg #[.int .i64 0, .int .i64 0])) rfl (by kernel_rfl) (fun _ _ _ => ⟨_, _, rfl, rfl, ⟨_, _, rfl, rfl, rfl⟩⟩) ⟨rfl, (by repeat first | exact trivial | refine ⟨by decide, by first | rfl | exact trivial | (intro a_ b_; first | exact getD_no rfl | exact rowC0_no rfl _ _ | exact newT_no rfl _ _ | exact rowS_no rfl rfl _ _ | exact insF_no (rowC0_no rfl) (newT_no rfl) _ _ _ | ((try dsimp only); (repeat' split) <;> first | rfl | exact rowC0_no rfl _ _ | exact getD_no rfl | exact insF_no (rowC0_no rfl) (newT_no rfl) _ _ _)), ?_⟩)⟩ rfl rfl rfl (Nat.le_of_ble_eq_true rfl) ?_
    refine ARun.store rfl (.tmp rfl) (.tmp rfl) (SV.cells_of (by exact ⟨trivial, trivial, trivial⟩)) rfl (Nat.le_of_ble_eq_true rfl) vst_sz_81_2 rfl rfl ?_
    refine ARun.nil ?_
    refine AW.seq ?_
    refine AW.seq ?_
    refine AW.any (by kernel_rfl) (by kernel_rfl) ?_
    refine AD.pure (PureOp.move rfl (.tmp rfl)) rfl rfl (Nat.le_of_ble_eq_true rfl) ?_
    refine AD.pure (PureOp.fieldPtr rfl (.tmp rfl) vst_fi_29_0_0) rfl rfl (Nat.le_of_ble_eq_true rfl) ?_
    refine AD.pure (PureOp.loadPtr rfl (.tmp rfl) vst_pl_27 rfl rfl (Nat.le_of_ble_eq_true rfl) (Nat.le_of_ble_eq_true rfl)) rfl rfl (Nat.le_of_ble_eq_true rfl) ?_
    refine AD.pure (PureOp.lenOwn rfl (.tmp rfl) vst_sl_27) rfl rfl (Nat.le_of_ble_eq_true rfl) ?_
    refine AD.pure (PureOp.intOp rfl (.tmp rfl) (.tmp rfl) rfl) rfl rfl (Nat.le_of_ble_eq_true rfl) ?_
    refine AD.pure (PureOp.move rfl (.tmp rfl)) rfl rfl (Nat.le_of_ble_eq_true rfl) ?_
    refine AD.gpure (want := true) (.tt rfl) (fun hg13 => PureOp.fieldPtr rfl (.tmp rfl) vst_fi_29_0_0) rfl rfl rfl (Nat.le_of_ble_eq_true rfl) ?_
    refine AD.gpure (want := true) (.tt rfl) (fun hg14 => PureOp.loadPtr rfl (.gtmp rfl hg14) vst_pl_27 rfl rfl (Nat.le_of_ble_eq_true rfl) (Nat.le_of_ble_eq_true rfl)) rfl rfl rfl (Nat.le_of_ble_eq_true rfl) ?_
    refine AD.gpure (want := true) (.tt rfl) (fun hg15 => PureOp.move rfl (.tmp rfl)) rfl rfl rfl (Nat.le_of_ble_eq_true rfl) ?_
    refine AD.gpure (want := true) (.tt rfl) (fun hg16 => PureOp.indexOwn (i := (loF h x.name)) rfl (.gtmp rfl hg16) vst_el_27_2 (.gtmp rfl hg16) rfl (by have q := hg16; simp only [Bool.cond_true_left, Bool.cond_false_right, Bool.not_eq_true', Bool.or_eq_false_iff, Bool.not_eq_false', Bool.and_eq_true, Bool.not_not, decide_eq_true_eq, decide_eq_false_iff_not, inB] at q; exact (show (loF h x.name) < h.rows.length from by omega))) rfl rfl rfl (Nat.le_of_ble_eq_true rfl) ?_
    refine AD.gpure (want := true) (.tt rfl) (fun hg17 => PureOp.fieldPtr rfl (.gtmp rfl hg17) vst_fi_67_0_0) rfl rfl rfl (Nat.le_of_ble_eq_true rfl) ?_
    refine AD.gpure (want := true) (.tt rfl) (fun hg18 => PureOp.loadPtrE (y := .str ((h.rows.getD (loF h x.name) (default : GRow)).name)) rfl (.gtmp rfl hg18) vst_pl_9 rfl rfl (by have q := hg18; simp only [Bool.cond_true_left, Bool.cond_false_right, Bool.not_eq_true', Bool.or_eq_false_iff, Bool.not_eq_false', Bool.and_eq_true, Bool.not_not, decide_eq_true_eq, decide_eq_false_iff_not, inB] at q; exact (show (loF h x.name) < h.rows.length from by omega)) (Nat.le_of_ble_eq_true rfl) rfl) rfl rfl rfl (Nat.le_of_ble_eq_true rfl) ?_
    refine AD.gpure (want := true) (.tt rfl) (fun hg19 => PureOp.fieldPtr rfl (.tmp rfl) vst_fi_47_0_0) rfl rfl rfl (Nat.le_of_ble_eq_true rfl) ?_
    refine AD.gpure (want := true) (.tt rfl) (fun hg20 => PureOp.loadPtr rfl (.gtmp rfl hg20) vst_pl_9 rfl rfl (Nat.le_of_ble_eq_true rfl) (Nat.le_of_ble_eq_true rfl)) rfl rfl rfl (Nat.le_of_ble_eq_true rfl) ?_
    refine AD.gpure (want := true) (.tt rfl) (fun hg21 => PureOp.strOp rfl (.gtmp rfl hg21) (.gtmp rfl hg21) rfl) rfl rfl rfl (Nat.le_of_ble_eq_true rfl) ?_
    refine AD.pure (PureOp.pick rfl (.tmp rfl) (fun hp22 => .gtmp rfl hp22) (fun _ => .bool)) rfl rfl (Nat.le_of_ble_eq_true rfl) ?_
    refine AD.nil ?_
    refine AW.cond (.tmp rfl) (fun hb24 => ?_) (fun hb24 => ?_)
    · have _u := True.intro
      have hir : isRow h x.name = true := (isRow_c h x.name).trans hb24
      replace hlo := row_lo hir
      have hgr := good_at (h := ⟨h.rows, 0⟩) hg hlo
      have hs1 := hgr.2.1
      have hs2 := smp_40 hgr.2.2
      replace hs1 : 0 < (rowK h x).samples.length := hs1
      replace hs2 : (rowK h x).samples.length ≤ 40 := hs2
      refine AW.seq ?_
      refine AW.region ?_
      refine ARun.pure (PureOp.fieldPtr rfl (.tmp rfl) vst_fi_29_0_0) rfl rfl (Nat.le_of_ble_eq_true rfl) ?_
      refine ARun.pure (PureOp.loadPtr rfl (.tmp rfl) vst_pl_27 rfl rfl (Nat.le_of_ble_eq_true rfl) (Nat.le_of_ble_eq_true rfl)) rfl rfl (Nat.le_of_ble_eq_true rfl) ?_
      refine ARun.pure (PureOp.move rfl (.tmp rfl)) rfl rfl (Nat.le_of_ble_eq_true rfl) ?_
      refine ARun.pure (PureOp.indexOwn (i := (loF h x.name)) rfl (.tmp rfl) vst_el_27_2 (.tmp rfl) rfl (by exact (show (loF h x.name) < h.rows.length from by omega))) rfl rfl (Nat.le_of_ble_eq_true rfl) ?_
      refine ARun.pure (PureOp.fieldPtr rfl (.tmp rfl) vst_fi_67_1_1) rfl rfl (Nat.le_of_ble_eq_true rfl) ?_
      refine ARun.pure (PureOp.loadPtrE (y := .tre 500 (loF h x.name)) rfl (.tmp rfl) vst_pl_33 rfl rfl (by exact (show (loF h x.name) < h.rows.length from by omega)) (Nat.le_of_ble_eq_true rfl) rfl) rfl rfl (Nat.le_of_ble_eq_true rfl) ?_
      refine ARun.pure (PureOp.assign rfl (.tmp rfl)) rfl rfl (Nat.le_of_ble_eq_true rfl) ?_
      refine ARun.nil ?_
      refine AW.seq ?_
      refine AW.region ?_
      refine ARun.pure (PureOp.move rfl (.tmp rfl)) rfl rfl (Nat.le_of_ble_eq_true rfl) ?_
      refine ARun.pure (PureOp.move rfl (.tmp rfl)) rfl rfl (Nat.le_of_ble_eq_true rfl) ?_
      refine ARun.pure (PureOp.lenTre (m := h.rows.length) (sz := 2) (n := (rowK h x).samples.length) (f := (fun a b => ceSample ((rowK h x).samples.getD a (default : GSample)) b)) rfl (.tmp rfl) rfl (by omega) ((takeX_lt (by omega)).trans rfl) vst_sl_33) rfl rfl (Nat.le_of_ble_eq_true rfl) ?_
      refine ARun.pure (PureOp.sub (c := (((rowK h x).samples.length - 1 : Nat) : Int)) rfl (.tmp rfl) .int (by rw [wrap_id (by omega) (by omega)]; omega)) rfl rfl (Nat.le_of_ble_eq_true rfl) ?_
      refine ARun.treeLoad (m := h.rows.length) (sz := 2) (n := (rowK h x).samples.length) (i := ((rowK h x).samples.length - 1)) (off := 0) (f := (fun a b => ceSample ((rowK h x).samples.getD a (default : GSample)) b)) (z := .int .i64 ((takeLast h x).at_)) rfl rfl rfl (.tmp rfl) rfl (by omega) ((takeX_lt (by omega)).trans rfl) vst_el_33_2 (.tmp rfl) rfl (by omega) vst_fi_81_0_0 (by decide) vst_pl_3 rfl rfl rfl rfl rfl rfl rfl rfl (Nat.le_of_ble_eq_true rfl) (Nat.le_of_ble_eq_true rfl) (Nat.le_of_ble_eq_true rfl) rfl rfl ?_
      refine ARun.pure (PureOp.assign rfl (.tmp rfl)) rfl rfl (Nat.le_of_ble_eq_true rfl) ?_
      refine ARun.nil ?_
      refine AW.seq ?_
      refine AW.block ?_
      refine AW.seq ?_
      refine AW.region ?_
      refine ARun.pure (PureOp.move rfl (.tmp rfl)) rfl rfl (Nat.le_of_ble_eq_true rfl) ?_
      refine ARun.pure (PureOp.fieldPtr rfl (.tmp rfl) vst_fi_47_1_1) rfl rfl (Nat.le_of_ble_eq_true rfl) ?_
      refine ARun.pure (PureOp.loadPtr rfl (.tmp rfl) vst_pl_3 rfl rfl (Nat.le_of_ble_eq_true rfl) (Nat.le_of_ble_eq_true rfl)) rfl rfl (Nat.le_of_ble_eq_true rfl) ?_
      refine ARun.pure (PureOp.intOp rfl (.tmp rfl) (.tmp rfl) rfl) rfl rfl (Nat.le_of_ble_eq_true rfl) ?_
      refine ARun.pure (PureOp.assign rfl (.tmp rfl)) rfl rfl (Nat.le_of_ble_eq_true rfl) ?_
      refine ARun.nil ?_
      refine AW.cond (.tmp rfl) (fun hb25 => ?_) (fun hb25 => ?_)
      · have _u := True.intro
        replace hb25 := of_decide_eq_true hb25
        have hcode := tk_again hir hb25
        have hcn : ¬ takeCode h x = 1 := by omega
        refine AW.seq ?_
        refine AW.region ?_
        refine ARun.pure (PureOp.loadPtrAgg rfl (.tmp rfl) vst_ag_29_2 rfl rfl (Nat.le_of_ble_eq_true rfl) (Nat.le_of_ble_eq_true rfl)) rfl rfl (Nat.le_of_ble_eq_true rfl) ?_
        refine ARun.store rfl (.tmp rfl) (.tmp rfl) (SV.cells_of (by exact ⟨trivial, trivial, trivial⟩)) rfl (Nat.le_of_ble_eq_true rfl) vst_sz_29_2 rfl rfl ?_
        refine ARun.pure (PureOp.assign rfl .int) rfl rfl (Nat.le_of_ble_eq_true rfl) ?_
        refine ARun.nil ?_
        rw [tN_old hcn, hcode]
        refine AW.moveCell 2 0 1000001 77 2 h.rows.length [.own 1000001 2 h.rows.length, .int .i64 (h.offset + 1)] [.own 77 2 h.rows.length, .int .i64 (h.offset + 1)] rfl rfl rfl rfl rfl (by decide) ⟨rfl, (by repeat first | exact trivial | refine ⟨by decide, by first | rfl | exact trivial | (intro a_ b_; first | exact getD_no rfl | exact rowC0_no rfl _ _ | exact newT_no rfl _ _ | exact rowS_no rfl rfl _ _ | exact insF_no (rowC0_no rfl) (newT_no rfl) _ _ _ | ((try dsimp only); (repeat' split) <;> first | rfl | exact rowC0_no rfl _ _ | exact getD_no rfl | exact insF_no (rowC0_no rfl) (newT_no rfl) _ _ _)), ?_⟩)⟩ ?_
        refine AW.reindex 500 78 77 h.rows.length h.rows.length 2 h.rows.length id (takeX h x) (rowC0 h 500) (rowC0 h 78) rfl rfl (fun _ hi => hi) (fun _ _ _ _ e => e) row_id ⟨rfl, (by repeat first | exact trivial | refine ⟨by decide, by first | rfl | exact trivial | (intro a_ b_; first | exact getD_no rfl | exact rowC0_no rfl _ _ | exact newT_no rfl _ _ | exact rowS_no rfl rfl _ _ | exact insF_no (rowC0_no rfl) (newT_no rfl) _ _ _ | ((try dsimp only); (repeat' split) <;> first | rfl | exact rowC0_no rfl _ _ | exact getD_no rfl | exact insF_no (rowC0_no rfl) (newT_no rfl) _ _ _)), ?_⟩)⟩ ?_
        exact AW.ret (show ResL _ _ [.cell 4 29, .tmp 5] _ ∧ HeapLe _ _ from ⟨.inr (.inl ⟨_, _, _, _, rfl, .cells rfl vst_ag_29_2 rfl rfl (Nat.le_of_ble_eq_true rfl) (Nat.le_of_ble_eq_true rfl), .tmp rfl, rfl⟩), ⟨⟨_, rfl, rfl, Nat.le_refl _, fun a b _ _ => rowC_old hcn 78 a b⟩, ⟨_, rfl, fun q hq => rowX_old hcn hq⟩, trivial⟩⟩)
      · have _u := True.intro
        replace hb25 := of_decide_eq_false hb25
        have hc1 := hb25
        refine AW.seq ?_
        refine AW.region ?_
        refine ARun.pure (PureOp.move rfl (.tmp rfl)) rfl rfl (Nat.le_of_ble_eq_true rfl) ?_
        refine ARun.pure (PureOp.fieldPtr rfl (.tmp rfl) vst_fi_47_1_1) rfl rfl (Nat.le_of_ble_eq_true rfl) ?_
        refine ARun.pure (PureOp.loadPtr rfl (.tmp rfl) vst_pl_3 rfl rfl (Nat.le_of_ble_eq_true rfl) (Nat.le_of_ble_eq_true rfl)) rfl rfl (Nat.le_of_ble_eq_true rfl) ?_
        refine ARun.pure (PureOp.intOp rfl (.tmp rfl) (.tmp rfl) rfl) rfl rfl (Nat.le_of_ble_eq_true rfl) ?_
        refine ARun.pure (PureOp.assign rfl (.tmp rfl)) rfl rfl (Nat.le_of_ble_eq_true rfl) ?_
        refine ARun.nil ?_
        refine AW.cond (.tmp rfl) (fun hb26 => ?_) (fun hb26 => ?_)
        · have _u := True.intro
          replace hb26 := of_decide_eq_true hb26
          have hcode := tk_late hir hc1 hb26
          have hcn : ¬ takeCode h x = 1 := by omega
          refine AW.seq ?_
          refine AW.region ?_
          refine ARun.pure (PureOp.loadPtrAgg rfl (.tmp rfl) vst_ag_29_2 rfl rfl (Nat.le_of_ble_eq_true rfl) (Nat.le_of_ble_eq_true rfl)) rfl rfl (Nat.le_of_ble_eq_true rfl) ?_
          refine ARun.store rfl (.tmp rfl) (.tmp rfl) (SV.cells_of (by exact ⟨trivial, trivial, trivial⟩)) rfl (Nat.le_of_ble_eq_true rfl) vst_sz_29_2 rfl rfl ?_
          refine ARun.pure (PureOp.assign rfl .int) rfl rfl (Nat.le_of_ble_eq_true rfl) ?_
          refine ARun.nil ?_
          rw [tN_old hcn, hcode]
          refine AW.moveCell 2 0 1000001 77 2 h.rows.length [.own 1000001 2 h.rows.length, .int .i64 (h.offset + 1)] [.own 77 2 h.rows.length, .int .i64 (h.offset + 1)] rfl rfl rfl rfl rfl (by decide) ⟨rfl, (by repeat first | exact trivial | refine ⟨by decide, by first | rfl | exact trivial | (intro a_ b_; first | exact getD_no rfl | exact rowC0_no rfl _ _ | exact newT_no rfl _ _ | exact rowS_no rfl rfl _ _ | exact insF_no (rowC0_no rfl) (newT_no rfl) _ _ _ | ((try dsimp only); (repeat' split) <;> first | rfl | exact rowC0_no rfl _ _ | exact getD_no rfl | exact insF_no (rowC0_no rfl) (newT_no rfl) _ _ _)), ?_⟩)⟩ ?_
          refine AW.reindex 500 78 77 h.rows.length h.rows.length 2 h.rows.length id (takeX h x) (rowC0 h 500) (rowC0 h 78) rfl rfl (fun _ hi => hi) (fun _ _ _ _ e => e) row_id ⟨rfl, (by repeat first | exact trivial | refine ⟨by decide, by first | rfl | exact trivial | (intro a_ b_; first | exact getD_no rfl | exact rowC0_no rfl _ _ | exact newT_no rfl _ _ | exact rowS_no rfl rfl _ _ | exact insF_no (rowC0_no rfl) (newT_no rfl) _ _ _ | ((try dsimp only); (repeat' split) <;> first | rfl | exact rowC0_no rfl _ _ | exact getD_no rfl | exact insF_no (rowC0_no rfl) (newT_no rfl) _ _ _)), ?_⟩)⟩ ?_
          exact AW.ret (show ResL _ _ [.cell 4 29, .tmp 5] _ ∧ HeapLe _ _ from ⟨.inr (.inl ⟨_, _, _, _, rfl, .cells rfl vst_ag_29_2 rfl rfl (Nat.le_of_ble_eq_true rfl) (Nat.le_of_ble_eq_true rfl), .tmp rfl, rfl⟩), ⟨⟨_, rfl, rfl, Nat.le_refl _, fun a b _ _ => rowC_old hcn 78 a b⟩, ⟨_, rfl, fun q hq => rowX_old hcn hq⟩, trivial⟩⟩)
        · have _u := True.intro
          replace hb26 := of_decide_eq_false hb26
          have hc2 := hb26
          refine AW.seq ?_
          refine AW.region ?_
          refine ARun.pure (PureOp.move rfl (.tmp rfl)) rfl rfl (Nat.le_of_ble_eq_true rfl) ?_
          refine ARun.pure (PureOp.lenTre (m := h.rows.length) (sz := 2) (n := (rowK h x).samples.length) (f := (fun a b => ceSample ((rowK h x).samples.getD a (default : GSample)) b)) rfl (.tmp rfl) rfl (by omega) ((takeX_lt (by omega)).trans rfl) vst_sl_33) rfl rfl (Nat.le_of_ble_eq_true rfl) ?_
          refine ARun.pure (PureOp.intOp rfl (.tmp rfl) .int rfl) rfl rfl (Nat.le_of_ble_eq_true rfl) ?_
          refine ARun.pure (PureOp.assign rfl (.tmp rfl)) rfl rfl (Nat.le_of_ble_eq_true rfl) ?_
          refine ARun.nil ?_
          refine AW.cond (.tmp rfl) (fun hb27 => ?_) (fun hb27 => ?_)
          · have _u := True.intro
            replace hb27 := of_decide_eq_true hb27
            have hcode := tk_full hir hc1 hc2 (show (rowK h x).samples.length = 40 from by omega)
            have hcn : ¬ takeCode h x = 1 := by omega
            refine AW.seq ?_
            refine AW.region ?_
            refine ARun.pure (PureOp.loadPtrAgg rfl (.tmp rfl) vst_ag_29_2 rfl rfl (Nat.le_of_ble_eq_true rfl) (Nat.le_of_ble_eq_true rfl)) rfl rfl (Nat.le_of_ble_eq_true rfl) ?_
            refine ARun.store rfl (.tmp rfl) (.tmp rfl) (SV.cells_of (by exact ⟨trivial, trivial, trivial⟩)) rfl (Nat.le_of_ble_eq_true rfl) vst_sz_29_2 rfl rfl ?_
            refine ARun.pure (PureOp.assign rfl .int) rfl rfl (Nat.le_of_ble_eq_true rfl) ?_
            refine ARun.nil ?_
            rw [tN_old hcn, hcode]
            refine AW.moveCell 2 0 1000001 77 2 h.rows.length [.own 1000001 2 h.rows.length, .int .i64 (h.offset + 1)] [.own 77 2 h.rows.length, .int .i64 (h.offset + 1)] rfl rfl rfl rfl rfl (by decide) ⟨rfl, (by repeat first | exact trivial | refine ⟨by decide, by first | rfl | exact trivial | (intro a_ b_; first | exact getD_no rfl | exact rowC0_no rfl _ _ | exact newT_no rfl _ _ | exact rowS_no rfl rfl _ _ | exact insF_no (rowC0_no rfl) (newT_no rfl) _ _ _ | ((try dsimp only); (repeat' split) <;> first | rfl | exact rowC0_no rfl _ _ | exact getD_no rfl | exact insF_no (rowC0_no rfl) (newT_no rfl) _ _ _)), ?_⟩)⟩ ?_
            refine AW.reindex 500 78 77 h.rows.length h.rows.length 2 h.rows.length id (takeX h x) (rowC0 h 500) (rowC0 h 78) rfl rfl (fun _ hi => hi) (fun _ _ _ _ e => e) row_id ⟨rfl, (by repeat first | exact trivial | refine ⟨by decide, by first | rfl | exact trivial | (intro a_ b_; first | exact getD_no rfl | exact rowC0_no rfl _ _ | exact newT_no rfl _ _ | exact rowS_no rfl rfl _ _ | exact insF_no (rowC0_no rfl) (newT_no rfl) _ _ _ | ((try dsimp only); (repeat' split) <;> first | rfl | exact rowC0_no rfl _ _ | exact getD_no rfl | exact insF_no (rowC0_no rfl) (newT_no rfl) _ _ _)), ?_⟩)⟩ ?_
            exact AW.ret (show ResL _ _ [.cell 4 29, .tmp 5] _ ∧ HeapLe _ _ from ⟨.inr (.inl ⟨_, _, _, _, rfl, .cells rfl vst_ag_29_2 rfl rfl (Nat.le_of_ble_eq_true rfl) (Nat.le_of_ble_eq_true rfl), .tmp rfl, rfl⟩), ⟨⟨_, rfl, rfl, Nat.le_refl _, fun a b _ _ => rowC_old hcn 78 a b⟩, ⟨_, rfl, fun q hq => rowX_old hcn hq⟩, trivial⟩⟩)
          · have _u := True.intro
            replace hb27 := of_decide_eq_false hb27
            have hcode := tk_new hir hc1 hc2 (show ¬ (rowK h x).samples.length = 40 from by omega)
            refine AW.skip ?_
            refine AW.seq ?_
            refine AW.anyX [⟨[], [], [], []⟩, ⟨[0], [], [], []⟩, ⟨[], [], [], []⟩, ⟨[], [4, 500, 501, 1000001], [4, 501], [(4, .arr 2 ((rowK h x).samples.length) (fun a b => ceSample ((rowK h x).samples.getD a (default : GSample)) b)), (501, .trees (h.rows.length - 1) (takeY h x)), (1000001, .arr 2 h.rows.length (rowS h (loF h x.name)))]⟩, ⟨[3], [], [], []⟩, ⟨[], [5], [5], [(5, .arr 2 1 (fun _ jc => ([.int .i64 x.at_, .int .i64 x.value] : List AV).getD jc (.con undef)))]⟩, ⟨[], [4, 5, 6, 78, 501, 1000001], [6, 78], [(5, .arr 2 1 (fun _ jc => ([.int .i64 x.at_, .int .i64 x.value] : List AV).getD jc (.con undef))), (78, .trees h.rows.length (rowX0 (takeH h x))), (1000001, .arr 2 h.rows.length (fun a b => if a = (loF h x.name) ∧ b = 1 then .tre 500 (loF h x.name) else rowC0 h 78 a b))]⟩, ⟨[], [], [], []⟩, ⟨[], [], [], []⟩, ⟨[], [1000001], [], [(1000001, .arr 2 h.rows.length (fun a b => if a = (loF h x.name) ∧ b = 1 then .tre 78 (loF h x.name) else (fun a b => if a = (loF h x.name) ∧ b = 1 then .tre 500 (loF h x.name) else rowC0 h 78 a b : Nat → Nat → AV) a b))]⟩] (by kernel_rfl) (by kernel_rfl) (by kernel_rfl) ⟨⟨.inl rfl, .inr (.inr trivial), .inr (.inr trivial), .inr (.inr (by repeat first | exact trivial | refine And.intro ?_ ?_ | exact rfl | ((intro a_ b_; first | exact getD_no rfl | exact rowC0_no rfl _ _ | exact newT_no rfl _ _ | exact rowS_no rfl rfl _ _ | exact insF_no (rowC0_no rfl) (newT_no rfl) _ _ _ | ((try dsimp only); (repeat' split) <;> first | rfl | exact rowC0_no rfl _ _ | exact getD_no rfl | exact insF_no (rowC0_no rfl) (newT_no rfl) _ _ _))))), .inr (.inr trivial), .inr (.inr (by repeat first | exact trivial | refine And.intro ?_ ?_ | exact rfl | ((intro a_ b_; first | exact getD_no rfl | exact rowC0_no rfl _ _ | exact newT_no rfl _ _ | exact rowS_no rfl rfl _ _ | exact insF_no (rowC0_no rfl) (newT_no rfl) _ _ _ | ((try dsimp only); (repeat' split) <;> first | rfl | exact rowC0_no rfl _ _ | exact getD_no rfl | exact insF_no (rowC0_no rfl) (newT_no rfl) _ _ _))))), .inr (.inr (by repeat first | exact trivial | refine And.intro ?_ ?_ | exact rfl | ((intro a_ b_; first | exact getD_no rfl | exact rowC0_no rfl _ _ | exact newT_no rfl _ _ | exact rowS_no rfl rfl _ _ | exact insF_no (rowC0_no rfl) (newT_no rfl) _ _ _ | ((try dsimp only); (repeat' split) <;> first | rfl | exact rowC0_no rfl _ _ | exact getD_no rfl | exact insF_no (rowC0_no rfl) (newT_no rfl) _ _ _))))), .inr (.inr trivial), .inr (.inr trivial), .inr (.inr trivial), trivial⟩, ⟨.inr (.inr trivial), .inl rfl, .inr (.inr trivial), .inr (.inr (by repeat first | exact trivial | refine And.intro ?_ ?_ | exact rfl | ((intro a_ b_; first | exact getD_no rfl | exact rowC0_no rfl _ _ | exact newT_no rfl _ _ | exact rowS_no rfl rfl _ _ | exact insF_no (rowC0_no rfl) (newT_no rfl) _ _ _ | ((try dsimp only); (repeat' split) <;> first | rfl | exact rowC0_no rfl _ _ | exact getD_no rfl | exact insF_no (rowC0_no rfl) (newT_no rfl) _ _ _))))), .inr (.inr trivial), .inr (.inr (by repeat first | exact trivial | refine And.intro ?_ ?_ | exact rfl | ((intro a_ b_; first | exact getD_no rfl | exact rowC0_no rfl _ _ | exact newT_no rfl _ _ | exact rowS_no rfl rfl _ _ | exact insF_no (rowC0_no rfl) (newT_no rfl) _ _ _ | ((try dsimp only); (repeat' split) <;> first | rfl | exact rowC0_no rfl _ _ | exact getD_no rfl | exact insF_no (rowC0_no rfl) (newT_no rfl) _ _ _))))), .inr (.inr (by repeat first | exact trivial | refine And.intro ?_ ?_ | exact rfl | ((intro a_ b_; first | exact getD_no rfl | exact rowC0_no rfl _ _ | exact newT_no rfl _ _ | exact rowS_no rfl rfl _ _ | exact insF_no (rowC0_no rfl) (newT_no rfl) _ _ _ | ((try dsimp only); (repeat' split) <;> first | rfl | exact rowC0_no rfl _ _ | exact getD_no rfl | exact insF_no (rowC0_no rfl) (newT_no rfl) _ _ _))))), .inr (.inr trivial), .inr (.inr trivial), .inr (.inr trivial), trivial⟩, ⟨.inr (.inr trivial), .inr (.inr trivial), .inl rfl, .inr (.inr (by repeat first | exact trivial | refine And.intro ?_ ?_ | exact rfl | ((intro a_ b_; first | exact getD_no rfl | exact rowC0_no rfl _ _ | exact newT_no rfl _ _ | exact rowS_no rfl rfl _ _ | exact insF_no (rowC0_no rfl) (newT_no rfl) _ _ _ | ((try dsimp only); (repeat' split) <;> first | rfl | exact rowC0_no rfl _ _ | exact getD_no rfl | exact insF_no (rowC0_no rfl) (newT_no rfl) _ _ _))))), .inr (.inr trivial), .inr (.inr (by repeat first | exact trivial | refine And.intro ?_ ?_ | exact rfl | ((intro a_ b_; first | exact getD_no rfl | exact rowC0_no rfl _ _ | exact newT_no rfl _ _ | exact rowS_no rfl rfl _ _ | exact insF_no (rowC0_no rfl) (newT_no rfl) _ _ _ | ((try dsimp only); (repeat' split) <;> first | rfl | exact rowC0_no rfl _ _ | exact getD_no rfl | exact insF_no (rowC0_no rfl) (newT_no rfl) _ _ _))))), .inr (.inr (by repeat first | exact trivial | refine And.intro ?_ ?_ | exact rfl | ((intro a_ b_; first | exact getD_no rfl | exact rowC0_no rfl _ _ | exact newT_no rfl _ _ | exact rowS_no rfl rfl _ _ | exact insF_no (rowC0_no rfl) (newT_no rfl) _ _ _ | ((try dsimp only); (repeat' split) <;> first | rfl | exact rowC0_no rfl _ _ | exact getD_no rfl | exact insF_no (rowC0_no rfl) (newT_no rfl) _ _ _))))), .inr (.inr trivial), .inr (.inr trivial), .inr (.inr trivial), trivial⟩, ⟨.inr (.inr trivial), .inr (.inr trivial), .inr (.inr trivial), .inl rfl, .inr (.inr trivial), .inr (.inr (by repeat first | exact trivial | refine And.intro ?_ ?_ | exact rfl | ((intro a_ b_; first | exact getD_no rfl | exact rowC0_no rfl _ _ | exact newT_no rfl _ _ | exact rowS_no rfl rfl _ _ | exact insF_no (rowC0_no rfl) (newT_no rfl) _ _ _ | ((try dsimp only); (repeat' split) <;> first | rfl | exact rowC0_no rfl _ _ | exact getD_no rfl | exact insF_no (rowC0_no rfl) (newT_no rfl) _ _ _))))), .inr (.inr (by repeat first | exact trivial | refine And.intro ?_ ?_ | exact rfl | ((intro a_ b_; first | exact getD_no rfl | exact rowC0_no rfl _ _ | exact newT_no rfl _ _ | exact rowS_no rfl rfl _ _ | exact insF_no (rowC0_no rfl) (newT_no rfl) _ _ _ | ((try dsimp only); (repeat' split) <;> first | rfl | exact rowC0_no rfl _ _ | exact getD_no rfl | exact insF_no (rowC0_no rfl) (newT_no rfl) _ _ _))))), .inr (.inr trivial), .inr (.inr trivial), .inr (.inr trivial), trivial⟩, ⟨.inr (.inr trivial), .inr (.inr trivial), .inr (.inr trivial), .inr (.inr (by repeat first | exact trivial | refine And.intro ?_ ?_ | exact rfl | ((intro a_ b_; first | exact getD_no rfl | exact rowC0_no rfl _ _ | exact newT_no rfl _ _ | exact rowS_no rfl rfl _ _ | exact insF_no (rowC0_no rfl) (newT_no rfl) _ _ _ | ((try dsimp only); (repeat' split) <;> first | rfl | exact rowC0_no rfl _ _ | exact getD_no rfl | exact insF_no (rowC0_no rfl) (newT_no rfl) _ _ _))))), .inl rfl, .inr (.inr (by repeat first | exact trivial | refine And.intro ?_ ?_ | exact rfl | ((intro a_ b_; first | exact getD_no rfl | exact rowC0_no rfl _ _ | exact newT_no rfl _ _ | exact rowS_no rfl rfl _ _ | exact insF_no (rowC0_no rfl) (newT_no rfl) _ _ _ | ((try dsimp only); (repeat' split) <;> first | rfl | exact rowC0_no rfl _ _ | exact getD_no rfl | exact insF_no (rowC0_no rfl) (newT_no rfl) _ _ _))))), .inr (.inr (by repeat first | exact trivial | refine And.intro ?_ ?_ | exact rfl | ((intro a_ b_; first | exact getD_no rfl | exact rowC0_no rfl _ _ | exact newT_no rfl _ _ | exact rowS_no rfl rfl _ _ | exact insF_no (rowC0_no rfl) (newT_no rfl) _ _ _ | ((try dsimp only); (repeat' split) <;> first | rfl | exact rowC0_no rfl _ _ | exact getD_no rfl | exact insF_no (rowC0_no rfl) (newT_no rfl) _ _ _))))), .inr (.inr trivial), .inr (.inr trivial), .inr (.inr trivial), trivial⟩, ⟨.inr (.inr trivial), .inr (.inr trivial), .inr (.inr trivial), .inr (.inr (by repeat first | exact trivial | refine And.intro ?_ ?_ | exact rfl | ((intro a_ b_; first | exact getD_no rfl | exact rowC0_no rfl _ _ | exact newT_no rfl _ _ | exact rowS_no rfl rfl _ _ | exact insF_no (rowC0_no rfl) (newT_no rfl) _ _ _ | ((try dsimp only); (repeat' split) <;> first | rfl | exact rowC0_no rfl _ _ | exact getD_no rfl | exact insF_no (rowC0_no rfl) (newT_no rfl) _ _ _))))), .inr (.inr trivial), .inl rfl, .inr (.inr (by repeat first | exact trivial | refine And.intro ?_ ?_ | exact rfl | ((intro a_ b_; first | exact getD_no rfl | exact rowC0_no rfl _ _ | exact newT_no rfl _ _ | exact rowS_no rfl rfl _ _ | exact insF_no (rowC0_no rfl) (newT_no rfl) _ _ _ | ((try dsimp only); (repeat' split) <;> first | rfl | exact rowC0_no rfl _ _ | exact getD_no rfl | exact insF_no (rowC0_no rfl) (newT_no rfl) _ _ _))))), .inr (.inr trivial), .inr (.inr trivial), .inr (.inr trivial), trivial⟩, ⟨.inr (.inr trivial), .inr (.inr trivial), .inr (.inr trivial), .inr (.inl (by kernel_rfl)), .inr (.inr trivial), .inr (.inl (by kernel_rfl)), .inl rfl, .inr (.inr trivial), .inr (.inr trivial), .inr (.inr trivial), trivial⟩, ⟨.inr (.inr trivial), .inr (.inr trivial), .inr (.inr trivial), .inr (.inl (by kernel_rfl)), .inr (.inr trivial), .inr (.inl (by kernel_rfl)), .inr (.inl (by kernel_rfl)), .inl rfl, .inr (.inr trivial), .inr (.inr trivial), trivial⟩, ⟨.inr (.inr trivial), .inr (.inr trivial), .inr (.inr trivial), .inr (.inl (by kernel_rfl)), .inr (.inr trivial), .inr (.inl (by kernel_rfl)), .inr (.inl (by kernel_rfl)), .inr (.inr trivial), .inl rfl, .inr (.inr trivial), trivial⟩, ⟨.inr (.inr trivial), .inr (.inr trivial), .inr (.inr trivial), .inr (.inl (by kernel_rfl)), .inr (.inr trivial), .inr (.inl (by kernel_rfl)), .inr (.inl (by kernel_rfl)), .inr (.inr trivial), .inr (.inr trivial), .inl rfl, trivial⟩, trivial⟩ ⟨trivial, trivial, trivial, ⟨(by repeat first | exact trivial | refine ⟨by decide, by first | rfl | exact trivial | (intro a_ b_; first | exact getD_no rfl | exact rowC0_no rfl _ _ | exact newT_no rfl _ _ | exact rowS_no rfl rfl _ _ | exact insF_no (rowC0_no rfl) (newT_no rfl) _ _ _ | ((try dsimp only); (repeat' split) <;> first | rfl | exact rowC0_no rfl _ _ | exact getD_no rfl | exact insF_no (rowC0_no rfl) (newT_no rfl) _ _ _)), ?_⟩), (by repeat first | exact trivial | refine ⟨by decide, by first | rfl | exact trivial | (intro a_ b_; first | exact getD_no rfl | exact rowC0_no rfl _ _ | exact newT_no rfl _ _ | exact rowS_no rfl rfl _ _ | exact insF_no (rowC0_no rfl) (newT_no rfl) _ _ _ | ((try dsimp only); (repeat' split) <;> first | rfl | exact rowC0_no rfl _ _ | exact getD_no rfl | exact insF_no (rowC0_no rfl) (newT_no rfl) _ _ _)), ?_⟩), trivial⟩, trivial, ⟨(by repeat first | exact trivial | refine ⟨by decide, by first | rfl | exact trivial | (intro a_ b_; first | exact getD_no rfl | exact rowC0_no rfl _ _ | exact newT_no rfl _ _ | exact rowS_no rfl rfl _ _ | exact insF_no (rowC0_no rfl) (newT_no rfl) _ _ _ | ((try dsimp only); (repeat' split) <;> first | rfl | exact rowC0_no rfl _ _ | exact getD_no rfl | exact insF_no (rowC0_no rfl) (newT_no rfl) _ _ _)), ?_⟩), trivial⟩, ⟨(by repeat first | exact trivial | refine ⟨by decide, by first | rfl | exact trivial | (intro a_ b_; first | exact getD_no rfl | exact rowC0_no rfl _ _ | exact newT_no rfl _ _ | exact rowS_no rfl rfl _ _ | exact insF_no (rowC0_no rfl) (newT_no rfl) _ _ _ | ((try dsimp only); (repeat' split) <;> first | rfl | exact rowC0_no rfl _ _ | exact getD_no rfl | exact insF_no (rowC0_no rfl) (newT_no rfl) _ _ _)), ?_⟩), (by repeat first | exact trivial | refine ⟨by decide, by first | rfl | exact trivial | (intro a_ b_; first | exact getD_no rfl | exact rowC0_no rfl _ _ | exact newT_no rfl _ _ | exact rowS_no rfl rfl _ _ | exact insF_no (rowC0_no rfl) (newT_no rfl) _ _ _ | ((try dsimp only); (repeat' split) <;> first | rfl | exact rowC0_no rfl _ _ | exact getD_no rfl | exact insF_no (rowC0_no rfl) (newT_no rfl) _ _ _)), ?_⟩), trivial⟩, trivial, trivial, trivial, trivial⟩ ?_
            refine ADX.pure [] (PureOp.fieldPtr rfl (.tmp rfl) vst_fi_29_0_0) rfl rfl (Nat.le_of_ble_eq_true rfl) trivial rfl ?_
            refine ADX.pure [(0, .cells [.own 1000001 2 h.rows.length, .int .i64 (h.offset + 1)])] (PureOp.loadPtr rfl (.tmp rfl) vst_pl_27 rfl rfl (Nat.le_of_ble_eq_true rfl) (Nat.le_of_ble_eq_true rfl)) rfl rfl (Nat.le_of_ble_eq_true rfl) ⟨rfl, trivial⟩ rfl ?_
            refine ADX.pure [] (PureOp.move rfl (.tmp rfl)) rfl rfl (Nat.le_of_ble_eq_true rfl) trivial rfl ?_
            refine ADX.eff (tk := [4, 500, 501, 1000001]) (new := [4, 501]) (s := .one (.own 4 2 ((rowK h x).samples.length))) (F := [(87, .one (.own 4 2 ((rowK h x).samples.length))), (87, .one (.tre 500 (loF h x.name)))]) (Hin := [(500, .trees h.rows.length (takeX h x)), (1000001, .arr 2 h.rows.length (rowC0 h 500))]) (Hout := [(4, .arr 2 ((rowK h x).samples.length) (fun a b => ceSample ((rowK h x).samples.getD a (default : GSample)) b)), (501, .trees (h.rows.length - 1) (takeY h x)), (1000001, .arr 2 h.rows.length (rowS h (loF h x.name)))]) (fun E X hE hX Q rest hk => ?_) ⟨rfl, rfl, trivial⟩ ⟨rfl, rfl⟩ rfl rfl rfl rfl ⟨(by repeat first | exact trivial | refine ⟨by decide, by first | rfl | exact trivial | (intro a_ b_; first | exact getD_no rfl | exact rowC0_no rfl _ _ | exact newT_no rfl _ _ | exact rowS_no rfl rfl _ _ | exact insF_no (rowC0_no rfl) (newT_no rfl) _ _ _ | ((try dsimp only); (repeat' split) <;> first | rfl | exact rowC0_no rfl _ _ | exact getD_no rfl | exact insF_no (rowC0_no rfl) (newT_no rfl) _ _ _)), ?_⟩), (by repeat first | exact trivial | refine ⟨by decide, by first | rfl | exact trivial | (intro a_ b_; first | exact getD_no rfl | exact rowC0_no rfl _ _ | exact newT_no rfl _ _ | exact rowS_no rfl rfl _ _ | exact insF_no (rowC0_no rfl) (newT_no rfl) _ _ _ | ((try dsimp only); (repeat' split) <;> first | rfl | exact rowC0_no rfl _ _ | exact getD_no rfl | exact insF_no (rowC0_no rfl) (newT_no rfl) _ _ _)), ?_⟩), trivial⟩ rfl (fun _ e => by cases e; exact Nat.le_of_ble_eq_true rfl) ?_
            · refine ARun.pure (PureOp.move rfl (.tmp rfl)) rfl rfl (Nat.le_of_ble_eq_true rfl) ?_
              refine ARun.takeOut 87 500 (loF h x.name) h.rows.length 2 (rowK h x).samples.length 4 (takeX h x) (fun a b => ceSample ((rowK h x).samples.getD a (default : GSample)) b) rfl rfl (by omega) ((takeX_lt (by omega)).trans rfl) rfl (fun i j hi hj => match j, hj with | 0, _ => rfl | 1, _ => rfl | _ + 2, h => absurd h (by omega)) (fun _ _ => getD_no rfl) (by repeat first | exact Fr.ext2 ⟨rfl, (by repeat first | exact trivial | refine ⟨by decide, by first | rfl | exact trivial | (intro a_ b_; first | exact getD_no rfl | exact rowC0_no rfl _ _ | exact newT_no rfl _ _ | exact rowS_no rfl rfl _ _ | exact insF_no (rowC0_no rfl) (newT_no rfl) _ _ _ | ((try dsimp only); (repeat' split) <;> first | rfl | exact rowC0_no rfl _ _ | exact getD_no rfl | exact insF_no (rowC0_no rfl) (newT_no rfl) _ _ _)), ?_⟩)⟩ hE hX rfl rfl | refine Fr.consE rfl ?_ | refine Fr.consH (by decide) (by first | rfl | exact trivial | (intro a_ b_; first | exact getD_no rfl | exact rowC0_no rfl _ _ | exact newT_no rfl _ _ | exact rowS_no rfl rfl _ _ | exact insF_no (rowC0_no rfl) (newT_no rfl) _ _ _ | ((try dsimp only); (repeat' split) <;> first | rfl | exact rowC0_no rfl _ _ | exact getD_no rfl | exact insF_no (rowC0_no rfl) (newT_no rfl) _ _ _))) ?_ | refine Fr.filt ?_) (fun vv => ?_)
              refine ARun.reindex 500 501 1000001 h.rows.length (h.rows.length - 1) 2 h.rows.length (skP (loF h x.name)) (fun i => if i = (loF h x.name) then .con vv else takeX h x i) (rowC0 h 500) (rowS h (loF h x.name)) rfl rfl (skP_lt hlo) skP_inj (row_skip hlo) (by repeat first | exact Fr.ext2 ⟨rfl, (by repeat first | exact trivial | refine ⟨by decide, by first | rfl | exact trivial | (intro a_ b_; first | exact getD_no rfl | exact rowC0_no rfl _ _ | exact newT_no rfl _ _ | exact rowS_no rfl rfl _ _ | exact insF_no (rowC0_no rfl) (newT_no rfl) _ _ _ | ((try dsimp only); (repeat' split) <;> first | rfl | exact rowC0_no rfl _ _ | exact getD_no rfl | exact insF_no (rowC0_no rfl) (newT_no rfl) _ _ _)), ?_⟩)⟩ hE hX rfl rfl | refine Fr.consE rfl ?_ | refine Fr.consH (by decide) (by first | rfl | exact trivial | (intro a_ b_; first | exact getD_no rfl | exact rowC0_no rfl _ _ | exact newT_no rfl _ _ | exact rowS_no rfl rfl _ _ | exact insF_no (rowC0_no rfl) (newT_no rfl) _ _ _ | ((try dsimp only); (repeat' split) <;> first | rfl | exact rowC0_no rfl _ _ | exact getD_no rfl | exact insF_no (rowC0_no rfl) (newT_no rfl) _ _ _))) ?_ | refine Fr.filt ?_) ?_
              refine ARun.hleX ?_ ?_ hk
              · exact ⟨HLe.refl rfl, ⟨_, rfl, fun q hq => takeY_hole hq⟩, HLe.refl rfl, trivial⟩
              · repeat (first | exact LkX.refl | refine LkX.cons (hX.none rfl) ?_ | refine LkX.filter (hX.none rfl) ?_)
            refine ADX.pure [(3, .cells [.int .i64 x.at_, .int .i64 x.value])] (PureOp.loadPtrAgg rfl (.tmp rfl) vst_ag_81_2 rfl rfl (Nat.le_of_ble_eq_true rfl) (Nat.le_of_ble_eq_true rfl)) rfl rfl (Nat.le_of_ble_eq_true rfl) ⟨rfl, trivial⟩ rfl ?_
            refine ADX.eff (tk := [5]) (new := [5]) (s := .one (.own 5 2 1)) (F := [(89, .one (.own 5 2 1))]) (Hin := []) (Hout := [(5, .arr 2 1 (fun _ jc => ([.int .i64 x.at_, .int .i64 x.value] : List AV).getD jc (.con undef)))]) (fun E X hE hX Q rest hk => ?_) trivial ⟨rfl, rfl⟩ rfl rfl rfl rfl ⟨(by repeat first | exact trivial | refine ⟨by decide, by first | rfl | exact trivial | (intro a_ b_; first | exact getD_no rfl | exact rowC0_no rfl _ _ | exact newT_no rfl _ _ | exact rowS_no rfl rfl _ _ | exact insF_no (rowC0_no rfl) (newT_no rfl) _ _ _ | ((try dsimp only); (repeat' split) <;> first | rfl | exact rowC0_no rfl _ _ | exact getD_no rfl | exact insF_no (rowC0_no rfl) (newT_no rfl) _ _ _)), ?_⟩), trivial⟩ rfl (fun _ e => by cases e; exact Nat.le_of_ble_eq_true rfl) ?_
            · refine ARun.slice1 (id := 5) (z := (.agg #[.int .i64 0, .int .i64 0])) (by_ := 16) rfl (.tmp rfl) (SV.cells_of (by exact ⟨trivial, trivial, trivial⟩)) (by kernel_rfl) rfl rfl (by decide) (by decide) (Fr.ext2 ⟨rfl, (by repeat first | exact trivial | refine ⟨by decide, by first | rfl | exact trivial | (intro a_ b_; first | exact getD_no rfl | exact rowC0_no rfl _ _ | exact newT_no rfl _ _ | exact rowS_no rfl rfl _ _ | exact insF_no (rowC0_no rfl) (newT_no rfl) _ _ _ | ((try dsimp only); (repeat' split) <;> first | rfl | exact rowC0_no rfl _ _ | exact getD_no rfl | exact insF_no (rowC0_no rfl) (newT_no rfl) _ _ _)), ?_⟩)⟩ hE hX rfl rfl) rfl rfl rfl (Nat.le_of_ble_eq_true rfl) ?_
              refine ARun.hleX ?_ ?_ hk
              · exact HeapLe.one rfl trivial
              · repeat (first | exact LkX.refl | refine LkX.cons (hX.none rfl) ?_ | refine LkX.filter (hX.none rfl) ?_)
            refine ADX.eff (tk := [4, 5, 6, 78, 501, 1000001]) (new := [6, 78]) (s := .one (.tre 78 (loF h x.name))) (F := [(90, .one (.tre 78 (loF h x.name))), (90, .one (.tre 501 (h.rows.length - 1))), (90, .one (.own 6 2 ((rowK h x).samples.length + 1)))]) (Hin := [(4, .arr 2 ((rowK h x).samples.length) (fun a b => ceSample ((rowK h x).samples.getD a (default : GSample)) b)), (5, .arr 2 1 (fun _ jc => ([.int .i64 x.at_, .int .i64 x.value] : List AV).getD jc (.con undef))), (501, .trees (h.rows.length - 1) (takeY h x)), (1000001, .arr 2 h.rows.length (rowS h (loF h x.name)))]) (Hout := [(5, .arr 2 1 (fun _ jc => ([.int .i64 x.at_, .int .i64 x.value] : List AV).getD jc (.con undef))), (78, .trees h.rows.length (rowX0 (takeH h x))), (1000001, .arr 2 h.rows.length (fun a b => if a = (loF h x.name) ∧ b = 1 then .tre 500 (loF h x.name) else rowC0 h 78 a b))]) (fun E X hE hX Q rest hk => ?_) ⟨rfl, rfl, rfl, rfl, trivial⟩ ⟨rfl, rfl⟩ rfl rfl rfl rfl ⟨(by repeat first | exact trivial | refine ⟨by decide, by first | rfl | exact trivial | (intro a_ b_; first | exact getD_no rfl | exact rowC0_no rfl _ _ | exact newT_no rfl _ _ | exact rowS_no rfl rfl _ _ | exact insF_no (rowC0_no rfl) (newT_no rfl) _ _ _ | ((try dsimp only); (repeat' split) <;> first | rfl | exact rowC0_no rfl _ _ | exact getD_no rfl | exact insF_no (rowC0_no rfl) (newT_no rfl) _ _ _)), ?_⟩), (by repeat first | exact trivial | refine ⟨by decide, by first | rfl | exact trivial | (intro a_ b_; first | exact getD_no rfl | exact rowC0_no rfl _ _ | exact newT_no rfl _ _ | exact rowS_no rfl rfl _ _ | exact insF_no (rowC0_no rfl) (newT_no rfl) _ _ _ | ((try dsimp only); (repeat' split) <;> first | rfl | exact rowC0_no rfl _ _ | exact getD_no rfl | exact insF_no (rowC0_no rfl) (newT_no rfl) _ _ _)), ?_⟩), trivial⟩ rfl (fun _ e => by cases e; exact Nat.le_of_ble_eq_true rfl) ?_
            · refine ARun.append (id := 6) (sz := 2) (n := (rowK h x).samples.length) (m := 1) (by_ := 16) (z := (.agg #[.int .i64 0, .int .i64 0])) (f := fun a b => ceSample ((rowK h x).samples.getD a (default : GSample)) b) (g := fun _ jc => ([.int .i64 x.at_, .int .i64 x.value] : List AV).getD jc (.con undef)) (h := fun ia ja => if ia < (rowK h x).samples.length then (fun a b => ceSample ((rowK h x).samples.getD a (default : GSample)) b : Nat → Nat → AV) ia ja else (fun _ jc => ([.int .i64 x.at_, .int .i64 x.value] : List AV).getD jc (.con undef) : Nat → Nat → AV) (ia - (rowK h x).samples.length) ja) rfl (by kernel_rfl) rfl vst_sl_33 (.own (.tmp rfl) rfl rfl rfl (Nat.le_refl _) (fun _ _ _ _ => rfl)) (.own (.tmp rfl) rfl rfl (show 1 ≤ 1 from by omega) (fun _ _ _ _ => rfl)) (by decide) (fun i j hi hj => match j, hj with | 0, _ => rfl | 1, _ => rfl | _ + 2, h => absurd h (by omega)) (fun _ _ _ _ => rfl) (by omega) (by omega) (by repeat first | exact Fr.ext2 ⟨rfl, (by repeat first | exact trivial | refine ⟨by decide, by first | rfl | exact trivial | (intro a_ b_; first | exact getD_no rfl | exact rowC0_no rfl _ _ | exact newT_no rfl _ _ | exact rowS_no rfl rfl _ _ | exact insF_no (rowC0_no rfl) (newT_no rfl) _ _ _ | ((try dsimp only); (repeat' split) <;> first | rfl | exact rowC0_no rfl _ _ | exact getD_no rfl | exact insF_no (rowC0_no rfl) (newT_no rfl) _ _ _)), ?_⟩)⟩ hE hX rfl rfl | refine Fr.consE rfl ?_ | refine Fr.consH (by decide) (by first | rfl | exact trivial | (intro a_ b_; first | exact getD_no rfl | exact rowC0_no rfl _ _ | exact newT_no rfl _ _ | exact rowS_no rfl rfl _ _ | exact insF_no (rowC0_no rfl) (newT_no rfl) _ _ _ | ((try dsimp only); (repeat' split) <;> first | rfl | exact rowC0_no rfl _ _ | exact getD_no rfl | exact insF_no (rowC0_no rfl) (newT_no rfl) _ _ _))) ?_ | refine Fr.filt ?_) (fun a_ b_ => by (try dsimp only); (repeat' split) <;> first | rfl | exact rowC0_no rfl _ _ | exact getD_no rfl) rfl rfl (Nat.le_of_ble_eq_true rfl) ?_
              refine ARun.closeRow 90 6 501 (h.rows.length - 1) 2 ((rowK h x).samples.length + 1) (m' := (addS h x).length) (X := takeY h x) (g := fun a b => ceSample ((addS h x).getD a (default : GSample)) b) rfl rfl rfl rfl (Nat.le_refl _) rfl rfl (takeY_n h x) (by rw [addS_row hir, List.length_append]; rfl) (fun i j hi hj => (show (if i < (rowK h x).samples.length then _ else _) = _ from addS_cell hir hi hj)) (fun i j hi hj => match j, hj with | 0, _ => rfl | 1, _ => rfl | _ + 2, h => absurd h (by omega)) ?_
              refine ARun.reindexS 90 501 78 1000001 (h.rows.length - 1 + 1) h.rows.length 2 h.rows.length (loF h x.name) (pmI (h.rows.length - 1) (loF h x.name)) (takeY h x) (rowS h (loF h x.name)) (fun a b => if a = (loF h x.name) ∧ b = 1 then .tre 500 (loF h x.name) else rowC0 h 78 a b) (by rw [pmI_self]; rfl) (by omega) rfl rfl (pmI_lt' (by omega)) (pmI_inj' hlo) row_back (by repeat first | exact Fr.ext2 ⟨rfl, (by repeat first | exact trivial | refine ⟨by decide, by first | rfl | exact trivial | (intro a_ b_; first | exact getD_no rfl | exact rowC0_no rfl _ _ | exact newT_no rfl _ _ | exact rowS_no rfl rfl _ _ | exact insF_no (rowC0_no rfl) (newT_no rfl) _ _ _ | ((try dsimp only); (repeat' split) <;> first | rfl | exact rowC0_no rfl _ _ | exact getD_no rfl | exact insF_no (rowC0_no rfl) (newT_no rfl) _ _ _)), ?_⟩)⟩ hE hX rfl rfl | refine Fr.consE rfl ?_ | refine Fr.consH (by decide) (by first | rfl | exact trivial | (intro a_ b_; first | exact getD_no rfl | exact rowC0_no rfl _ _ | exact newT_no rfl _ _ | exact rowS_no rfl rfl _ _ | exact insF_no (rowC0_no rfl) (newT_no rfl) _ _ _ | ((try dsimp only); (repeat' split) <;> first | rfl | exact rowC0_no rfl _ _ | exact getD_no rfl | exact insF_no (rowC0_no rfl) (newT_no rfl) _ _ _))) ?_ | refine Fr.filt ?_) ?_
              refine ARun.hleX ?_ ?_ hk
              · exact ⟨HLe.refl rfl, ⟨_, rfl, fun q hq => rowX_row hir hcode hq⟩, HLe.refl rfl, trivial⟩
              · repeat (first | exact LkX.refl | refine LkX.cons (hX.none rfl) ?_ | refine LkX.filter (hX.none rfl) ?_)
            refine ADX.pure [] (PureOp.indexOwn (i := (loF h x.name)) rfl (.tmp rfl) vst_el_27_2 (.tmp rfl) rfl (by exact (show (loF h x.name) < h.rows.length from by omega))) rfl rfl (Nat.le_of_ble_eq_true rfl) trivial rfl ?_
            refine ADX.pure [] (PureOp.fieldPtr rfl (.tmp rfl) vst_fi_67_1_1) rfl rfl (Nat.le_of_ble_eq_true rfl) trivial rfl ?_
            refine ADX.eff (tk := [1000001]) (new := []) (s := .one (.con undef)) (F := []) (Hin := [(1000001, .arr 2 h.rows.length (fun a b => if a = (loF h x.name) ∧ b = 1 then .tre 500 (loF h x.name) else rowC0 h 78 a b))]) (Hout := [(1000001, .arr 2 h.rows.length (fun a b => if a = (loF h x.name) ∧ b = 1 then .tre 78 (loF h x.name) else (fun a b => if a = (loF h x.name) ∧ b = 1 then .tre 500 (loF h x.name) else rowC0 h 78 a b : Nat → Nat → AV) a b))]) (fun E X hE hX Q rest hk => ?_) ⟨rfl, trivial⟩ ⟨rfl, rfl⟩ rfl rfl rfl rfl trivial rfl (fun _ e => by cases e) ?_
            · refine ARun.storeArr rfl (.tmp rfl) (.tmp rfl) trivial rfl (by exact (show (loF h x.name) < h.rows.length from by omega)) (Nat.le_of_ble_eq_true rfl) vst_sz_33_1 rfl rfl ?_
              refine ARun.hleX ?_ ?_ hk
              · exact HeapLe.one rfl trivial
              · repeat (first | exact LkX.refl | refine LkX.cons (hX.none rfl) ?_ | refine LkX.filter (hX.none rfl) ?_)
            refine ADX.nil (H := [(0, .cells [.own 1000001 2 h.rows.length, .int .i64 (h.offset + 1)]), (1, .cells [.str x.name, .int .i64 x.at_, .int .i64 x.value]), (2, .cells [.con (.slice none 0 0), .int .i64 0]), (3, .cells [.int .i64 x.at_, .int .i64 x.value]), (5, .arr 2 1 (fun _ jc => ([.int .i64 x.at_, .int .i64 x.value] : List AV).getD jc (.con undef))), (78, .trees h.rows.length (rowX0 (takeH h x))), (1000001, .arr 2 h.rows.length (fun a b => if a = (loF h x.name) ∧ b = 1 then .tre 78 (loF h x.name) else (fun a b => if a = (loF h x.name) ∧ b = 1 then .tre 500 (loF h x.name) else rowC0 h 78 a b : Nat → Nat → AV) a b))]) ?_ ?_
            · exact HeapLe.one rfl (HeapLe.one rfl (HeapLe.one rfl (HeapLe.one rfl (HeapLe.one rfl (HeapLe.one rfl (HeapLe.one rfl trivial))))))
            refine AW.seq ?_
            refine AW.region ?_
            refine ARun.pure (PureOp.loadPtrAgg rfl (.tmp rfl) vst_ag_29_2 rfl rfl (Nat.le_of_ble_eq_true rfl) (Nat.le_of_ble_eq_true rfl)) rfl rfl (Nat.le_of_ble_eq_true rfl) ?_
            refine ARun.store rfl (.tmp rfl) (.tmp rfl) (SV.cells_of (by exact ⟨trivial, trivial, trivial⟩)) rfl (Nat.le_of_ble_eq_true rfl) vst_sz_29_2 rfl rfl ?_
            refine ARun.pure (PureOp.assign rfl .int) rfl rfl (Nat.le_of_ble_eq_true rfl) ?_
            refine ARun.nil ?_
            rw [tN_row hir, hcode]
            refine AW.moveCell 2 0 1000001 77 2 h.rows.length [.own 1000001 2 h.rows.length, .int .i64 (h.offset + 1)] [.own 77 2 h.rows.length, .int .i64 (h.offset + 1)] rfl rfl rfl rfl rfl (by decide) ⟨rfl, (by repeat first | exact trivial | refine ⟨by decide, by first | rfl | exact trivial | (intro a_ b_; first | exact getD_no rfl | exact rowC0_no rfl _ _ | exact newT_no rfl _ _ | exact rowS_no rfl rfl _ _ | exact insF_no (rowC0_no rfl) (newT_no rfl) _ _ _ | ((try dsimp only); (repeat' split) <;> first | rfl | exact rowC0_no rfl _ _ | exact getD_no rfl | exact insF_no (rowC0_no rfl) (newT_no rfl) _ _ _)), ?_⟩)⟩ ?_
            exact AW.ret (show ResL _ _ [.cell 4 29, .tmp 5] _ ∧ HeapLe _ _ from ⟨.inr (.inl ⟨_, _, _, _, rfl, .cells rfl vst_ag_29_2 rfl rfl (Nat.le_of_ble_eq_true rfl) (Nat.le_of_ble_eq_true rfl), .tmp rfl, rfl⟩), ⟨⟨_, rfl, rfl, Nat.le_refl _, fun a b _ _ => rowC_row hir hcode 78 a b⟩, ⟨_, rfl, fun q hq => rfl⟩, trivial⟩⟩)
    · have _u := True.intro
      have hir : isRow h x.name = false := (isRow_c h x.name).trans hb24
      refine AW.skip ?_
      refine AW.seq ?_
      refine AW.seq ?_
      refine AW.region ?_
      refine ARun.pure (PureOp.fieldPtr rfl (.tmp rfl) vst_fi_29_0_0) rfl rfl (Nat.le_of_ble_eq_true rfl) ?_
      refine ARun.pure (PureOp.loadPtr rfl (.tmp rfl) vst_pl_27 rfl rfl (Nat.le_of_ble_eq_true rfl) (Nat.le_of_ble_eq_true rfl)) rfl rfl (Nat.le_of_ble_eq_true rfl) ?_
      refine ARun.pure (PureOp.lenOwn rfl (.tmp rfl) vst_sl_27) rfl rfl (Nat.le_of_ble_eq_true rfl) ?_
      refine ARun.pure (PureOp.intOp rfl (.tmp rfl) .int rfl) rfl rfl (Nat.le_of_ble_eq_true rfl) ?_
      refine ARun.nil ?_
      refine AW.cond (.tmp rfl) (fun hb28 => ?_) (fun hb28 => ?_)
      · have _u := True.intro
        replace hb28 := of_decide_eq_true hb28
        have hcode := tk_full8 hir (show h.rows.length = 8 from by omega)
        have hcn : ¬ takeCode h x = 1 := by omega
        refine AW.seq ?_
        refine AW.region ?_
        refine ARun.pure (PureOp.loadPtrAgg rfl (.tmp rfl) vst_ag_29_2 rfl rfl (Nat.le_of_ble_eq_true rfl) (Nat.le_of_ble_eq_true rfl)) rfl rfl (Nat.le_of_ble_eq_true rfl) ?_
        refine ARun.store rfl (.tmp rfl) (.tmp rfl) (SV.cells_of (by exact ⟨trivial, trivial, trivial⟩)) rfl (Nat.le_of_ble_eq_true rfl) vst_sz_29_2 rfl rfl ?_
        refine ARun.pure (PureOp.assign rfl .int) rfl rfl (Nat.le_of_ble_eq_true rfl) ?_
        refine ARun.nil ?_
        rw [tN_old hcn, hcode]
        refine AW.moveCell 2 0 1000001 77 2 h.rows.length [.own 1000001 2 h.rows.length, .int .i64 (h.offset + 1)] [.own 77 2 h.rows.length, .int .i64 (h.offset + 1)] rfl rfl rfl rfl rfl (by decide) ⟨rfl, (by repeat first | exact trivial | refine ⟨by decide, by first | rfl | exact trivial | (intro a_ b_; first | exact getD_no rfl | exact rowC0_no rfl _ _ | exact newT_no rfl _ _ | exact rowS_no rfl rfl _ _ | exact insF_no (rowC0_no rfl) (newT_no rfl) _ _ _ | ((try dsimp only); (repeat' split) <;> first | rfl | exact rowC0_no rfl _ _ | exact getD_no rfl | exact insF_no (rowC0_no rfl) (newT_no rfl) _ _ _)), ?_⟩)⟩ ?_
        refine AW.reindex 500 78 77 h.rows.length h.rows.length 2 h.rows.length id (takeX h x) (rowC0 h 500) (rowC0 h 78) rfl rfl (fun _ hi => hi) (fun _ _ _ _ e => e) row_id ⟨rfl, (by repeat first | exact trivial | refine ⟨by decide, by first | rfl | exact trivial | (intro a_ b_; first | exact getD_no rfl | exact rowC0_no rfl _ _ | exact newT_no rfl _ _ | exact rowS_no rfl rfl _ _ | exact insF_no (rowC0_no rfl) (newT_no rfl) _ _ _ | ((try dsimp only); (repeat' split) <;> first | rfl | exact rowC0_no rfl _ _ | exact getD_no rfl | exact insF_no (rowC0_no rfl) (newT_no rfl) _ _ _)), ?_⟩)⟩ ?_
        exact AW.ret (show ResL _ _ [.cell 4 29, .tmp 5] _ ∧ HeapLe _ _ from ⟨.inr (.inl ⟨_, _, _, _, rfl, .cells rfl vst_ag_29_2 rfl rfl (Nat.le_of_ble_eq_true rfl) (Nat.le_of_ble_eq_true rfl), .tmp rfl, rfl⟩), ⟨⟨_, rfl, rfl, Nat.le_refl _, fun a b _ _ => rowC_old hcn 78 a b⟩, ⟨_, rfl, fun q hq => rowX_old hcn hq⟩, trivial⟩⟩)
      · have _u := True.intro
        replace hb28 := of_decide_eq_false hb28
        have hcode := tk_ins hir (show ¬ h.rows.length = 8 from by omega)
        refine AW.skip ?_
        refine AW.seq ?_
        refine AW.region ?_
        refine ARun.slice0 (id := 7) (z := (.agg #[.string ByteArray.empty, .slice none 0 0])) (sz := 2) (by_ := 40) rfl (by kernel_rfl) (fun _ _ => .con undef) (fun _ _ => rfl) ⟨rfl, (by repeat first | exact trivial | refine ⟨by decide, by first | rfl | exact trivial | (intro a_ b_; first | exact getD_no rfl | exact rowC0_no rfl _ _ | exact newT_no rfl _ _ | exact rowS_no rfl rfl _ _ | exact insF_no (rowC0_no rfl) (newT_no rfl) _ _ _ | ((try dsimp only); (repeat' split) <;> first | rfl | exact rowC0_no rfl _ _ | exact getD_no rfl | exact insF_no (rowC0_no rfl) (newT_no rfl) _ _ _)), ?_⟩)⟩ rfl rfl (Nat.le_of_ble_eq_true rfl) ?_
        refine ARun.pure (PureOp.fieldPtr rfl (.tmp rfl) vst_fi_29_0_0) rfl rfl (Nat.le_of_ble_eq_true rfl) ?_
        refine ARun.pure (PureOp.loadPtr rfl (.tmp rfl) vst_pl_27 rfl rfl (Nat.le_of_ble_eq_true rfl) (Nat.le_of_ble_eq_true rfl)) rfl rfl (Nat.le_of_ble_eq_true rfl) ?_
        refine ARun.pure (PureOp.move rfl (.tmp rfl)) rfl rfl (Nat.le_of_ble_eq_true rfl) ?_
        refine ARun.pure (PureOp.takeOwn (k := (loF h x.name)) rfl (.tmp rfl) (.tmp rfl) rfl (by omega) vst_el_27_2) rfl rfl (Nat.le_of_ble_eq_true rfl) ?_
        refine ARun.append (id := 8) (sz := 2) (n := 0) (m := (loF h x.name)) (by_ := 40) (z := (.agg #[.string ByteArray.empty, .slice none 0 0])) (f := fun _ _ => .con undef) (g := rowC0 h 500) (h := fun ia ja => if ia < 0 then (fun _ _ => .con undef : Nat → Nat → AV) ia ja else (rowC0 h 500 : Nat → Nat → AV) (ia - 0) ja) rfl (by kernel_rfl) rfl vst_sl_27 (.own (.tmp rfl) rfl rfl rfl (Nat.le_refl _) (fun _ _ _ _ => rfl)) (.own (.tmp rfl) rfl rfl (show (loF h x.name) ≤ h.rows.length from by omega) (fun _ _ _ _ => rfl)) (by decide) (fun i j hi hj => match j, hj with | 0, _ => rfl | 1, _ => rfl | _ + 2, h => absurd h (by omega)) (fun _ _ _ _ => rfl) (by omega) (by omega) ⟨rfl, (by repeat first | exact trivial | refine ⟨by decide, by first | rfl | exact trivial | (intro a_ b_; first | exact getD_no rfl | exact rowC0_no rfl _ _ | exact newT_no rfl _ _ | exact rowS_no rfl rfl _ _ | exact insF_no (rowC0_no rfl) (newT_no rfl) _ _ _ | ((try dsimp only); (repeat' split) <;> first | rfl | exact rowC0_no rfl _ _ | exact getD_no rfl | exact insF_no (rowC0_no rfl) (newT_no rfl) _ _ _)), ?_⟩)⟩ (fun a_ b_ => by (try dsimp only); (repeat' split) <;> first | rfl | exact rowC0_no rfl _ _ | exact getD_no rfl) rfl rfl (Nat.le_of_ble_eq_true rfl) ?_
        refine ARun.pure (PureOp.assign rfl (.tmp rfl)) rfl rfl (Nat.le_of_ble_eq_true rfl) ?_
        refine ARun.nil ?_
        refine AW.seq ?_
        refine AW.region ?_
        refine ARun.pure (PureOp.move rfl (.tmp rfl)) rfl rfl (Nat.le_of_ble_eq_true rfl) ?_
        refine ARun.pure (PureOp.fieldPtr rfl (.tmp rfl) vst_fi_47_0_0) rfl rfl (Nat.le_of_ble_eq_true rfl) ?_
        refine ARun.pure (PureOp.loadPtr rfl (.tmp rfl) vst_pl_9 rfl rfl (Nat.le_of_ble_eq_true rfl) (Nat.le_of_ble_eq_true rfl)) rfl rfl (Nat.le_of_ble_eq_true rfl) ?_
        refine ARun.pure (PureOp.loadPtrAgg rfl (.tmp rfl) vst_ag_81_2 rfl rfl (Nat.le_of_ble_eq_true rfl) (Nat.le_of_ble_eq_true rfl)) rfl rfl (Nat.le_of_ble_eq_true rfl) ?_
        refine ARun.slice1 (id := 9) (z := (.agg #[.int .i64 0, .int .i64 0])) (by_ := 16) rfl (.tmp rfl) (SV.cells_of (by exact ⟨trivial, trivial, trivial⟩)) (by kernel_rfl) rfl rfl (by decide) (by decide) ⟨rfl, (by repeat first | exact trivial | refine ⟨by decide, by first | rfl | exact trivial | (intro a_ b_; first | exact getD_no rfl | exact rowC0_no rfl _ _ | exact newT_no rfl _ _ | exact rowS_no rfl rfl _ _ | exact insF_no (rowC0_no rfl) (newT_no rfl) _ _ _ | ((try dsimp only); (repeat' split) <;> first | rfl | exact rowC0_no rfl _ _ | exact getD_no rfl | exact insF_no (rowC0_no rfl) (newT_no rfl) _ _ _)), ?_⟩)⟩ rfl rfl rfl (Nat.le_of_ble_eq_true rfl) ?_
        refine ARun.closeRow 109 9 500 h.rows.length 2 1 (m' := (addS h x).length) (X := takeX h x) (g := fun a b => ceSample ((addS h x).getD a (default : GSample)) b) rfl rfl rfl rfl (Nat.le_refl _) rfl rfl (takeX_n h x) (by rw [addS_ins hir]; rfl) (fun i j hi hj => addS_cell1 hir hi hj) (fun i j hi hj => match j, hj with | 0, _ => rfl | 1, _ => rfl | _ + 2, h => absurd h (by omega)) ?_
        refine ARun.pure (PureOp.build (ys := [.str x.name, .tre 500 h.rows.length]) (l := [.str ByteArray.empty, .con (.slice none 0 0)]) (pl := [(0, 1), (1, 1)]) (z := (.agg #[.string ByteArray.empty, .slice none 0 0])) rfl (by kernel_rfl) (by kernel_rfl) (fun _ _ _ => ⟨_, _, rfl, ⟨rfl, by decide⟩, ⟨_, _, rfl, rfl, rfl⟩⟩) ⟨(.tmp rfl), trivial, rfl, ⟨(.tmp rfl), trivial, rfl, trivial⟩⟩ rfl) rfl rfl (Nat.le_of_ble_eq_true rfl) ?_
        refine ARun.slice1 (id := 10) (z := (.agg #[.string ByteArray.empty, .slice none 0 0])) (by_ := 40) rfl (.tmp rfl) (SV.cells_of (by exact ⟨trivial, trivial, trivial⟩)) (by kernel_rfl) rfl rfl (by decide) (by decide) ⟨rfl, (by repeat first | exact trivial | refine ⟨by decide, by first | rfl | exact trivial | (intro a_ b_; first | exact getD_no rfl | exact rowC0_no rfl _ _ | exact newT_no rfl _ _ | exact rowS_no rfl rfl _ _ | exact insF_no (rowC0_no rfl) (newT_no rfl) _ _ _ | ((try dsimp only); (repeat' split) <;> first | rfl | exact rowC0_no rfl _ _ | exact getD_no rfl | exact insF_no (rowC0_no rfl) (newT_no rfl) _ _ _)), ?_⟩)⟩ rfl rfl rfl (Nat.le_of_ble_eq_true rfl) ?_
        refine ARun.append (id := 11) (sz := 2) (n := (0 + (loF h x.name))) (m := 1) (by_ := 40) (z := (.agg #[.string ByteArray.empty, .slice none 0 0])) (f := fun ia ja => if ia < 0 then (fun _ _ => .con undef : Nat → Nat → AV) ia ja else (rowC0 h 500 : Nat → Nat → AV) (ia - 0) ja) (g := fun _ jc => ([.str x.name, .tre 500 h.rows.length] : List AV).getD jc (.con undef)) (h := fun ia ja => if ia < (0 + (loF h x.name)) then (fun ia ja => if ia < 0 then (fun _ _ => .con undef : Nat → Nat → AV) ia ja else (rowC0 h 500 : Nat → Nat → AV) (ia - 0) ja : Nat → Nat → AV) ia ja else (fun _ jc => ([.str x.name, .tre 500 h.rows.length] : List AV).getD jc (.con undef) : Nat → Nat → AV) (ia - (0 + (loF h x.name))) ja) rfl (by kernel_rfl) rfl vst_sl_27 (.own (.tmp rfl) rfl rfl rfl (Nat.le_refl _) (fun _ _ _ _ => rfl)) (.own (.tmp rfl) rfl rfl (show 1 ≤ 1 from by omega) (fun _ _ _ _ => rfl)) (by decide) (fun i j hi hj => match j, hj with | 0, _ => rfl | 1, _ => rfl | _ + 2, h => absurd h (by omega)) (fun _ _ _ _ => rfl) (by omega) (by omega) ⟨rfl, (by repeat first | exact trivial | refine ⟨by decide, by first | rfl | exact trivial | (intro a_ b_; first | exact getD_no rfl | exact rowC0_no rfl _ _ | exact newT_no rfl _ _ | exact rowS_no rfl rfl _ _ | exact insF_no (rowC0_no rfl) (newT_no rfl) _ _ _ | ((try dsimp only); (repeat' split) <;> first | rfl | exact rowC0_no rfl _ _ | exact getD_no rfl | exact insF_no (rowC0_no rfl) (newT_no rfl) _ _ _)), ?_⟩)⟩ (fun a_ b_ => by (try dsimp only); (repeat' split) <;> first | rfl | exact rowC0_no rfl _ _ | exact getD_no rfl) rfl rfl (Nat.le_of_ble_eq_true rfl) ?_
        refine ARun.pure (PureOp.assign rfl (.tmp rfl)) rfl rfl (Nat.le_of_ble_eq_true rfl) ?_
        refine ARun.nil ?_
        refine AW.seq ?_
        refine AW.region ?_
        refine ARun.pure (PureOp.move rfl (.tmp rfl)) rfl rfl (Nat.le_of_ble_eq_true rfl) ?_
        refine ARun.pure (PureOp.fieldPtr rfl (.tmp rfl) vst_fi_29_0_0) rfl rfl (Nat.le_of_ble_eq_true rfl) ?_
        refine ARun.pure (PureOp.loadPtr rfl (.tmp rfl) vst_pl_27 rfl rfl (Nat.le_of_ble_eq_true rfl) (Nat.le_of_ble_eq_true rfl)) rfl rfl (Nat.le_of_ble_eq_true rfl) ?_
        refine ARun.pure (PureOp.move rfl (.tmp rfl)) rfl rfl (Nat.le_of_ble_eq_true rfl) ?_
        refine ARun.pure (PureOp.dropOwn (k := (loF h x.name)) rfl (.tmp rfl) (.tmp rfl) rfl (by omega) vst_el_27_2) rfl rfl (Nat.le_of_ble_eq_true rfl) ?_
        refine ARun.append (id := 12) (sz := 2) (n := ((0 + (loF h x.name)) + 1)) (m := (h.rows.length - (loF h x.name))) (by_ := 40) (z := (.agg #[.string ByteArray.empty, .slice none 0 0])) (f := fun ia ja => if ia < (0 + (loF h x.name)) then (fun ia ja => if ia < 0 then (fun _ _ => .con undef : Nat → Nat → AV) ia ja else (rowC0 h 500 : Nat → Nat → AV) (ia - 0) ja : Nat → Nat → AV) ia ja else (fun _ jc => ([.str x.name, .tre 500 h.rows.length] : List AV).getD jc (.con undef) : Nat → Nat → AV) (ia - (0 + (loF h x.name))) ja) (g := fun ia_ ja_ => (rowC0 h 500 : Nat → Nat → AV) ((loF h x.name) + ia_) ja_) (h := fun ia ja => if ia < ((0 + (loF h x.name)) + 1) then (fun ia ja => if ia < (0 + (loF h x.name)) then (fun ia ja => if ia < 0 then (fun _ _ => .con undef : Nat → Nat → AV) ia ja else (rowC0 h 500 : Nat → Nat → AV) (ia - 0) ja : Nat → Nat → AV) ia ja else (fun _ jc => ([.str x.name, .tre 500 h.rows.length] : List AV).getD jc (.con undef) : Nat → Nat → AV) (ia - (0 + (loF h x.name))) ja : Nat → Nat → AV) ia ja else (fun ia_ ja_ => (rowC0 h 500 : Nat → Nat → AV) ((loF h x.name) + ia_) ja_ : Nat → Nat → AV) (ia - ((0 + (loF h x.name)) + 1)) ja) rfl (by kernel_rfl) rfl vst_sl_27 (.own (.tmp rfl) rfl rfl rfl (Nat.le_refl _) (fun _ _ _ _ => rfl)) (KnR.tl (.tmp rfl) rfl rfl (Nat.le_refl _) rfl (fun _ _ _ _ => rfl)) (by decide) (fun i j hi hj => match j, hj with | 0, _ => rfl | 1, _ => rfl | _ + 2, h => absurd h (by omega)) (fun _ _ _ _ => rfl) (by omega) (by omega) ⟨rfl, (by repeat first | exact trivial | refine ⟨by decide, by first | rfl | exact trivial | (intro a_ b_; first | exact getD_no rfl | exact rowC0_no rfl _ _ | exact newT_no rfl _ _ | exact rowS_no rfl rfl _ _ | exact insF_no (rowC0_no rfl) (newT_no rfl) _ _ _ | ((try dsimp only); (repeat' split) <;> first | rfl | exact rowC0_no rfl _ _ | exact getD_no rfl | exact insF_no (rowC0_no rfl) (newT_no rfl) _ _ _)), ?_⟩)⟩ (fun a_ b_ => by (try dsimp only); (repeat' split) <;> first | rfl | exact rowC0_no rfl _ _ | exact getD_no rfl) rfl rfl (Nat.le_of_ble_eq_true rfl) ?_
        refine ARun.pure (PureOp.fieldPtr rfl (.tmp rfl) vst_fi_29_0_0) rfl rfl (Nat.le_of_ble_eq_true rfl) ?_
        refine ARun.store rfl (.tmp rfl) (.tmp rfl) trivial rfl (Nat.le_of_ble_eq_true rfl) vst_sz_27_1 rfl rfl ?_
        refine ARun.nil ?_
        refine AW.seq ?_
        refine AW.region ?_
        refine ARun.pure (PureOp.loadPtrAgg rfl (.tmp rfl) vst_ag_29_2 rfl rfl (Nat.le_of_ble_eq_true rfl) (Nat.le_of_ble_eq_true rfl)) rfl rfl (Nat.le_of_ble_eq_true rfl) ?_
        refine ARun.store rfl (.tmp rfl) (.tmp rfl) (SV.cells_of (by exact ⟨trivial, trivial, trivial⟩)) rfl (Nat.le_of_ble_eq_true rfl) vst_sz_29_2 rfl rfl ?_
        refine ARun.pure (PureOp.assign rfl .int) rfl rfl (Nat.le_of_ble_eq_true rfl) ?_
        refine ARun.nil ?_
        rw [tN_ins hir hcode, hcode]
        rw [show (((0 + (loF h x.name)) + 1) + (h.rows.length - (loF h x.name))) = h.rows.length + 1 from by omega]
        refine AW.hle (H' := [(2, .cells [.own 12 2 (h.rows.length + 1), .int .i64 (h.offset + 1)]), (12, .arr 2 (h.rows.length + 1) (insF (rowC0 h 500) (newT h x) (loF h x.name))), (500, .trees (h.rows.length + 1) (takeX h x))]) ⟨HLe.refl rfl, ⟨_, rfl, rfl, Nat.le_refl _, fun a b (ha : a < h.rows.length + 1) hb => by show (fun ia ja => if ia < ((0 + (loF h x.name)) + 1) then (fun ia ja => if ia < (0 + (loF h x.name)) then (fun ia ja => if ia < 0 then (fun _ _ => .con undef : Nat → Nat → AV) ia ja else (rowC0 h 500 : Nat → Nat → AV) (ia - 0) ja : Nat → Nat → AV) ia ja else (fun _ jc => ([.str x.name, .tre 500 h.rows.length] : List AV).getD jc (.con undef) : Nat → Nat → AV) (ia - (0 + (loF h x.name))) ja : Nat → Nat → AV) ia ja else (fun ia_ ja_ => (rowC0 h 500 : Nat → Nat → AV) ((loF h x.name) + ia_) ja_ : Nat → Nat → AV) (ia - ((0 + (loF h x.name)) + 1)) ja : Nat → Nat → AV) a b = insF (rowC0 h 500) (newT h x) (loF h x.name) a b; unfold insF; (try dsimp only); (repeat' split) <;> first | rfl | omega | exact congrArg (fun q => rowC0 h 500 q b) (by omega)⟩, HLe.refl rfl, trivial⟩ ?_
        refine AW.reindex 500 78 12 (h.rows.length + 1) (h.rows.length + 1) 2 (h.rows.length + 1) (pmI h.rows.length (loF h x.name)) (takeX h x) (insF (rowC0 h 500) (newT h x) (loF h x.name)) (rowC0 (takeH h x) 78) rfl rfl pmI_lt (pmI_inj hlo) (row_insT hir hcode) ⟨rfl, (by repeat first | exact trivial | refine ⟨by decide, by first | rfl | exact trivial | (intro a_ b_; first | exact getD_no rfl | exact rowC0_no rfl _ _ | exact newT_no rfl _ _ | exact rowS_no rfl rfl _ _ | exact insF_no (rowC0_no rfl) (newT_no rfl) _ _ _ | ((try dsimp only); (repeat' split) <;> first | rfl | exact rowC0_no rfl _ _ | exact getD_no rfl | exact insF_no (rowC0_no rfl) (newT_no rfl) _ _ _)), ?_⟩)⟩ ?_
        refine AW.moveCell 2 0 12 77 2 (h.rows.length + 1) [.own 12 2 (h.rows.length + 1), .int .i64 (h.offset + 1)] [.own 77 2 (h.rows.length + 1), .int .i64 (h.offset + 1)] rfl rfl rfl rfl rfl (by decide) ⟨rfl, (by repeat first | exact trivial | refine ⟨by decide, by first | rfl | exact trivial | (intro a_ b_; first | exact getD_no rfl | exact rowC0_no rfl _ _ | exact newT_no rfl _ _ | exact rowS_no rfl rfl _ _ | exact insF_no (rowC0_no rfl) (newT_no rfl) _ _ _ | ((try dsimp only); (repeat' split) <;> first | rfl | exact rowC0_no rfl _ _ | exact getD_no rfl | exact insF_no (rowC0_no rfl) (newT_no rfl) _ _ _)), ?_⟩)⟩ ?_
        exact AW.ret (show ResL _ _ [.cell 4 29, .tmp 5] _ ∧ HeapLe _ _ from ⟨.inr (.inl ⟨_, _, _, _, rfl, .cells rfl vst_ag_29_2 rfl rfl (Nat.le_of_ble_eq_true rfl) (Nat.le_of_ble_eq_true rfl), .tmp rfl, rfl⟩), ⟨⟨_, rfl, rfl, Nat.le_refl _, fun a b _ _ => rfl⟩, ⟨_, rfl, fun q hq => rowX_ins hir hcode hq⟩, trivial⟩⟩)

theorem v_l13Take (h : GHead) (x : GSay) (hg : goodHead ⟨h.rows, 0⟩ = true) (ho : 0 ≤ h.offset ∧ h.offset ≤ 1000000) : FnG Try.prog 56 [.agg [.own 1000001 2 h.rows.length, .int .i64 h.offset], .agg [.str x.name, .int .i64 x.at_, .int .i64 x.value]] [(1000001, .arr 2 h.rows.length (rowC0 h 1000002)), (1000002, .trees h.rows.length (rowX0 h))] (.tup2 (.agg [.own 77 2 (takeH h x).rows.length, .int .i64 (takeH h x).offset]) (.one (.int .i64 ((takeCode h x : Nat) : Int)))) [(77, .arr 2 (takeH h x).rows.length (rowC0 (takeH h x) 78)), (78, .trees (takeH h x).rows.length (rowX0 (takeH h x)))] := by
  have h1 := v_l13Take0 h x hg ho
  rw [takeN_len h x] at h1
  exact h1
end Go.Proofs.Ytmfkmifkkplidaa


/-
  A good head stays good by a step.
-/
namespace Go.Proofs.Ytmfkmifkkplidaa
open Go.ChangeShapes Go.WideShapes Go.ChangeAt Go.RowKit Go.BigFrame Go.Deep
set_option linter.unusedVariables false
set_option linter.unusedSimpArgs false
theorem vpt_ca_42 : callB Try.prog 42 = true := by kernel_rfl
theorem vpt_ca_44 : callB Try.prog 44 = true := by kernel_rfl
theorem vpt_ca_70 : callB Try.prog 70 = true := by kernel_rfl
theorem vpt_ca_78 : callB Try.prog 78 = true := by kernel_rfl
theorem vpt_fi_47_0_0 : fieldB Try.prog 47 0 0 = true := by kernel_rfl
theorem vpt_fi_47_1_1 : fieldB Try.prog 47 1 1 = true := by kernel_rfl
theorem vpt_fi_47_2_2 : fieldB Try.prog 47 2 2 = true := by kernel_rfl
theorem vpt_pl_3 : plainB Try.prog 3 = true := by kernel_rfl
theorem vpt_pl_9 : plainB Try.prog 9 = true := by kernel_rfl
def sayB (x : GSay) : Bool :=
  cond (cond (nameB x.name false) (inB 0 1000000000 x.at_) false) (inB (-1000000000) 1000000000 x.value) false
theorem v_l13Say (x : GSay) : Fn Try.prog 55 [.agg [.str x.name, .int .i64 x.at_, .int .i64 x.value]] (.one (.bool (sayB x))) := by
  refine Fn.of_body (fn := Try.f55) Try.func55 rfl (Nat.le_of_ble_eq_true rfl) trivial ?_
  intro w0
  show AW _ 16 _ _ _ _
  refine AW.seq ?_
  refine AW.region ?_
  refine ARun.box (id := 0) rfl (.tmp rfl) (SV.cells_of (by exact ⟨trivial, trivial, trivial, trivial⟩)) ⟨rfl, (by repeat first | exact trivial | refine ⟨by decide, by first | rfl | exact trivial | (intro i j; first | rfl | exact getD_no rfl | (dsimp only; split <;> first | rfl | exact getD_no rfl) | exact scl_no (by apply_assumption) _), ?_⟩)⟩ rfl rfl rfl (Nat.le_of_ble_eq_true rfl) ?_
  refine ARun.pure (PureOp.assign rfl .bool) rfl rfl (Nat.le_of_ble_eq_true rfl) ?_
  refine ARun.nil ?_
  refine AW.seq ?_
  refine AW.region ?_
  refine ARun.pure (PureOp.fieldPtr rfl (.tmp rfl) vpt_fi_47_0_0) rfl rfl (Nat.le_of_ble_eq_true rfl) ?_
  refine ARun.pure (PureOp.loadPtr rfl (.tmp rfl) vpt_pl_9 rfl rfl (Nat.le_of_ble_eq_true rfl) (Nat.le_of_ble_eq_true rfl)) rfl rfl (Nat.le_of_ble_eq_true rfl) ?_
  refine ARun.pure (PureOp.call rfl (v_l3Name x.name false) ⟨⟨_, (.tmp rfl), .str⟩, ⟨_, .bool, .bool⟩, trivial⟩ vpt_ca_42 trivial) rfl rfl (Nat.le_of_ble_eq_true rfl) ?_
  refine ARun.pure (PureOp.move rfl (.tmp rfl)) rfl rfl (Nat.le_of_ble_eq_true rfl) ?_
  refine ARun.gpure (want := true) (.tt rfl) (fun hg1 => PureOp.fieldPtr rfl (.tmp rfl) vpt_fi_47_1_1) rfl rfl (Nat.le_of_ble_eq_true rfl) rfl (Nat.le_of_ble_eq_true rfl) ?_
  refine ARun.gpure (want := true) (.tt rfl) (fun hg2 => PureOp.loadPtr rfl (.gtmp rfl hg2) vpt_pl_3 rfl rfl (Nat.le_of_ble_eq_true rfl) (Nat.le_of_ble_eq_true rfl)) rfl rfl (Nat.le_of_ble_eq_true rfl) rfl (Nat.le_of_ble_eq_true rfl) ?_
  refine ARun.gpure (want := true) (.tt rfl) (fun hg3 => PureOp.call rfl (v_l1In x.at_ 0 1000000000) ⟨⟨_, (.gtmp rfl hg3), .int⟩, ⟨_, .int, .int⟩, ⟨_, .int, .int⟩, trivial⟩ vpt_ca_44 trivial) rfl rfl (Nat.le_of_ble_eq_true rfl) rfl (Nat.le_of_ble_eq_true rfl) ?_
  refine ARun.pure (PureOp.pick rfl (.tmp rfl) (fun hp4 => .gtmp rfl hp4) (fun _ => .bool)) rfl rfl (Nat.le_of_ble_eq_true rfl) ?_
  refine ARun.pure (PureOp.move rfl (.tmp rfl)) rfl rfl (Nat.le_of_ble_eq_true rfl) ?_
  refine ARun.gpure (want := true) (.tt rfl) (fun hg6 => PureOp.fieldPtr rfl (.tmp rfl) vpt_fi_47_2_2) rfl rfl (Nat.le_of_ble_eq_true rfl) rfl (Nat.le_of_ble_eq_true rfl) ?_
  refine ARun.gpure (want := true) (.tt rfl) (fun hg7 => PureOp.loadPtr rfl (.gtmp rfl hg7) vpt_pl_3 rfl rfl (Nat.le_of_ble_eq_true rfl) (Nat.le_of_ble_eq_true rfl)) rfl rfl (Nat.le_of_ble_eq_true rfl) rfl (Nat.le_of_ble_eq_true rfl) ?_
  refine ARun.gpure (want := true) (.tt rfl) (fun hg8 => PureOp.call rfl (v_l1In x.value (-1000000000) 1000000000) ⟨⟨_, (.gtmp rfl hg8), .int⟩, ⟨_, .int, .int⟩, ⟨_, .int, .int⟩, trivial⟩ vpt_ca_44 trivial) rfl rfl (Nat.le_of_ble_eq_true rfl) rfl (Nat.le_of_ble_eq_true rfl) ?_
  refine ARun.pure (PureOp.pick rfl (.tmp rfl) (fun hp9 => .gtmp rfl hp9) (fun _ => .bool)) rfl rfl (Nat.le_of_ble_eq_true rfl) ?_
  refine ARun.pure (PureOp.assign rfl (.tmp rfl)) rfl rfl (Nat.le_of_ble_eq_true rfl) ?_
  refine ARun.nil ?_
  refine AW.ret (show ResL _ _ [.tmp 2] _ from resB rfl ?_)
  rfl

def sayBI (x : GSay) : Bool :=
  cond (nameB x.name false) (isSampleB (⟨x.at_, x.value⟩ : GSample)) false
theorem sayB_eq (x : GSay) : sayBI x = sayB x := by
  unfold sayBI sayB isSampleB
  generalize nameB _ false = a1
  generalize inB 0 _ _ = a2
  generalize inB (-1000000000) _ _ = a3
  revert a1 a2 a3; decide
theorem v_isSay (x : GSay) : Fn Try.prog 58 [.agg [.str x.name, .int .i64 x.at_, .int .i64 x.value]] (.one (.bool (sayB x))) := by
  refine Fn.of_body (fn := Try.f58) Try.func58 rfl (Nat.le_of_ble_eq_true rfl) trivial ?_
  intro w0
  show AW _ 14 _ _ _ _
  refine AW.seq ?_
  refine AW.region ?_
  refine ARun.box (id := 0) rfl (.tmp rfl) (SV.cells_of (by exact ⟨trivial, trivial, trivial, trivial⟩)) ⟨rfl, (by repeat first | exact trivial | refine ⟨by decide, by first | rfl | exact trivial | (intro i j; first | rfl | exact getD_no rfl | (dsimp only; split <;> first | rfl | exact getD_no rfl) | exact scl_no (by apply_assumption) _), ?_⟩)⟩ rfl rfl rfl (Nat.le_of_ble_eq_true rfl) ?_
  refine ARun.pure (PureOp.assign rfl .bool) rfl rfl (Nat.le_of_ble_eq_true rfl) ?_
  refine ARun.nil ?_
  refine AW.seq ?_
  refine AW.region ?_
  refine ARun.pure (PureOp.fieldPtr rfl (.tmp rfl) vpt_fi_47_0_0) rfl rfl (Nat.le_of_ble_eq_true rfl) ?_
  refine ARun.pure (PureOp.loadPtr rfl (.tmp rfl) vpt_pl_9 rfl rfl (Nat.le_of_ble_eq_true rfl) (Nat.le_of_ble_eq_true rfl)) rfl rfl (Nat.le_of_ble_eq_true rfl) ?_
  refine ARun.pure (PureOp.call rfl (v_isWord x.name false) ⟨⟨_, (.tmp rfl), .str⟩, ⟨_, .bool, .bool⟩, trivial⟩ vpt_ca_70 trivial) rfl rfl (Nat.le_of_ble_eq_true rfl) ?_
  refine ARun.pure (PureOp.move rfl (.tmp rfl)) rfl rfl (Nat.le_of_ble_eq_true rfl) ?_
  refine ARun.gpure (want := true) (.tt rfl) (fun hg1 => PureOp.fieldPtr rfl (.tmp rfl) vpt_fi_47_1_1) rfl rfl (Nat.le_of_ble_eq_true rfl) rfl (Nat.le_of_ble_eq_true rfl) ?_
  refine ARun.gpure (want := true) (.tt rfl) (fun hg2 => PureOp.loadPtr rfl (.gtmp rfl hg2) vpt_pl_3 rfl rfl (Nat.le_of_ble_eq_true rfl) (Nat.le_of_ble_eq_true rfl)) rfl rfl (Nat.le_of_ble_eq_true rfl) rfl (Nat.le_of_ble_eq_true rfl) ?_
  refine ARun.gpure (want := true) (.tt rfl) (fun hg3 => PureOp.fieldPtr rfl (.tmp rfl) vpt_fi_47_2_2) rfl rfl (Nat.le_of_ble_eq_true rfl) rfl (Nat.le_of_ble_eq_true rfl) ?_
  refine ARun.gpure (want := true) (.tt rfl) (fun hg4 => PureOp.loadPtr rfl (.gtmp rfl hg4) vpt_pl_3 rfl rfl (Nat.le_of_ble_eq_true rfl) (Nat.le_of_ble_eq_true rfl)) rfl rfl (Nat.le_of_ble_eq_true rfl) rfl (Nat.le_of_ble_eq_true rfl) ?_
  refine ARun.gpure (want := true) (.tt rfl) (fun hg5 => PureOp.build (ys := [.int .i64 x.at_, .int .i64 x.value]) (l := [.int .i64 0, .int .i64 0]) (pl := [(0, 1), (1, 1)]) (z := (.agg #[.int .i64 0, .int .i64 0])) rfl (by kernel_rfl) (by kernel_rfl) (fun _ _ _ => ⟨_, _, rfl, rfl, ⟨_, _, rfl, rfl, rfl⟩⟩) ⟨(.gtmp rfl hg5), trivial, rfl, ⟨(.gtmp rfl hg5), trivial, rfl, trivial⟩⟩ rfl) rfl rfl (Nat.le_of_ble_eq_true rfl) rfl (Nat.le_of_ble_eq_true rfl) ?_
  refine ARun.gpure (want := true) (.tt rfl) (fun hg6 => PureOp.call rfl (v_isSample (⟨x.at_, x.value⟩ : GSample)) ⟨⟨_, (.gtmp rfl hg6), ⟨.int, .int, trivial⟩⟩, trivial⟩ vpt_ca_78 trivial) rfl rfl (Nat.le_of_ble_eq_true rfl) rfl (Nat.le_of_ble_eq_true rfl) ?_
  refine ARun.pure (PureOp.pick rfl (.tmp rfl) (fun hp7 => .gtmp rfl hp7) (fun _ => .bool)) rfl rfl (Nat.le_of_ble_eq_true rfl) ?_
  refine ARun.pure (PureOp.assign rfl (.tmp rfl)) rfl rfl (Nat.le_of_ble_eq_true rfl) ?_
  refine ARun.nil ?_
  refine AW.ret (show ResL _ _ [.tmp 2] _ from resB rfl ?_)
  exact sayB_eq x

/-! A good head stays good. -/
theorem less_total : ∀ {a b : List UInt8}, Op.bytesLess a b = false → a ≠ b → Op.bytesLess b a = true
  | [], [], _, h => absurd rfl h
  | [], _ :: _, h, _ => by simp [Op.bytesLess] at h
  | _ :: _, [], _, _ => by simp [Op.bytesLess]
  | x :: a, y :: b, h, hne => by
    simp only [Op.bytesLess, Bool.or_eq_false_iff, Bool.and_eq_false_iff, decide_eq_false_iff_not, beq_eq_false_iff_ne] at h
    simp only [Op.bytesLess, Bool.or_eq_true, Bool.and_eq_true, decide_eq_true_eq, beq_iff_eq]
    obtain ⟨h1, h2⟩ := h
    by_cases e : x = y
    · subst e
      refine .inr ⟨rfl, less_total (h2.resolve_left (fun h => h rfl)) (fun e => hne (by rw [e]))⟩
    · refine .inl ?_
      have : ¬ x.toNat < y.toNat := fun hc => h1 (by first | exact hc | exact UInt8.lt_iff_toNat_lt.2 hc)
      have h3 : x.toNat ≠ y.toNat := fun hc => e (UInt8.toNat_inj.1 hc)
      first | (exact UInt8.lt_iff_toNat_lt.2 (by omega)) | omega
theorem toList_inj' {a b : ByteArray} (h : a.toList = b.toList) : a = b := by
  rw [ByteArray.toList_eq, ByteArray.toList_eq] at h
  cases a; cases b; simp_all
structure GoodR (l : List GRow) : Prop where
  name : ∀ k, k < l.length → nameB (l.getD k (default : GRow)).name false = true
  some : ∀ k, k < l.length → 0 < (l.getD k (default : GRow)).samples.length
  smps : ∀ k, k < l.length → samplesB (l.getD k (default : GRow)).samples = true
  ord : ∀ k, 0 < k → k < l.length → Op.bytesLess (l.getD (k - 1) (default : GRow)).name.toList (l.getD k (default : GRow)).name.toList = true
  len : l.length ≤ 8
theorem GoodR.of {l : List GRow} {o : Int} (hg : goodHead ⟨l, o⟩ = true) : GoodR l :=
  ⟨fun _ hk => (good_at hg hk).1, fun _ hk => (good_at hg hk).2.1, fun _ hk => (good_at hg hk).2.2, fun _ h0 hk => good_step hg h0 hk, good_len hg⟩
theorem GoodR.good {l : List GRow} {o : Int} (h : GoodR l) (ho : inB 0 1000 o = true) : goodHead ⟨l, o⟩ = true := by
  unfold goodHead
  rw [Bool.and_eq_true]
  refine ⟨rng_yes fun k hk => ?_, ?_⟩
  · rw [Bool.not_eq_true']
    have hk : k < l.length := hk
    unfold rowBad
    show cond (cond (cond (!(nameB (l.getD k (default : GRow)).name false)) true (decide ((((l.getD k (default : GRow)).samples.length : Nat) : Int) = 0))) true (!(samplesB (l.getD k (default : GRow)).samples))) true (cond (decide (0 < (k : Int))) (!Op.bytesLess (l.getD (k - 1) (default : GRow)).name.toList (l.getD k (default : GRow)).name.toList) false) = false
    have h2 := h.some k hk
    rw [h.name k hk, h.smps k hk, decide_eq_false (show ¬ (((l.getD k (default : GRow)).samples.length : Nat) : Int) = 0 by omega)]
    by_cases h0 : 0 < k
    · rw [h.ord k h0 hk]; cases decide ((0 : Int) < (k : Int)) <;> rfl
    · rw [decide_eq_false (show ¬ (0 : Int) < (k : Int) by omega)]; rfl
  · show cond (decide ((l.length : Int) ≤ 8)) (inB 0 1000 o) false = true
    have := h.len
    rw [decide_eq_true (show (l.length : Int) ≤ 8 by omega), ho]; rfl
theorem good_re {l : List GRow} {o o' : Int} (hg : goodHead ⟨l, o⟩ = true) (ho : inB 0 1000 o' = true) : goodHead ⟨l, o'⟩ = true := (GoodR.of hg).good ho
theorem good0 {h : GHead} (hg : goodHead h = true) : goodHead ⟨h.rows, 0⟩ = true := good_re (o := h.offset) hg (by decide)
theorem good_off {h : GHead} (hg : goodHead h = true) : 0 ≤ h.offset ∧ h.offset ≤ 1000 := by
  unfold goodHead at hg
  rw [Bool.and_eq_true] at hg
  have h1 := hg.2
  by_cases h2 : (h.rows.length : Int) ≤ 8
  · rw [decide_eq_true h2] at h1; exact inB_true h1
  · rw [decide_eq_false h2] at h1; cases h1
theorem sm_at {l : List GSample} (h : samplesB l = true) {k : Nat} (hk : k < l.length) : isSampleB (l.getD k (default : GSample)) = true ∧ (0 < k → (l.getD (k - 1) (default : GSample)).at_ < (l.getD k (default : GSample)).at_) := by
  unfold samplesB at h; rw [Bool.and_eq_true] at h
  have h1 := List.all_eq_true.1 h.1 k (List.mem_range.2 hk)
  rw [Bool.not_eq_true'] at h1
  unfold saBad at h1
  unfold isSampleB
  by_cases h0 : 0 < k
  · rw [decide_eq_true (show (0 : Int) < (k : Int) by omega)] at h1
    by_cases h2 : (l.getD k (default : GSample)).at_ ≤ (l.getD (k - 1) (default : GSample)).at_
    · rw [decide_eq_true h2] at h1
      revert h1
      generalize inB 0 _ _ = a1
      generalize inB (-1000000000) _ _ = a2
      revert a1 a2; simp
    · refine ⟨?_, fun _ => by omega⟩
      rw [decide_eq_false h2] at h1
      revert h1
      generalize inB 0 _ _ = a1
      generalize inB (-1000000000) _ _ = a2
      revert a1 a2; decide
  · refine ⟨?_, fun h => absurd h h0⟩
    rw [decide_eq_false (show ¬ (0 : Int) < (k : Int) by omega)] at h1
    revert h1
    generalize inB 0 _ _ = a1
    generalize inB (-1000000000) _ _ = a2
    generalize decide (_ ≤ (l.getD (k - 1) (default : GSample)).at_) = a3
    revert a1 a2 a3; decide
theorem sm_of {l : List GSample} (h1 : ∀ k, k < l.length → isSampleB (l.getD k (default : GSample)) = true) (h2 : ∀ k, 0 < k → k < l.length → (l.getD (k - 1) (default : GSample)).at_ < (l.getD k (default : GSample)).at_) (h3 : l.length ≤ 40) : samplesB l = true := by
  unfold samplesB; rw [Bool.and_eq_true]
  refine ⟨rng_yes fun k hk => ?_, decide_eq_true (by omega)⟩
  rw [Bool.not_eq_true']
  unfold saBad
  have e1 := h1 k hk
  unfold isSampleB at e1
  by_cases h0 : 0 < k
  · have e2 := h2 k h0 hk
    rw [decide_eq_false (show ¬ (l.getD k (default : GSample)).at_ ≤ (l.getD (k - 1) (default : GSample)).at_ by omega)]
    revert e1
    generalize inB 0 _ _ = a1
    generalize inB (-1000000000) _ _ = a2
    generalize decide ((0 : Int) < (k : Int)) = a3
    revert a1 a2 a3; decide
  · rw [decide_eq_false (show ¬ (0 : Int) < (k : Int) by omega)]
    revert e1
    generalize inB 0 _ _ = a1
    generalize inB (-1000000000) _ _ = a2
    generalize decide (_ ≤ (l.getD (k - 1) (default : GSample)).at_) = a3
    revert a1 a2 a3; decide
theorem say_name {x : GSay} (hx : sayB x = true) : nameB x.name false = true ∧ isSampleB (smpX x) = true := by
  unfold sayB at hx
  unfold isSampleB
  revert hx
  show _ → _ ∧ cond (inB 0 1000000000 x.at_) (inB (-1000000000) 1000000000 x.value) false = true
  generalize nameB _ false = a1
  generalize inB 0 _ _ = a2
  generalize inB (-1000000000) _ _ = a3
  revert a1 a2 a3; decide
theorem good_take {h : GHead} {x : GSay} (hg : goodHead ⟨h.rows, 0⟩ = true) (hx : sayB x = true) : goodHead ⟨(takeH h x).rows, 0⟩ = true := by
  have G := GoodR.of hg
  obtain ⟨hn, hs⟩ := say_name hx
  refine GoodR.good ?_ (by decide)
  by_cases hc : takeCode h x = 1
  · cases hir : isRow h x.name with
    | true =>
      rw [tR_row hir hc]
      have hlo := row_lo hir
      have hA : ∀ k, (h.rows.set (loF h x.name) ⟨(rowK h x).name, addS h x⟩).getD k (default : GRow) = if k = loF h x.name then ⟨(rowK h x).name, addS h x⟩ else h.rows.getD k (default : GRow) := fun k => set_at _ hlo k
      have hN : ∀ k, ((h.rows.set (loF h x.name) ⟨(rowK h x).name, addS h x⟩).getD k (default : GRow)).name = (h.rows.getD k (default : GRow)).name := fun k => by
        rw [hA]
        by_cases e : k = loF h x.name
        · rw [if_pos e, e]
        · rw [if_neg e]
      have hL : (h.rows.set (loF h x.name) ⟨(rowK h x).name, addS h x⟩).length = h.rows.length := List.length_set
      refine ⟨fun k hk => by rw [hN]; exact G.name k (hL ▸ hk), fun k hk => ?_, fun k hk => ?_, fun k h0 hk => by rw [hN, hN]; exact G.ord k h0 (hL ▸ hk), by rw [hL]; exact G.len⟩
      · rw [hL] at hk
        rw [hA]
        by_cases e : k = loF h x.name
        · rw [if_pos e]; show 0 < (addS h x).length; rw [addS_row hir, List.length_append]; exact Nat.succ_pos _
        · rw [if_neg e]; exact G.some k hk
      · rw [hL] at hk
        rw [hA]
        by_cases e : k = loF h x.name
        · rw [if_pos e]
          show samplesB (addS h x) = true
          rw [addS_row hir]
          have h1 := G.smps (loF h x.name) hlo
          have h2 := G.some (loF h x.name) hlo
          have h3 := smp_40 h1
          have hcc : ¬ (takeLast h x).at_ = x.at_ ∧ ¬ x.at_ < (takeLast h x).at_ ∧ ¬ (rowK h x).samples.length = 40 := by
            unfold takeCode at hc
            rw [hir, if_pos rfl] at hc
            by_cases c1 : (takeLast h x).at_ = x.at_
            · rw [if_pos c1] at hc; omega
            · rw [if_neg c1] at hc
              by_cases c2 : x.at_ < (takeLast h x).at_
              · rw [if_pos c2] at hc; omega
              · rw [if_neg c2] at hc
                by_cases c3 : (rowK h x).samples.length = 40
                · rw [if_pos c3] at hc; omega
                · exact ⟨c1, c2, c3⟩
          obtain ⟨c1, c2, c3⟩ := hcc
          have h1 : samplesB (rowK h x).samples = true := h1
          have h2 : 0 < (rowK h x).samples.length := h2
          have h3 : (rowK h x).samples.length ≤ 40 := h3
          have hlen : ((rowK h x).samples ++ [smpX x]).length = (rowK h x).samples.length + 1 := by rw [List.length_append]; rfl
          have at1 : ∀ k, k < (rowK h x).samples.length → ((rowK h x).samples ++ [smpX x]).getD k (default : GSample) = (rowK h x).samples.getD k (default : GSample) := fun k hk => by rw [getD_app, if_pos hk]
          have at2 : ((rowK h x).samples ++ [smpX x]).getD (rowK h x).samples.length (default : GSample) = smpX x := by rw [getD_app, if_neg (Nat.lt_irrefl _), Nat.sub_self]; rfl
          refine sm_of (fun k hk => ?_) (fun k h0 hk => ?_) (by rw [hlen]; omega)
          · rw [hlen] at hk
            by_cases e3 : k < (rowK h x).samples.length
            · rw [at1 k e3]; exact (sm_at h1 e3).1
            · rw [show k = (rowK h x).samples.length by omega, at2]; exact hs
          · rw [hlen] at hk
            by_cases e3 : k < (rowK h x).samples.length
            · rw [at1 k e3, at1 (k - 1) (by omega)]; exact (sm_at h1 e3).2 h0
            · obtain rfl : k = (rowK h x).samples.length := by omega
              rw [at2, at1 _ (by omega)]
              show (takeLast h x).at_ < x.at_
              omega
        · rw [if_neg e]; exact G.smps k hk
    | false =>
      rw [tR_ins hir hc]
      have hlo := loF_le h x.name
      have hA : ∀ k, (insL h.rows (loF h x.name) ⟨x.name, addS h x⟩).getD k (default : GRow) = if k < loF h x.name then h.rows.getD k (default : GRow) else if k = loF h x.name then ⟨x.name, addS h x⟩ else h.rows.getD (k - 1) (default : GRow) := fun k => insL_at _ hlo k
      have hL : (insL h.rows (loF h x.name) ⟨x.name, addS h x⟩).length = h.rows.length + 1 := insL_len hlo
      have h8 : ¬ h.rows.length = 8 := fun e => by rw [tk_full8 hir e] at hc; omega
      have hl8 := G.len
      refine ⟨fun k hk => ?_, fun k hk => ?_, fun k hk => ?_, fun k h0 hk => ?_, by rw [hL]; omega⟩
      · rw [hL] at hk; rw [hA]
        split
        · exact G.name k (by omega)
        · split
          · exact hn
          · exact G.name (k - 1) (by omega)
      · rw [hL] at hk; rw [hA]
        split
        · exact G.some k (by omega)
        · split
          · show 0 < (addS h x).length; rw [addS_ins hir]; exact Nat.succ_pos _
          · exact G.some (k - 1) (by omega)
      · rw [hL] at hk; rw [hA]
        split
        · exact G.smps k (by omega)
        · split
          · show samplesB (addS h x) = true
            rw [addS_ins hir]
            refine sm_of (fun k hk => ?_) (fun k h0 hk => ?_) (show 1 ≤ 40 by decide)
            · obtain rfl : k = 0 := by have : k < 1 := hk; omega
              exact hs
            · have : k < 1 := hk; omega
          · exact G.smps (k - 1) (by omega)
      · rw [hL] at hk; rw [hA, hA]
        by_cases e1 : k < loF h x.name
        · rw [if_pos e1, if_pos (by omega)]; exact G.ord k h0 (by omega)
        · rw [if_neg e1]
          by_cases e2 : k = loF h x.name
          · rw [if_pos e2, if_pos (by omega)]
            exact (cmpS_lt _ x.name).1 (loF_lt (show k - 1 < loF h x.name by omega))
          · rw [if_neg e2]
            by_cases e3 : k = loF h x.name + 1
            · rw [if_neg (by omega), if_pos (by omega)]
              show Op.bytesLess x.name.toList (h.rows.getD (k - 1) (default : GRow)).name.toList = true
              have e4 : k - 1 = loF h x.name := by omega
              rw [e4]
              have h5 := loF_at (h := h) (s := x.name) (by omega)
              refine less_total ?_ (fun e => ?_)
              · cases h6 : Op.bytesLess (h.rows.getD (loF h x.name) (default : GRow)).name.toList x.name.toList with
                | false => rfl
                | true => have := (cmpS_lt _ _).2 h6; omega
              · have h6 := toList_inj' e
                unfold isRow at hir
                rw [h6, decide_eq_true (show loF h x.name < h.rows.length by omega), decide_eq_true rfl] at hir
                cases hir
            · rw [if_neg (by omega), if_neg (by omega)]; exact G.ord (k - 1) (by omega) (by omega)
  · rw [tR_old hc]; exact G
theorem hd_ok {h : GHead} (hg : goodHead ⟨h.rows, 0⟩ = true) : HdOk h := ⟨Nat.le_trans (good_len (h := ⟨h.rows, 0⟩) hg) (by decide), fun k hk => Nat.le_trans (smp_40 (good_at (h := ⟨h.rows, 0⟩) hg hk).2.2) (by decide)⟩
def takeV (h : GHead) (x : GSay) : GHead × Nat × Bool := if goodHead h = true ∧ sayB x = true ∧ ¬ h.offset = 1000 then (takeH h x, takeCode h x, true) else (⟨[], 0⟩, 0, false)
end Go.Proofs.Ytmfkmifkkplidaa


/-
  TakeSay: the reference and the program make the same.
-/
namespace Go.Proofs.Ytmfkmifkkplidaa
open Go.ChangeShapes Go.WideShapes Go.ChangeAt Go.RowKit Go.BigFrame Go.Deep
set_option linter.unusedVariables false
set_option linter.unusedSimpArgs false
theorem rowC0_hx {h : GHead} {K : Nat} {L : List Nat} (hK : L.contains K = true) (a b : Nat) : (rowC0 h K a b).hx L = true := match b with
  | 0 => rfl
  | 1 => hK
  | _ + 2 => rfl
end Go.Proofs.Ytmfkmifkkplidaa

