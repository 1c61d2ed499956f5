/-
  A calculus for walks, part 26: rows of the walk's own that become trees; three results.
-/
import Derived.Test.YtmfkmifkkplidaaUc
namespace Go.Proofs.Ytmfkmifkkplidaa
open Go.ChangeShapes Go.WideShapes Go.ChangeAt Go.RowKit Go.BigFrame Go.Deep
set_option linter.unusedVariables false

set_option linter.unusedSimpArgs false
section
variable {P : Program} {N : Nat} {w0 : Start} {σ : Sig} {ops : Array Oper} {rest : List Oper} {o : Oper} {Q : Sig → Prop}
theorem St.closeRow {ρ : Rho} {S : Nat → Prop} {a : Act} {w : World} (hs : St N w0 ρ S σ a w) {t id K n sz m m' : Nat} {ob : AObj} {X : Nat → AV} {g : Nat → Nat → AV} (ht : σ.env.lookup t = some (.one (.own id sz m))) (hob : σ.heap.lookup id = some ob) (hT : ob.isT = false) (hsz : ob.sz = sz) (hm : m ≤ ob.n)
    (hK : σ.heap.lookup K = some (.trees n X)) (hlt : Nat.blt K 1000000 = true) (hX : X n = .lst sz m' g) (hm' : m' = m) (hf : ∀ i j, i < m → j < sz → ob.f i j = g i j) (hg : ∀ i j, i < m → j < sz → (g i j).scl = true) :
    ∃ ρ', St N w0 ρ' S ⟨(t, .one (.tre K n)) :: σ.env, (K, .trees (n + 1) X) :: σ.heap.filter fun p => p.1 != id⟩ a w := by
  have hne : K ≠ id := fun e => by subst e; rw [hK] at hob; cases hob; cases hT
  have hv : R ρ w S (.own id sz m) (a.tmps.getD t undef) := hs.env _ _ ht
  generalize hvv : a.tmps.getD t undef = v at hv
  have hTr : Tr w (X n) v (fp ρ σ.heap fun a _ => a = id) := by
    rw [hX]
    exact Tv.sound hs.mem (Tv.flatN hm' hob hT hsz hm rfl hf hg) hv
  have hlt' : K < 1000000 := by simpa [Nat.blt_eq] using hlt
  have htn : ρ.tn K = n := (hs.mem.tree0 K n X hK).1
  have hbin : ∀ b, fp ρ σ.heap (fun a _ => a = id) b → (ρ id).2 ≠ 0 ∧ (ρ id).1 = b := fun b hb => by
    obtain ⟨a', c', ha, ⟨_, o', ho', _, hc, e⟩ | ⟨n', X', hX', _⟩⟩ := hb
    · subst ha; exact ⟨hc, e⟩
    · subst ha; rw [hob] at hX'; cases hX'; cases hT
  let ρ' : Rho := ⟨ρ.m, ρ.base, fun k q => if k = K ∧ q = n then v else ρ.tv k q, fun k q => if k = K ∧ q = n then fp ρ σ.heap (fun a _ => a = id) else ρ.tb k q, fun k => if k = K then n + 1 else ρ.tn k⟩
  have hAt : ∀ k, k ≠ K → Rho.At ρ ρ' k := fun k hk => ⟨rfl, by funext q; simp [ρ', hk], by funext q; simp [ρ', hk], by simp [ρ', hk]⟩
  have hkeep : ∀ {x : AV} {u : Value}, R ρ w S x u → R ρ' w S x u := by
    intro x
    induction x with
    | tre k i =>
      rintro u ⟨e, hi, hsl⟩
      by_cases hk : k = K
      · subst hk
        refine ⟨?_, ?_, hsl⟩
        · rw [e]; show _ = (if k = k ∧ i = n then _ else _); rw [if_neg (by omega)]
        · show i < (if k = k then _ else _); rw [if_pos rfl]; omega
      · have h1 := hAt k hk
        exact ⟨by rw [h1.v]; exact e, by rw [h1.n]; exact hi, hsl⟩
    | fn g m caps ih =>
      rintro u ⟨vs, e, hm, hc⟩
      refine ⟨vs, e, hm, fun j hj => ?_⟩
      obtain ⟨u, hu, hr⟩ := hc j hj
      exact ⟨u, hu, ih j hr⟩
    | frs x => intro u h; exact h
    | lst _ _ _ => intro u h; exact h
    | ref _ _ => intro u h; exact h
    | int _ _ => exact fun h => h
    | bool _ => exact fun h => h
    | str _ => exact fun h => h
    | con _ => exact fun h => h
    | ptr _ _ _ _ => exact fun h => h
    | own _ _ _ => exact fun h => h
  have hkeepL : ∀ {l : List AV} {us : List Value}, RL ρ w S l us → RL ρ' w S l us := by
    intro l
    induction l with
    | nil => exact fun h => h
    | cons x l ih => rintro us ⟨u, us', e, h1, h2⟩; exact ⟨u, us', e, hkeep h1, ih h2⟩
  have hkeepS : ∀ {s : SV} {u : Value}, RS ρ w S s u → RS ρ' w S s u := by
    intro s
    induction s with
    | one x => exact hkeep
    | agg l => rintro u ⟨us, e, h⟩; exact ⟨us, e, hkeepL h⟩
    | tup2 x y ih1 ih2 => rintro u ⟨a, b, e, h1, h2⟩; exact ⟨a, b, e, ih1 h1, ih2 h2⟩
    | tup3 x y z ih1 ih2 ih3 => rintro u ⟨a, b, c, e, h1, h2, h3⟩; exact ⟨a, b, c, e, ih1 h1, ih2 h2, ih3 h3⟩
    | gd b s ih => rintro u ⟨h1, h2⟩; exact ⟨fun hb => ih (h1 hb), h2⟩
  have conv : ∀ {k p}, ((K, AObj.trees (n + 1) X) :: σ.heap.filter fun p => p.1 != id).lookup k = some p → k ≠ id ∧ ∃ p', σ.heap.lookup k = some p' ∧ (k ≠ K → p' = p) := fun {k p} hp => by
    rcases lookup_put hp with ⟨rfl, rfl⟩ | ⟨hk, hp⟩
    · exact ⟨hne, _, hK, fun h => absurd rfl h⟩
    · obtain ⟨f1, f2⟩ := filter_lookup hp
      exact ⟨f1, p, f2, fun _ => rfl⟩
  refine ⟨ρ', ⟨hs.size, hs.defers, ⟨hs.below.old, hs.below.same, fun k hk => (hs.below.ids k hk).trans (hAt k (by omega))⟩, ⟨hs.mem.base, hs.mem.low, hs.mem.lt, ?_, ?_, ?_, ?_⟩, fun t' s ht' => ?_⟩⟩
  · intro k p hp
    rcases lookup_put hp with ⟨rfl, rfl⟩ | ⟨_, hp⟩
    · exact Nat.zero_le _
    · exact hs.mem.cap k p (filter_lookup hp).2
  · intro k p hp hc
    rcases lookup_put hp with ⟨rfl, rfl⟩ | ⟨_, hp⟩
    · obtain ⟨cs, e, h1, h2, h3, h4, h5, h6, h7⟩ := hs.mem.obj k _ hK hc
      exact ⟨cs, e, h1, h2, h3, h4, h5, h6, fun i j hi => absurd hi (Nat.not_lt_zero _)⟩
    · obtain ⟨cs, e, h1, h2, h3, h4, h5, h6, h7⟩ := hs.mem.obj k p (filter_lookup hp).2 hc
      refine ⟨cs, e, h1, h2, h3, h4, h5, h6, fun i j hi hj => ?_⟩
      obtain ⟨u, hu, hr⟩ := h7 i j hi hj
      exact ⟨u, hu, hkeep hr⟩
  · intro k k' p p' hp hp' hne' hc hc'
    obtain ⟨_, q, hq, _⟩ := conv hp
    obtain ⟨_, q', hq', _⟩ := conv hp'
    exact hs.mem.inj k k' q q' hq hq' hne' hc hc'
  · intro k m2 Y hY
    have cell : ∀ k m2 Y, ((K, AObj.trees (n + 1) X) :: σ.heap.filter fun p => p.1 != id).lookup k = some (.trees m2 Y) → ∀ i, i < m2 → (∃ m3 Y3, σ.heap.lookup k = some (.trees m3 Y3) ∧ i < m3 ∧ Y i = Y3 i ∧ ρ'.tv k i = ρ.tv k i ∧ ρ'.tb k i = ρ.tb k i ∧ k ≠ id) ∨ (k = K ∧ i = n ∧ Y i = X n ∧ ρ'.tv k i = v ∧ ρ'.tb k i = fp ρ σ.heap (fun a _ => a = id)) := by
      intro k m2 Y hY i hi
      rcases lookup_put hY with ⟨rfl, e⟩ | ⟨hk, hY⟩
      · cases e
        by_cases hin : i < n
        · exact .inl ⟨n, X, hK, hin, rfl, if_neg (by omega), if_neg (by omega), hne⟩
        · obtain rfl : i = n := by omega
          exact .inr ⟨rfl, rfl, rfl, if_pos ⟨rfl, rfl⟩, if_pos ⟨rfl, rfl⟩⟩
      · obtain ⟨f1, f2⟩ := filter_lookup hY
        exact .inl ⟨m2, Y, f2, hi, rfl, by rw [(hAt k hk).v], by rw [(hAt k hk).b], f1⟩
    refine ⟨?_, fun i hi => ?_⟩
    · rcases lookup_put hY with ⟨rfl, e⟩ | ⟨hk, hY⟩
      · cases e
        show (if k = k then _ else _) = _
        rw [if_pos rfl]
      · rw [(hAt k hk).n]; exact (hs.mem.tree0 k m2 Y (filter_lookup hY).2).1
    rcases cell k m2 Y hY i hi with ⟨m3, Y3, g1, g2, g3, g4, g5, g6⟩ | ⟨rfl, rfl, g3, g4, g5⟩
    · obtain ⟨t1, t2⟩ := hs.mem.tree k m3 Y3 g1 i g2
      rw [g3, g4, g5]
      refine ⟨t1, fun b hb => ?_⟩
      obtain ⟨q1, q2, q3, q4, q5⟩ := t2 b hb
      refine ⟨q1, q2, q3, fun k' p hp hc => ?_, fun k' m4 Y4 i' hY4 hi' hne' => ?_⟩
      · obtain ⟨_, p', hp', _⟩ := conv hp
        exact q4 k' p' hp' hc
      · rcases cell k' m4 Y4 hY4 i' hi' with ⟨m5, Y5, f1, f2, f3, f4, f5, f6⟩ | ⟨rfl, rfl, f3, f4, f5⟩
        · rw [f5]; exact q5 k' m5 Y5 i' f1 f2 hne'
        · rw [f5]
          intro hb'
          obtain ⟨c1, c2⟩ := hbin b hb'
          exact q4 id ob hob c1 c2
    · rw [g3, g4, g5]
      refine ⟨hTr, fun b hb => ?_⟩
      obtain ⟨q1, q2, q3⟩ := fp_in hs.mem hb
      obtain ⟨c1, c2⟩ := hbin b hb
      refine ⟨q1, q2, q3, fun k' p hp hc => ?_, fun k' m4 Y4 i' hY4 hi' hne' => ?_⟩
      · obtain ⟨f1, p', hp', _⟩ := conv hp
        rw [← c2]
        exact hs.mem.inj k' id p' ob hp' hob f1 hc c1
      · rcases cell k' m4 Y4 hY4 i' hi' with ⟨m5, Y5, f1, f2, f3, f4, f5, f6⟩ | ⟨rfl, rfl, f3, f4, f5⟩
        · rw [f5]
          intro hb'
          exact ((hs.mem.tree k' m5 Y5 f1 i' f2).2 b hb').2.2.2.1 id ob hob c1 c2
        · exact absurd ⟨rfl, rfl⟩ hne'
  · rcases lookup_put ht' with ⟨rfl, rfl⟩ | ⟨_, ht2⟩
    · refine ⟨?_, ?_, ?_⟩
      · show a.tmps.getD _ undef = (if K = K ∧ n = n then v else _)
        rw [if_pos ⟨rfl, rfl⟩]; exact hvv
      · show n < (if K = K then n + 1 else _)
        rw [if_pos rfl]; omega
      · obtain ⟨A, e, _⟩ := hv
        exact ⟨A, _, _, hvv.trans e⟩
    · exact hkeepS (hs.env t' s ht2)
theorem ARun.closeRow (t id K n sz m : Nat) {m' : Nat} {ob : AObj} {X : Nat → AV} {g : Nat → Nat → AV} (ht : σ.env.lookup t = some (.one (.own id sz m))) (hob : σ.heap.lookup id = some ob) (hT : ob.isT = false) (hsz : ob.sz = sz) (hm : m ≤ ob.n)
    (hK : σ.heap.lookup K = some (.trees n X)) (hlt : Nat.blt K 1000000 = true) (hX : X n = .lst sz m' g) (hm' : m' = m) (hf : ∀ i j, i < m → j < sz → ob.f i j = g i j) (hg : ∀ i j, i < m → j < sz → (g i j).scl = true)
    (h : ARun P N w0 ops Q rest ⟨(t, .one (.tre K n)) :: σ.env, (K, .trees (n + 1) X) :: σ.heap.filter fun p => p.1 != id⟩) : ARun P N w0 ops Q rest σ := by
  intro ρ S a w Q' hQ hs
  obtain ⟨ρ', hs'⟩ := hs.closeRow ht hob hT hsz hm hK hlt hX hm' hf hg
  exact h ρ' S a w Q' hQ hs'
theorem PureOp.ext3a {x : Operand} {s u v : SV} (ho : o.op = .extract x 0) (hx : Kn σ x (.tup3 s u v)) : PureOp P o σ s := by
  refine PureOp.val fun N w0 ρ S ac w hs => ?_
  obtain ⟨a, b, c, e1, h1, h2, h3⟩ := hx.sound hs
  refine ⟨a, h1, fun w' _ => ?_⟩
  generalize ac.eval = ev at e1 ⊢
  simp [execOp, ho, e1, Instr.extract, go_sem]
theorem PureOp.ext3b {x : Operand} {s u v : SV} (ho : o.op = .extract x 1) (hx : Kn σ x (.tup3 s u v)) : PureOp P o σ u := by
  refine PureOp.val fun N w0 ρ S ac w hs => ?_
  obtain ⟨a, b, c, e1, h1, h2, h3⟩ := hx.sound hs
  refine ⟨b, h2, fun w' _ => ?_⟩
  generalize ac.eval = ev at e1 ⊢
  simp [execOp, ho, e1, Instr.extract, go_sem]
theorem PureOp.ext3c {x : Operand} {s u v : SV} (ho : o.op = .extract x 2) (hx : Kn σ x (.tup3 s u v)) : PureOp P o σ v := by
  refine PureOp.val fun N w0 ρ S ac w hs => ?_
  obtain ⟨a, b, c, e1, h1, h2, h3⟩ := hx.sound hs
  refine ⟨c, h3, fun w' _ => ?_⟩
  generalize ac.eval = ev at e1 ⊢
  simp [execOp, ho, e1, Instr.extract, go_sem]
end
/-- A row whose column c lies in a family, one tree a row. -/
theorem Tv.colK {H : Heap} {id K sz n n' c : Nat} {o : AObj} {g : Nat → Nat → AV} {X : Nat → AV} {U : Nat → Nat → Prop} (hn' : n' = n) (ho : H.lookup id = some o) (hT : o.isT = false) (hs : o.sz = sz) (hn : n ≤ o.n) (hU : U id 0)
    (hc : ∀ i j, i < n → j < sz → j ≠ c → o.f i j = g i j ∧ (g i j).scl = true) (hk : ∀ i, i < n → o.f i c = .tre K i ∧ X i = g i c) (hK : H.lookup K = some (.trees n X)) (hne : K ≠ id) (hUK : ∀ b, U K b) : Tv H (.own id sz n) (.lst sz n' g) U := by
  subst hn'
  refine .own (fun i j a b => j = c ∧ a = K ∧ b = i) ho hT hs hn hU (fun i j hi hj => ?_) (fun i j a b _ _ h => ⟨h.2.1 ▸ hUK b, h.2.1 ▸ hne⟩) (fun i j i' j' _ _ _ _ hne' a b h h' => hne' ⟨h.2.2.symm.trans h'.2.2, h.1.trans h'.1.symm⟩)
  by_cases hjc : j = c
  · subst hjc
    obtain ⟨h1, h2⟩ := hk i hi
    rw [h1, ← h2]
    exact .tre hK hi ⟨rfl, rfl, rfl⟩
  · obtain ⟨h1, h2⟩ := hc i j hi hj hjc
    rw [h1]; exact Tv.scl h2
end Go.Proofs.Ytmfkmifkkplidaa
