/-
  A calculus for walks, part 17: rows of the walk's own that begin as nil.
-/
import Derived.Test.YtmfkmifkkplidaaVq
namespace Go.Proofs.Ytmfkmifkkplidaa
open Go.ChangeShapes Go.WideShapes Go.ChangeAt Go.RowKit Go.BigFrame Go.Deep
set_option linter.unusedVariables false

set_option linter.unusedSimpArgs false
section
variable {P : Program} {N : Nat} {w0 : Start} {σ : Sig} {ops : Array Oper} {rest : List Oper} {o : Oper} {Q : Sig → Prop}
/-- An object without a block: a row of nothing. -/
theorem St.phantomAt (b0 : Nat) {ρ : Rho} {S : Nat → Prop} {a : Act} {w : World} (hs : St N w0 ρ S σ a w) {id : Nat} (hf : Fr id σ) (sz : Nat) (f : Nat → Nat → AV) :
    ∃ ρ' : Rho, ρ' id = (b0, 0) ∧ St N w0 ρ' S (σ.set id (.arr sz 0 f)) a w := by
  refine ⟨⟨fun k => if k = id then (b0, 0) else ρ k, ρ.base, ρ.tv, ρ.tb, ρ.tn⟩, by simp, ?_⟩
  have hρ : ∀ k, k ≠ id → (if k = id then (b0, 0) else ρ k) = ρ k := fun k hk => if_neg hk
  have hsame : Same S w S w := Same.refl _ _
  have hρA : ∀ k, k ≠ id → Rho.At ρ ⟨fun k => if k = id then (b0, 0) else ρ k, ρ.base, ρ.tv, ρ.tb, ρ.tn⟩ k := fun k hk => ⟨hρ k hk, rfl, rfl, rfl⟩
  refine ⟨hs.size, hs.defers, ⟨hs.below.old, hs.below.same, fun k hk => (hs.below.ids k hk).trans (hρA k (fun e => by have := hf.small; omega))⟩, ⟨hs.mem.base, hs.mem.low, hs.mem.lt, ?_, ?_, ?_, ?_⟩, ?_⟩
  · intro k p hp
    rcases lookup_put hp with ⟨rfl, rfl⟩ | ⟨hne, hp⟩
    · simp [AObj.n]
    · simp only [hρ k hne]; exact hs.mem.cap k p hp
  · intro k p hp hc
    rcases lookup_put hp with ⟨rfl, rfl⟩ | ⟨hne, hp⟩
    · simp at hc
    · obtain ⟨_, hno⟩ := hf.heap.get hp
      simp only [hρ k hne] at hc
      obtain ⟨cs', e', g1, g2, g3, g4, g5, g6, g7⟩ := hs.mem.obj k p hp hc
      simp only [hρ k hne]
      refine ⟨cs', e', g1, g2, g3, g4, g5, g6, fun i j hi hj => ?_⟩
      obtain ⟨u, hu, hr⟩ := g7 i j hi hj
      exact ⟨u, hu, hr.keep (ρ := ρ) hsame ⟨rfl, fun q => by
        by_cases hq : q = id
        · subst hq; exact .inr (hno.at_ i j)
        · exact .inl (hρA q hq)⟩⟩
  · intro k k' p p' hp hp' hne hc hc'
    rcases lookup_put hp with ⟨rfl, rfl⟩ | ⟨q1, hp2⟩ <;> rcases lookup_put hp' with ⟨rfl, rfl⟩ | ⟨q2, hp2'⟩
    · exact absurd rfl hne
    · simp at hc
    · simp at hc'
    · simp only [hρ k q1] at hc
      simp only [hρ k' q2] at hc'
      simp only [hρ k q1, hρ k' q2]
      exact hs.mem.inj k k' p p' hp2 hp2' hne hc hc'
  · refine hs.mem.treeOf (Nat.le_refl _) (fun k n X hX => ?_) (fun k n X i b hX hi hb' => ?_) (fun k p hp hc => ?_)
    · rcases lookup_put hX with ⟨rfl, e⟩ | ⟨hne, hX⟩
      · cases e
      · exact ⟨X, hX, fun _ _ => rfl, rfl, rfl, rfl⟩
    · obtain ⟨q1, q2, q3, _⟩ := (hs.mem.tree k n X hX i hi).2 b hb'
      exact ⟨rfl, q2, q3⟩
    · rcases lookup_put hp with ⟨rfl, rfl⟩ | ⟨hne, hp⟩
      · simp at hc
      · exact .inl ⟨p, hp, hρ k hne⟩
  · intro t s ht
    refine (hs.env t s ht).keep (ρ := ρ) hsame ⟨rfl, fun q => ?_⟩
    by_cases hq : q = id
    · subst hq
      exact .inr (List.all_eq_true.1 hf.env _ (lookup_mem ht))
    · exact .inl (hρA q hq)
theorem St.phantom {ρ : Rho} {S : Nat → Prop} {a : Act} {w : World} (hs : St N w0 ρ S σ a w) {id : Nat} (hf : Fr id σ) (sz : Nat) (f : Nat → Nat → AV) :
    ∃ ρ' : Rho, ρ' id = (0, 0) ∧ St N w0 ρ' S (σ.set id (.arr sz 0 f)) a w := hs.phantomAt 0 hf sz f
/-- The nil slice, as a row of the walk's own. -/
theorem ARun.nilOwn {d id sz : Nat} {f : Nat → Nat → AV} (ho : o.op = .assign (.const (.slice none 0 0))) (hf : Fr id σ) (hg : o.guard = none) (hd : o.dst = some d) (hN : d < N)
    (h : ARun P N w0 ops Q rest ((σ.set id (.arr sz 0 f)).put d (.one (.own id sz 0)))) : ARun P N w0 ops Q (o :: rest) σ := by
  intro ρ S a w Q' hQ hs
  refine wpList_plain hg fun K hK => ?_
  obtain ⟨ρ', e1, hs'⟩ := hs.phantom hf sz f
  have hrun : (execOp a.eval o).run P w = .ok (.value (.slice none 0 0)) w := by
    generalize ev_ : a.eval = ev
    have hc : ev (.const (.slice none 0 0)) = .slice none 0 0 := by rw [← ev_]; rfl
    simp [execOp, ho, hc, go_sem]
  unfold Oper.wp
  rw [hrun]
  simp only [Oper.upon, hd]
  refine hK _ _ (h ρ' S _ _ Q' hQ (hs'.put hN ?_))
  show ∃ A, Value.slice _ _ _ = .slice A 0 (ρ' id).2 ∧ 0 ≤ (ρ' id).2 ∧ (ρ' id).2 ≤ maxLen ∧ (A = some ⟨(ρ' id).1, 0, none⟩ ∨ (A = none ∧ (ρ' id).2 = 0))
  rw [e1]
  exact ⟨none, rfl, Nat.le_refl _, by decide, .inr ⟨rfl, rfl⟩⟩
end
end Go.Proofs.Ytmfkmifkkplidaa
