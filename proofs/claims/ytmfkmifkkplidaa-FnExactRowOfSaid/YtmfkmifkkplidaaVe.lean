/-
  A calculus for walks, part 5: loops, a function's body, variables that are made and written.
-/
import Derived.Test.YtmfkmifkkplidaaVd
namespace Go.Proofs.Ytmfkmifkkplidaa
open Go.ChangeShapes Go.WideShapes Go.ChangeAt Go.RowKit Go.BigFrame Go.Deep
set_option linter.unusedVariables false

set_option linter.unusedSimpArgs false
/-- What a loop's head keeps of what is known. -/
def EnvLe (e : Env) : Env → Prop
  | [] => True
  | (t, s) :: l => (∃ s', e.lookup t = some s' ∧ s' = s) ∧ EnvLe e l
def HLe (H : Heap) (id : Nat) : AObj → Prop
  | .trees n X => ∃ X', H.lookup id = some (.trees n X') ∧ ∀ i, i < n → X' i = X i
  | .cells l => ∃ o', H.lookup id = some o' ∧ o'.sz = (AObj.cells l).sz ∧ (AObj.cells l).n ≤ o'.n ∧ ∀ i j, i < (AObj.cells l).n → j < (AObj.cells l).sz → o'.f i j = (AObj.cells l).f i j
  | .arr sz n f => ∃ o', H.lookup id = some o' ∧ o'.sz = (AObj.arr sz n f).sz ∧ (AObj.arr sz n f).n ≤ o'.n ∧ ∀ i j, i < (AObj.arr sz n f).n → j < (AObj.arr sz n f).sz → o'.f i j = (AObj.arr sz n f).f i j
theorem HLe.refl {H : Heap} {id : Nat} {o : AObj} (h : H.lookup id = some o) : HLe H id o := by
  cases o with
  | trees n X => exact ⟨X, h, fun _ _ => rfl⟩
  | cells l => exact ⟨_, h, rfl, Nat.le_refl _, fun _ _ _ _ => rfl⟩
  | arr sz n f => exact ⟨_, h, rfl, Nat.le_refl _, fun _ _ _ _ => rfl⟩
theorem HLe.any {H : Heap} {id : Nat} {o : AObj} (h : HLe H id o) : ∃ o', H.lookup id = some o' ∧ o'.sz = o.sz ∧ o.n ≤ o'.n ∧ ∀ i j, i < o.n → j < o.sz → o'.f i j = o.f i j := by
  cases o with
  | trees n X =>
    obtain ⟨X', h1, _⟩ := h
    exact ⟨_, h1, rfl, Nat.le_refl _, fun i j hi => absurd hi (Nat.not_lt_zero _)⟩
  | cells l => exact h
  | arr sz n f => exact h
theorem HLe.mk {H : Heap} {id : Nat} {o o' : AObj} (h : H.lookup id = some o') (ht : o.isT = false) (h1 : o'.sz = o.sz) (h2 : o.n ≤ o'.n) (h3 : ∀ i j, i < o.n → j < o.sz → o'.f i j = o.f i j) : HLe H id o := by
  cases o with
  | trees n X => cases ht
  | cells l => exact ⟨o', h, h1, h2, h3⟩
  | arr sz n f => exact ⟨o', h, h1, h2, h3⟩
def HeapLe (H : Heap) : Heap → Prop
  | [] => True
  | (id, o) :: l => HLe H id o ∧ HeapLe H l
theorem HeapLe.one {H l : Heap} {id : Nat} {o : AObj} (h : H.lookup id = some o) (hl : HeapLe H l) : HeapLe H ((id, o) :: l) := ⟨HLe.refl h, hl⟩
structure SigLe (σ τ : Sig) : Prop where
  env : EnvLe σ.env τ.env
  heap : HeapLe σ.heap τ.heap
theorem EnvLe.get {e : Env} : ∀ {l : Env}, EnvLe e l → ∀ {t : Nat} {s : SV}, l.lookup t = some s → e.lookup t = some s
  | [], _, _, _, h => by simp at h
  | (t', s') :: l, ⟨⟨s1, h1, e1⟩, h2⟩, t, s, h => by
    simp only [List.lookup_cons] at h
    by_cases e : t = t'
    · subst e
      simp at h
      rw [← h, ← e1]; exact h1
    · have : (t == t') = false := by simpa using e
      rw [this] at h
      exact EnvLe.get h2 h
theorem HeapLe.get {H : Heap} : ∀ {l : Heap}, HeapLe H l → ∀ {id : Nat} {o : AObj}, l.lookup id = some o → HLe H id o
  | [], _, _, _, h => by simp at h
  | (t', s') :: l, ⟨h1, h2⟩, t, s, h => by
    simp only [List.lookup_cons] at h
    by_cases e : t = t'
    · subst e
      simp at h
      rw [← h]; exact h1
    · have : (t == t') = false := by simpa using e
      rw [this] at h
      exact HeapLe.get h2 h
theorem MemOk.le' {B : Nat} {ρ : Rho} {S : Nat → Prop} {H H' : Heap} {w : World} (h : MemOk B ρ S H w) (hl : ∀ id o, H'.lookup id = some o → HLe H id o) : MemOk B ρ S H' w where
  base := h.base
  low := h.low
  lt := h.lt
  cap id o ho := by
    obtain ⟨o', ho', e1, e2, e3⟩ := (hl id o ho).any
    exact Nat.le_trans e2 (h.cap id o' ho')
  obj id o ho hc := by
    obtain ⟨o', ho', e1, e2, e3⟩ := (hl id o ho).any
    obtain ⟨cs, e, h1, h2, h3, h4, h5, h6, h7⟩ := h.obj id o' ho' hc
    refine ⟨cs, e, h1, by rw [← e1]; exact h2, by omega, h4, h5, h6, fun i j hi hj => ?_⟩
    rw [← e3 i j hi hj, ← e1]
    exact h7 i j (by omega) (by rw [e1]; exact hj)
  inj id id' o o' ho ho' hne := by
    obtain ⟨p, hp, _⟩ := (hl id o ho).any
    obtain ⟨q, hq, _⟩ := (hl id' o' ho').any
    exact h.inj id id' p q hp hq hne
  tree0 := h.treeOf (Nat.le_refl _) (fun id n X hX => by
    obtain ⟨X', h1, h3⟩ := hl id _ hX
    exact ⟨X', h1, h3, rfl, rfl, rfl⟩) (fun id n X i b hX hi hb => ⟨rfl, (((h.tree id n X hX i hi).2) b hb).2.1, (((h.tree id n X hX i hi).2) b hb).2.2.1⟩) (fun id o ho _ => by
    obtain ⟨o', h1, _⟩ := (hl id o ho).any
    exact .inl ⟨o', h1, rfl⟩)
theorem MemOk.le {B : Nat} {ρ : Rho} {S : Nat → Prop} {H H' : Heap} {w : World} (h : MemOk B ρ S H w) (hl : HeapLe H H') : MemOk B ρ S H' w := h.le' fun _ _ ho => hl.get ho
theorem St.le {N : Nat} {w0 : Start} {ρ : Rho} {S : Nat → Prop} {σ τ : Sig} {a : Act} {w : World} (h : St N w0 ρ S σ a w) (hl : SigLe σ τ) : St N w0 ρ S τ a w :=
  ⟨h.size, h.defers, h.below, h.mem.le hl.heap, fun t s hs => h.env t s (hl.env.get hs)⟩
theorem exists_min {p : Nat → Prop} : ∀ n, p n → ∃ m, p m ∧ ∀ k, p k → m ≤ k := by
  intro n
  induction n using Nat.strongRecOn with
  | _ n ih =>
    intro h
    by_cases hk : ∃ k, k < n ∧ p k
    · obtain ⟨k, hk, hp⟩ := hk
      exact ih k hk hp
    · exact ⟨n, h, fun k hp => by
        rcases Nat.lt_or_ge k n with hlt | hge
        · exact absurd ⟨k, hlt, hp⟩ hk
        · exact hge⟩
noncomputable def minOf (p : Nat → Prop) : Nat := by
  classical exact if h : ∃ n, p n then (exists_min h.choose h.choose_spec).choose else 0
theorem minOf_spec {p : Nat → Prop} (h : ∃ n, p n) : p (minOf p) ∧ ∀ k, p k → minOf p ≤ k := by
  classical
  have e : minOf p = (exists_min h.choose h.choose_spec).choose := by unfold minOf; rw [dif_pos h]
  rw [e]
  exact (exists_min h.choose h.choose_spec).choose_spec
def LoopQ (Q : Exit → Sig → Prop) {ι : Type} (L : ι → Sig) (I : ι → Prop) (μ : ι → Nat) (i : ι) : Exit → Sig → Prop
  | .normal, σ => ∃ i', I i' ∧ μ i' < μ i ∧ SigLe σ (L i')
  | e, σ => Q e σ
section
variable {P : Program} {N : Nat} {w0 : Start} {σ : Sig} {Q : Exit → Sig → Prop}
theorem AW.le {c : Code} {τ : Sig} (hl : SigLe σ τ) (h : AW P N w0 c Q τ) : AW P N w0 c Q σ := fun ρ S a w Q' hQ hs => h ρ S a w Q' hQ (hs.le hl)
theorem AW.mono {c : Code} {Q' : Exit → Sig → Prop} (hq : ∀ e σ, Q e σ → Q' e σ) (h : AW P N w0 c Q σ) : AW P N w0 c Q' σ := fun ρ S a w Q'' hQ hs => h ρ S a w Q'' (fun e ρ S σ a w hs hh => hQ e ρ S σ a w hs (hq e σ hh)) hs
theorem AW.loop {ι : Type} {c : Code} (L : ι → Sig) (I : ι → Prop) (μ : ι → Nat) (i0 : ι) (h0 : I i0) (hl : SigLe σ (L i0)) (hb : ∀ i, I i → AW P N w0 c (LoopQ Q L I μ i) (L i)) : AW P N w0 (.loop c) Q σ := by
  intro ρ S a w Q' hQ hs
  let p : Act → World → Nat → Prop := fun a w n => ∃ i ρ S, I i ∧ St N w0 ρ S (L i) a w ∧ μ i = n
  refine wp_loop (fun a w => ∃ n, p a w n) (fun a w => minOf (p a w)) ⟨_, i0, ρ, S, h0, hs.le hl, rfl⟩ fun a w hI => ?_
  obtain ⟨⟨i, ρ, S, hi, hst, hn⟩, hmin⟩ := minOf_spec hI
  refine hb i hi ρ S a w _ (fun e ρ' S' σ' a' w' hs' hq => ?_) hst
  cases e
  case normal =>
    obtain ⟨i', hi', hlt, hle⟩ := hq
    have hp : p a' w' (μ i') := ⟨i', ρ', S', hi', hs'.le hle, rfl⟩
    refine ⟨⟨_, hp⟩, ?_⟩
    have := (minOf_spec ⟨_, hp⟩).2 _ hp
    omega
  all_goals exact hQ _ ρ' S' σ' a' w' hs' hq

/-! The body of a function. -/
def enumE : Nat → List SV → Env
  | _, [] => []
  | i, s :: l => (i, s) :: enumE (i + 1) l
/-- A result variable holds s. -/
inductive ResV (P : Program) (σ : Sig) : ResultVar → SV → Prop
  | tmp {t : Nat} {s : SV} : σ.env.lookup t = some s → ResV P σ (.tmp t) s
  | cell {t ty id sz : Nat} {o : AObj} : σ.env.lookup t = some (.one (.ptr id sz 0 0)) → plainB P ty = true → σ.heap.lookup id = some o → o.sz = sz → 0 < o.n → 0 < o.sz → ResV P σ (.cell t ty) (.one (o.f 0 0))
  | cells {t ty n id sz : Nat} {o : AObj} : σ.env.lookup t = some (.one (.ptr id sz 0 0)) → aggB P ty n = true → σ.heap.lookup id = some o → o.sz = sz → 0 < o.n → n ≤ o.sz → ResV P σ (.cell t ty) (.agg ((List.range' 0 n).map (o.f 0)))
def ResL (P : Program) (σ : Sig) (rs : List ResultVar) (s : SV) : Prop :=
  (∃ x, rs = [x] ∧ ResV P σ x s) ∨ (∃ x y s1 s2, rs = [x, y] ∧ ResV P σ x s1 ∧ ResV P σ y s2 ∧ s = .tup2 s1 s2) ∨ (∃ x y z s1 s2 s3, rs = [x, y, z] ∧ ResV P σ x s1 ∧ ResV P σ y s2 ∧ ResV P σ z s3 ∧ s = .tup3 s1 s2 s3)
def resV (tmps : Array Value) : ResultVar → Sem Value
  | .tmp t => pure (tmps.getD t undef)
  | .cell ad t => do loadVar t (← asAddr (tmps.getD ad undef))
theorem results_eq (fn : Func) (tmps : Array Value) : results fn tmps = (do let vs ← fn.results.mapM (resV tmps); pure (if h : vs.size = 1 then vs[0] else .tuple vs)) := rfl
theorem ResV.run {ρ : Rho} {S : Nat → Prop} {a : Act} {w : World} (hs : St N w0 ρ S σ a w) {x : ResultVar} {s : SV} (h : ResV P σ x s) :
    ∃ v, RS ρ w S s v ∧ (resV a.tmps x).run P w = .ok v w := by
  cases h with
  | tmp h => exact ⟨_, hs.env _ _ h, rfl⟩
  | @cell t ty id sz o h hT ho hsz hn hz =>
    have e : a.tmps.getD t undef = .pointer (some ⟨(ρ id).1, 0 * sz + 0, none⟩) := hs.env _ _ h
    obtain ⟨u, hu, hr⟩ := hs.cell ho hn hz
    subst hsz
    refine ⟨u, hr, ?_⟩
    have := loadAt_one (P := P) hT hu
    simp only [Instr.loadAt, Instr.sureAddr, Sem.run_bind, Sem.run_pure, Result.andThen_ok] at this
    simp only [resV, e, asAddr, Sem.run_bind, Sem.run_pure, Result.andThen_ok, this]
  | @cells t ty n id sz o h hT ho hsz hn hz =>
    have e : a.tmps.getD t undef = .pointer (some ⟨(ρ id).1, 0 * sz + 0, none⟩) := hs.env _ _ h
    obtain ⟨us, h1, h2, h3⟩ := RL.of_fun (ρ := ρ) (w := w) (S := S) (g := o.f 0) (c := fun j => w.cell? ⟨(ρ id).1, 0 * o.sz + j, none⟩) n 0 fun j hj => by
      obtain ⟨u, hu, hr⟩ := hs.cell ho hn (j := j) (by omega)
      exact ⟨u, by simpa using hu, by simpa using hr⟩
    subst h2 hsz
    refine ⟨.agg us.toArray, ⟨us.toArray, rfl, h1⟩, ?_⟩
    have := loadAt_agg (P := P) (ad := ⟨(ρ id).1, 0 * o.sz + 0, none⟩) (w := w) hT fun j u hu => by
      have := h3 j u hu
      simp only [Nat.zero_add] at this
      rw [Addr.add_lit]
      simpa using this
    simp only [Instr.loadAt, Instr.sureAddr, Sem.run_bind, Sem.run_pure, Result.andThen_ok] at this
    simp only [resV, e, asAddr, Sem.run_bind, Sem.run_pure, Result.andThen_ok, this]
theorem ResL.run {ρ : Rho} {S : Nat → Prop} {a : Act} {w : World} (hs : St N w0 ρ S σ a w) {fn : Func} {s : SV} (h : ResL P σ fn.results.toList s) :
    ∃ v, RS ρ w S s v ∧ (results fn a.tmps).run P w = .ok v w := by
  obtain ⟨name, origin, targs, params, rts, nfree, ntmps, res, body, norace, ours, file, endLine, litNo, met, tn⟩ := fn
  simp only at h
  rcases h with ⟨x, e, hx⟩ | ⟨x, y, s1, s2, e, hx, hy, rfl⟩ | ⟨x, y, z, s1, s2, s3, e, hx, hy, hz, rfl⟩
  · have e' : res = #[x] := by rw [← Array.toArray_toList (xs := res), e]
    subst e'
    obtain ⟨v, hv, hr⟩ := hx.run hs
    refine ⟨v, hv, ?_⟩
    simp only [results_eq, List.mapM_toArray, List.mapM_cons, List.mapM_nil, Sem.run_bind, Sem.run_pure, hr, Result.andThen_ok, map_eq_pure_bind]
    rfl
  · have e' : res = #[x, y] := by rw [← Array.toArray_toList (xs := res), e]
    subst e'
    obtain ⟨v, hv, hr⟩ := hx.run hs
    obtain ⟨v2, hv2, hr2⟩ := hy.run hs
    refine ⟨_, ⟨v, v2, rfl, hv, hv2⟩, ?_⟩
    simp only [results_eq, List.mapM_toArray, List.mapM_cons, List.mapM_nil, Sem.run_bind, Sem.run_pure, hr, hr2, Result.andThen_ok, map_eq_pure_bind]
    rfl
  · have e' : res = #[x, y, z] := by rw [← Array.toArray_toList (xs := res), e]
    subst e'
    obtain ⟨v, hv, hr⟩ := hx.run hs
    obtain ⟨v2, hv2, hr2⟩ := hy.run hs
    obtain ⟨v3, hv3, hr3⟩ := hz.run hs
    refine ⟨_, ⟨v, v2, v3, rfl, hv, hv2, hv3⟩, ?_⟩
    simp only [results_eq, List.mapM_toArray, List.mapM_cons, List.mapM_nil, Sem.run_bind, Sem.run_pure, hr, hr2, hr3, Result.andThen_ok, map_eq_pure_bind]
    rfl
/-- Where a body ends. -/
def RetQ (P : Program) (fn : Func) (r : SV) : Exit → Sig → Prop
  | .ret, σ => ResL P σ fn.results.toList r
  | .normal, σ => ResL P σ fn.results.toList r
  | _, _ => False
theorem DSs.get {w : World} {S : Nat → Prop} : ∀ {l : List SV} {us : List Value} {i t : Nat} {s : SV}, DSs w S l us → (enumE i l).lookup t = some s → ∃ j u, t = i + j ∧ us[j]? = some u ∧ DS w S s u
  | [], _, _, _, _, _, h => by simp [enumE] at h
  | x :: l, _, i, t, s, ⟨u, us, e, h1, h2⟩, h => by
    subst e
    simp only [enumE, List.lookup_cons] at h
    by_cases e : t = i
    · subst e
      simp at h
      subst h
      exact ⟨0, u, rfl, rfl, h1⟩
    · have : (t == i) = false := by simpa using e
      rw [this] at h
      obtain ⟨j, u', e1, e2, e3⟩ := DSs.get h2 h
      exact ⟨j + 1, u', by omega, by simpa using e2, e3⟩
theorem DSs.len {w : World} {S : Nat → Prop} : ∀ {l : List SV} {us : List Value}, DSs w S l us → us.length = l.length
  | [], us, h => by rw [show us = [] from h]; rfl
  | _ :: _, _, ⟨_, _, e, _, h2⟩ => by rw [e]; simp [DSs.len h2]
theorem Fn.of_body {f : FuncId} {fn : Func} {c : Code} {args : List SV} {r : SV} (hf : P.funcs[f]? = some fn) (hb : fn.body = some c) (hle : args.length ≤ fn.ntmps) (hp : r.Plain)
    (h : ∀ w0, AW P fn.ntmps w0 c (RetQ P fn r) ⟨enumE 0 args, []⟩) : Fn P f args r := by
  intro w S vs hS hd
  have hl := hd.len
  refine calls_of_wp hf hb ?_
  refine h ⟨w.heap.size, w, S, w, ⟨fun _ => (0, 0), w.heap.size, fun _ _ => undef, fun _ _ _ => False, fun _ => 0⟩⟩ ⟨fun _ => (0, 0), w.heap.size, fun _ _ => undef, fun _ _ _ => False, fun _ => 0⟩ S _ w _ (fun e ρ S' σ a w' hs hq => ?_) ⟨?_, rfl, ⟨Below.refl _ _, Same.refl _ _, fun _ _ => .refl _ _⟩, ⟨rfl, Nat.le_refl _, hS, fun id o ho => by simp at ho, fun id o ho => by simp at ho, fun id id' o o' ho => by simp at ho, fun id n X ho => by simp at ho⟩, ?_⟩
  · have fin : ResL P σ fn.results.toList r → a.defers = [] ∧ ∃ v, (results fn a.tmps).run P w' = .ok v w' ∧ (Ending.returned v = .returned r.val ∧ Below w.heap.size w w') := fun hr => by
      obtain ⟨v, hv, hrun⟩ := hr.run hs
      refine ⟨hs.defers, v, hrun, by rw [hp.eq hv], hs.below.old⟩
    cases e
    case ret => exact fin hq
    case normal => exact fin hq
    all_goals exact hq.elim
  · simp [hl]; omega
  · intro t s ht
    obtain ⟨j, u, e1, e2, e3⟩ := hd.get ht
    have hj : j < vs.length := (List.getElem?_eq_some_iff.1 e2).1
    have : ((vs.toArray ++ Array.replicate (fn.ntmps - vs.toArray.size) undef).getD t undef) = u := by
      rw [Array.getD_eq_getD_getElem?, Array.getElem?_append_left (by simp; omega)]
      simp [show t = j by omega, e2]
    show RS _ w S s ((vs.toArray ++ Array.replicate (fn.ntmps - vs.toArray.size) undef).getD t undef)
    rw [this]
    exact e3.toRS
end
end Go.Proofs.Ytmfkmifkkplidaa
