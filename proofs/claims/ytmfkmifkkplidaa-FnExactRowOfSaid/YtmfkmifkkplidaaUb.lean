/-
  A calculus for walks, part 24: slice literals of one element; loops whose objects are renamed.
-/
import Derived.Test.YtmfkmifkkplidaaUa
import Derived.Great.BuildSlice
namespace Go.Proofs.Ytmfkmifkkplidaa
open Go.ChangeShapes Go.WideShapes Go.ChangeAt Go.RowKit Go.BigFrame Go.Deep
set_option linter.unusedVariables false

set_option linter.unusedSimpArgs false
theorem foldl_set : ∀ (l : List Value) (k : Nat) (a : Array Value), ((l.zipIdx k).foldl (fun cs (p : Value × Nat) => cs.setIfInBounds (0 + p.2) p.1) a).size = a.size ∧ ∀ q, q < a.size → ((l.zipIdx k).foldl (fun cs (p : Value × Nat) => cs.setIfInBounds (0 + p.2) p.1) a)[q]? = if k ≤ q ∧ q < k + l.length then l[q - k]? else a[q]?
  | [], k, a => ⟨rfl, fun q _ => by rw [if_neg (by simp only [List.length_nil]; omega)]; rfl⟩
  | v :: l, k, a => by
    obtain ⟨h1, h2⟩ := foldl_set l (k + 1) (a.setIfInBounds (0 + k) v)
    rw [List.zipIdx_cons, List.foldl_cons]
    refine ⟨by rw [h1]; simp, fun q hq => ?_⟩
    rw [h2 q (by simpa using hq)]
    by_cases hqk : q = k
    · subst hqk
      rw [if_neg (by omega)]; simp [hq]
    · by_cases hin : k + 1 ≤ q ∧ q < k + 1 + l.length
      · rw [if_pos hin, if_pos (by simp; omega), show q - k = (q - (k + 1)) + 1 by omega]; rfl
      · rw [if_neg hin, if_neg (by simp; omega), Array.getElem?_setIfInBounds, if_neg (by omega)]
theorem fill_one {zero cs : Array Value} {sz : Nat} {v : Value} (hv : v.cells = cs) (h1 : cs.size = sz) (h2 : zero.size = sz) : Instr.fill (fun i => some (i * sz, sz)) zero [(0, v)] = some cs := by
  subst hv
  rw [Instr.fill]
  simp only [Nat.zero_mul, Nat.zero_add]
  rw [if_neg (by simp; omega), Instr.fill]
  congr 1
  have e : v.cells.zipIdx.foldl (fun cs (x : Value × Nat) => match x with | (c, j) => cs.setIfInBounds j c) zero = (v.cells.toList.zipIdx 0).foldl (fun cs (p : Value × Nat) => cs.setIfInBounds (0 + p.2) p.1) zero := by
    rw [← Array.foldl_toList, Array.toList_zipIdx]
    simp only [Nat.zero_add]
  obtain ⟨k1, k2⟩ := foldl_set v.cells.toList 0 zero
  refine Eq.trans e (Array.ext (by rw [k1, h2, h1]) fun q hq1 hq2 => ?_)
  have hq : q < zero.size := by rw [k1] at hq1; exact hq1
  have := k2 q hq
  rw [if_pos ⟨Nat.zero_le _, by simp; omega⟩, Array.getElem?_eq_getElem hq1] at this
  simp only [Nat.sub_zero] at this
  have h3 : v.cells.toList[q]? = some v.cells[q] := by simp [hq2]
  rw [h3] at this
  exact Option.some.inj this
section
variable {P : Program} {N : Nat} {w0 : Start} {σ : Sig} {ops : Array Oper} {rest : List Oper} {o : Oper} {Q : Sig → Prop}
theorem ARun.slice1 {t d id sz by_ : Nat} {x : Operand} {s : SV} {z : Value} (ho : o.op = .buildSlice t 1 #[(0, x)]) (hx : Kn σ x s) (hc : s.Cells) (hz : elemZ P t = some (some z, sz, by_)) (hzc : z.cells.size = sz) (hlen : s.cs.length = sz) (hsz : 0 < sz) (hbig : sz ≤ 16777216)
    (hf : Fr id σ) (hno : s.cs.all (AV.no id) = true) (hg : o.guard = none) (hd : o.dst = some d) (hN : d < N)
    (h : ARun P N w0 ops Q rest ((σ.set id (.arr sz 1 fun _ j => s.cs.getD j (.con undef))).put d (.one (.own id sz 1)))) : ARun P N w0 ops Q (o :: rest) σ := by
  intro ρ S a w Q' hQ hs
  refine wpList_plain hg fun K hK => ?_
  obtain ⟨e, i, hu, hi, hz0, hz1, hz2⟩ := elemZ_spec hz
  subst hz1
  have hrl := hc.rl (hx.sound hs)
  have hcl : (a.eval x).cells.size = i.size := by have := hrl.len; rw [hlen] at this; simpa using this
  have hrun : (execOp a.eval o).run P w = .ok (.value (.slice (some ⟨w.heap.size, 0, none⟩) 1 1)) (w.alloc (.cells (a.eval x).cells e)) := by
    have hfl := fill_one (zero := (Array.range (1 * i.size)).map (z.cells[· % z.cells.size]!)) (v := a.eval x) rfl hcl (by simp)
    have := Go.run_buildSlice (P := P) w t e 1 #[(0, a.eval x)] (a.eval x).cells i z hu hi hz0 (by omega) (by omega) (by simpa using hfl)
    generalize a.eval = ev at this
    simp only [execOp, ho, Sem.run_bind, List.map_toArray, List.map_cons, List.map_nil, this, Result.andThen_ok]
    simp [go_sem]
  obtain ⟨ρ', e1, hs'⟩ := hs.new hf (o := .arr i.size 1 fun _ j => s.cs.getD j (.con undef)) (cs := (a.eval x).cells) (e := e) (cap := 1) rfl (by rw [hcl]; show _ = 1 * i.size; omega) (Nat.le_refl _) (by unfold maxLen; omega) (fun r j hr hj => by
    have hr0 : r = 0 := by have : r < 1 := hr; omega
    subst hr0
    have hj' : j < s.cs.length := by rw [hlen]; exact hj
    obtain ⟨u, hu1, hr1⟩ := hrl.getD hj'
    exact ⟨u, by simpa [AObj.sz] using hu1, hr1⟩) (fun r j => getD_no hno)
  unfold Oper.wp
  rw [hrun]
  simp only [Oper.upon, hd]
  refine hK _ _ (h ρ' S _ _ Q' hQ (hs'.put hN ?_))
  show ∃ A, Value.slice _ _ _ = .slice A 1 (ρ' id).2 ∧ 1 ≤ (ρ' id).2 ∧ (ρ' id).2 ≤ maxLen ∧ (A = some ⟨(ρ' id).1, 0, none⟩ ∨ (A = none ∧ (ρ' id).2 = 0))
  rw [e1]
  exact ⟨_, rfl, Nat.le_refl _, by unfold maxLen; omega, .inl rfl⟩
end
/-! Renaming. -/
def AObj.ren (g : Nat → Nat) : AObj → AObj
  | .cells l => .cells (l.map (AV.ren g))
  | .arr sz n f => .arr sz n fun i j => (f i j).ren g
  | .trees n X => .trees n X
def Sig.ren (σ : Sig) (g : Nat → Nat) : Sig := ⟨σ.env.map fun p => (p.1, p.2.ren g), σ.heap.map fun p => (g p.1, p.2.ren g)⟩
theorem AObj.ren_f {g : Nat → Nat} (o : AObj) (i j : Nat) : (o.ren g).f i j = (o.f i j).ren g := by
  cases o with
  | cells l =>
    show (l.map (AV.ren g)).getD j (.con undef) = (l.getD j (.con undef)).ren g
    rw [List.getD_eq_getElem?_getD, List.getD_eq_getElem?_getD, List.getElem?_map]
    cases l[j]? <;> rfl
  | arr _ _ _ => rfl
  | trees _ _ => rfl
theorem AObj.ren_n {g : Nat → Nat} (o : AObj) : (o.ren g).n = o.n := by cases o <;> rfl
theorem AObj.ren_sz {g : Nat → Nat} (o : AObj) : (o.ren g).sz = o.sz := by
  cases o with
  | cells l => simp [AObj.ren, AObj.sz]
  | _ => rfl
theorem ren_lookupH {g : Nat → Nat} (hg : ∀ a b, g a = g b → a = b) : ∀ {H : Heap} {id : Nat} {o : AObj}, H.lookup id = some o → (H.map fun p => (g p.1, p.2.ren g)).lookup (g id) = some (o.ren g)
  | [], _, _, h => by simp at h
  | (k, p) :: H, id, o, h => by
    rcases lookup_put h with ⟨rfl, rfl⟩ | ⟨hne, h⟩
    · simp
    · rw [List.map_cons, List.lookup_cons, show (g id == g k) = false by simpa using fun e => hne (hg _ _ e)]
      exact ren_lookupH hg h
theorem ren_lookupE {g : Nat → Nat} : ∀ {E : Env} {t : Nat} {s : SV}, E.lookup t = some s → (E.map fun p => (p.1, p.2.ren g)).lookup t = some (s.ren g)
  | [], _, _, h => by simp at h
  | (k, p) :: E, t, s, h => by
    rcases lookup_put h with ⟨rfl, rfl⟩ | ⟨hne, h⟩
    · simp
    · rw [List.map_cons, List.lookup_cons, show (t == k) = false by simpa using hne]
      exact ren_lookupE h
theorem St.ren {N : Nat} {w0 : Start} {ρ : Rho} {S : Nat → Prop} {σ : Sig} {a : Act} {w : World} {g : Nat → Nat} (hg : ∀ a b, g a = g b → a = b) (hfix : ∀ id, 1000000 ≤ id → g id = id) (hs : St N w0 ρ S (σ.ren g) a w) : St N w0 (ρ.ren g) S σ a w := by
  have hb : (ρ.ren g).base = ρ.base := rfl
  refine ⟨hs.size, hs.defers, ⟨hs.below.old, hs.below.same, fun id hid => ?_⟩, ⟨hs.mem.base, hs.mem.low, hs.mem.lt, fun id o ho => ?_, fun id o ho hc => ?_, fun id id' o o' ho ho' hne hc hc' => ?_, fun id n X hX => ?_⟩, fun t s ht => RS.ren (hs.env t _ (ren_lookupE ht))⟩
  · have h := hs.below.ids id hid
    have e := hfix id hid
    exact ⟨by show ρ.m (g id) = _; rw [e]; exact h.m, by show ρ.tv (g id) = _; rw [e]; exact h.v, by show ρ.tb (g id) = _; rw [e]; exact h.b, by show ρ.tn (g id) = _; rw [e]; exact h.n⟩
  · have := hs.mem.cap (g id) _ (ren_lookupH hg ho)
    rw [AObj.ren_n] at this; exact this
  · obtain ⟨cs, e, h1, h2, h3, h4, h5, h6, h7⟩ := hs.mem.obj (g id) _ (ren_lookupH hg ho) hc
    rw [AObj.ren_sz] at h2
    rw [AObj.ren_n] at h3
    refine ⟨cs, e, h1, h2, h3, h4, h5, h6, fun i j hi hj => ?_⟩
    obtain ⟨u, hu, hr⟩ := h7 i j (by rw [AObj.ren_n]; exact hi) (by rw [AObj.ren_sz]; exact hj)
    rw [AObj.ren_sz] at hu
    rw [AObj.ren_f] at hr
    exact ⟨u, hu, R.ren hr⟩
  · exact hs.mem.inj (g id) (g id') _ _ (ren_lookupH hg ho) (ren_lookupH hg ho') (fun e => hne (hg _ _ e)) hc hc'
  · obtain ⟨t1, t2⟩ := hs.mem.tree0 (g id) n X (ren_lookupH hg hX)
    refine ⟨t1, fun i hi => ⟨(t2 i hi).1, fun b hb => ?_⟩⟩
    obtain ⟨q1, q2, q3, q4, q5⟩ := (t2 i hi).2 b hb
    exact ⟨q1, q2, q3, fun id' o ho hc => q4 (g id') _ (ren_lookupH hg ho) hc, fun id' n' X' i' hX' hi' hne => q5 (g id') n' X' i' (ren_lookupH hg hX') hi' (fun e => hne ⟨hg _ _ e.1, e.2⟩)⟩
def LoopQR (Q : Exit → Sig → Prop) {ι : Type} (L : ι → Sig) (I : ι → Prop) (μ : ι → Nat) (i : ι) : Exit → Sig → Prop
  | .normal, σ => ∃ i' g, I i' ∧ μ i' < μ i ∧ (∀ a b, g a = g b → a = b) ∧ (∀ id, 1000000 ≤ id → g id = id) ∧ SigLe σ ((L i').ren g)
  | e, σ => Q e σ
theorem AW.loopR {P : Program} {N : Nat} {w0 : Start} {σ : Sig} {Q : Exit → Sig → Prop} {ι : Type} {c : Code} (L : ι → Sig) (I : ι → Prop) (μ : ι → Nat) (i0 : ι) (h0 : I i0) (hl : SigLe σ (L i0)) (hb : ∀ i, I i → AW P N w0 c (LoopQR Q L I μ i) (L i)) : AW P N w0 (.loop c) Q σ := by
  intro ρ S a w Q' hQ hs
  let p : Act → World → Nat → Prop := fun a w n => ∃ i ρ S, I i ∧ St N w0 ρ S (L i) a w ∧ μ i = n
  refine wp_loop (fun a w => ∃ n, p a w n) (fun a w => minOf (p a w)) ⟨_, i0, ρ, S, h0, hs.le hl, rfl⟩ fun a w hI => ?_
  obtain ⟨⟨i, ρ, S, hi, hst, hn⟩, hmin⟩ := minOf_spec hI
  refine hb i hi ρ S a w _ (fun e ρ' S' σ' a' w' hs' hq => ?_) hst
  cases e
  case normal =>
    obtain ⟨i', g, hi', hlt, hg, hfix, hle⟩ := hq
    have hp : p a' w' (μ i') := ⟨i', _, S', hi', St.ren hg hfix (hs'.le hle), rfl⟩
    refine ⟨⟨_, hp⟩, ?_⟩
    have := (minOf_spec ⟨_, hp⟩).2 _ hp
    omega
  all_goals exact hQ _ ρ' S' σ' a' w' hs' hq
def swp (a b k : Nat) : Nat := if k = a then b else if k = b then a else k
theorem swp_inj {a b : Nat} : ∀ x y, swp a b x = swp a b y → x = y := by
  intro x y h
  unfold swp at h
  split at h <;> split at h <;> (try split at h) <;> (try split at h) <;> omega
theorem swp_fix {a b : Nat} (ha : Nat.blt a 1000000 = true) (hb : Nat.blt b 1000000 = true) : ∀ id, 1000000 ≤ id → swp a b id = id := by
  intro id hid
  rw [Nat.blt_eq] at ha hb
  unfold swp
  rw [if_neg (by omega), if_neg (by omega)]
theorem id_inj : ∀ x y : Nat, id x = id y → x = y := fun _ _ h => h
theorem comp_inj {f g : Nat → Nat} (hf : ∀ x y, f x = f y → x = y) (hg : ∀ x y, g x = g y → x = y) : ∀ x y, f (g x) = f (g y) → x = y := fun _ _ h => hg _ _ (hf _ _ h)
theorem comp_fix {f g : Nat → Nat} (hf : ∀ id, 1000000 ≤ id → f id = id) (hg : ∀ id, 1000000 ≤ id → g id = id) : ∀ id, 1000000 ≤ id → f (g id) = id := fun id h => by rw [hg id h, hf id h]
theorem ren_scl {g : Nat → Nat} {x : AV} (h : x.scl = true) : x.ren g = x := by cases x <;> first | rfl | cases h
/-! Nil, seen as a row of the walk's own. -/
theorem MemOk.reob {B : Nat} {ρ : Rho} {S : Nat → Prop} {H : Heap} {w : World} (h : MemOk B ρ S H w) {id : Nat} {o o' : AObj} (ho : H.lookup id = some o) (hT : o'.isT = false) (hsz : o'.sz = o.sz) (hn : o'.n = o.n) (hr : ∀ i j u, i < o.n → j < o.sz → R ρ w S (o.f i j) u → R ρ w S (o'.f i j) u) :
    MemOk B ρ S ((id, o') :: H) w := by
  have conv : ∀ {k p}, ((id, o') :: H).lookup k = some p → ∃ p', H.lookup k = some p' := fun {k p} hp => by
    rcases lookup_put hp with ⟨rfl, rfl⟩ | ⟨_, hp⟩
    · exact ⟨o, ho⟩
    · exact ⟨p, hp⟩
  refine ⟨h.base, h.low, h.lt, fun k p hp => ?_, fun k p hp hc => ?_, fun k k' p p' hp hp' hne hc hc' => ?_, h.treeOf (Nat.le_refl _) (fun k n X hX => ?_) (fun k n X i b hX hi hb => ⟨rfl, (((h.tree k n X hX i hi).2) b hb).2.1, (((h.tree k n X hX i hi).2) b hb).2.2.1⟩) (fun k p hp _ => ?_)⟩
  · rcases lookup_put hp with ⟨rfl, rfl⟩ | ⟨_, hp⟩
    · rw [hn]; exact h.cap k o ho
    · exact h.cap k p hp
  · rcases lookup_put hp with ⟨rfl, rfl⟩ | ⟨_, hp⟩
    · obtain ⟨cs, e, h1, h2, h3, h4, h5, h6, h7⟩ := h.obj k o ho hc
      refine ⟨cs, e, h1, by rw [hsz]; exact h2, by rw [hn]; exact h3, h4, h5, h6, fun i j hi hj => ?_⟩
      rw [hn] at hi
      rw [hsz] at hj ⊢
      obtain ⟨u, hu, hru⟩ := h7 i j hi hj
      exact ⟨u, hu, hr i j u hi hj hru⟩
    · exact h.obj k p hp hc
  · obtain ⟨q, hq⟩ := conv hp
    obtain ⟨q', hq'⟩ := conv hp'
    exact h.inj k k' q q' hq hq' hne hc hc'
  · rcases lookup_put hX with ⟨rfl, rfl⟩ | ⟨hne, hX⟩
    · cases hT
    · exact ⟨X, hX, fun _ _ => rfl, rfl, rfl, rfl⟩
  · obtain ⟨q, hq⟩ := conv hp
    exact .inl ⟨q, hq, rfl⟩
theorem nil_own {ρ : Rho} {w : World} {S : Nat → Prop} {id sz : Nat} {u : Value} (h : ρ id = (0, 0)) (hu : u = .slice none 0 0) : R ρ w S (.own id sz 0) u := by
  show ∃ A, u = .slice A 0 (ρ id).2 ∧ 0 ≤ (ρ id).2 ∧ (ρ id).2 ≤ maxLen ∧ (A = some ⟨(ρ id).1, 0, none⟩ ∨ (A = none ∧ (ρ id).2 = 0))
  rw [h]
  exact ⟨none, hu, Nat.le_refl _, Nat.zero_le _, .inr ⟨rfl, rfl⟩⟩
section
variable {P : Program} {N : Nat} {w0 : Start} {σ : Sig} {Q2 : Exit → Sig → Prop} {c : Code}
theorem AW.nilSlot (t id sz : Nat) (f : Nat → Nat → AV) (ht : σ.env.lookup t = some (.one (.con (.slice none 0 0)))) (hf : Fr id σ) (h : AW P N w0 c Q2 ⟨(t, .one (.own id sz 0)) :: σ.env, (id, .arr sz 0 f) :: σ.heap⟩) : AW P N w0 c Q2 σ := by
  intro ρ S a w Q' hQ hs
  obtain ⟨ρ', e1, hs'⟩ := hs.phantom hf sz f
  refine h ρ' S a w Q' hQ ⟨hs'.size, hs'.defers, hs'.below, hs'.mem, fun t' s ht' => ?_⟩
  rcases lookup_put ht' with ⟨rfl, rfl⟩ | ⟨_, ht'⟩
  · exact nil_own e1 (hs.env _ _ ht)
  · exact hs'.env t' s ht'
theorem AW.nilCell (v j id sz : Nat) (l : List AV) (f : Nat → Nat → AV) (hv : σ.heap.lookup v = some (.cells l)) (hj : l[j]? = some (.con (.slice none 0 0))) (hf : Fr id σ) (h : AW P N w0 c Q2 ⟨σ.env, (v, .cells (l.set j (.own id sz 0))) :: (id, .arr sz 0 f) :: σ.heap⟩) : AW P N w0 c Q2 σ := by
  intro ρ S a w Q' hQ hs
  obtain ⟨ρ', e1, hs'⟩ := hs.phantom hf sz f
  have hne : v ≠ id := (hf.heap.get hv).1
  have hv' : (σ.set id (.arr sz 0 f)).heap.lookup v = some (.cells l) := by
    simp only [Sig.set]
    rw [List.lookup_cons, show (v == id) = false by simpa using hne]; exact hv
  refine h ρ' S a w Q' hQ ⟨hs'.size, hs'.defers, hs'.below, hs'.mem.reob hv' rfl (by simp [AObj.sz]) rfl (fun i q u _ hq hr => ?_), hs'.env⟩
  have hq : q < l.length := hq
  have hr : R ρ' w S (l.getD q (.con undef)) u := hr
  show R ρ' w S ((l.set j (.own id sz 0)).getD q (.con undef)) u
  by_cases hqj : q = j
  · subst hqj
    rw [List.getD_eq_getElem?_getD, hj] at hr
    rw [List.getD_eq_getElem?_getD, List.getElem?_set, if_pos rfl, if_pos hq]
    exact nil_own e1 hr
  · rw [List.getD_eq_getElem?_getD, List.getElem?_set, if_neg (fun e => hqj e.symm), ← List.getD_eq_getElem?_getD]; exact hr
end
/-- A row whose cells are scalars, or nil. -/
theorem Tv.partN {H : Heap} {id sz n n' : Nat} {o : AObj} {g : Nat → Nat → AV} {U : Nat → Nat → Prop} (hn' : n' = n) (ho : H.lookup id = some o) (hT : o.isT = false) (hs : o.sz = sz) (hn : n ≤ o.n) (hU : U id 0)
    (hc : ∀ i j, i < n → j < sz → (o.f i j = g i j ∧ (g i j).scl = true) ∨ (o.f i j = .con (.slice none 0 0) ∧ ∃ s f, g i j = .lst s 0 f)) : Tv H (.own id sz n) (.lst sz n' g) U := by
  subst hn'
  refine .own (fun _ _ _ _ => False) ho hT hs hn hU (fun i j hi hj => ?_) (fun _ _ _ _ _ _ h => h.elim) (fun _ _ _ _ _ _ _ _ _ _ _ h => h.elim)
  rcases hc i j hi hj with ⟨h1, h2⟩ | ⟨h1, s, f, h2⟩
  · rw [h1]; exact Tv.scl h2
  · rw [h1, h2]; exact .nil
/-! What is kept of a list. -/
def cntP {α : Type} (p : α → Bool) (l : List α) (k : Nat) : Nat := ((l.take k).filter p).length
theorem cntP_yes {α : Type} {p : α → Bool} (d : α) {l : List α} {k : Nat} (h : k < l.length) (hp : p (l.getD k d) = true) : cntP p l (k + 1) = cntP p l k + 1 ∧ (l.filter p).getD (cntP p l k) d = l.getD k d := by
  rw [getD_at d h] at hp ⊢
  refine ⟨by unfold cntP; rw [List.take_succ_eq_append_getElem h, List.filter_append, List.length_append]; simp [hp], ?_⟩
  have e : l.filter p = (l.take k).filter p ++ l[k] :: (l.drop (k + 1)).filter p := by
    conv => lhs; rw [← List.take_append_drop k l, List.filter_append, List.drop_eq_getElem_cons h, List.filter_cons_of_pos hp]
  unfold cntP
  rw [e, List.getD_eq_getElem?_getD, List.getElem?_append_right (Nat.le_refl _)]
  simp
theorem cntP_no {α : Type} {p : α → Bool} (d : α) {l : List α} {k : Nat} (h : k < l.length) (hp : p (l.getD k d) = false) : cntP p l (k + 1) = cntP p l k := by
  rw [getD_at d h] at hp
  unfold cntP; rw [List.take_succ_eq_append_getElem h, List.filter_append, List.length_append]; simp [hp]
theorem cntP_end {α : Type} {p : α → Bool} {l : List α} {k : Nat} (h : ¬ k < l.length) : cntP p l k = (l.filter p).length := by
  unfold cntP; rw [List.take_of_length_le (by omega)]
theorem cntP_le {α : Type} (p : α → Bool) (l : List α) (k : Nat) : cntP p l k ≤ l.length := by
  unfold cntP
  refine Nat.le_trans (List.length_filter_le ..) ?_
  rw [List.length_take]; omega
theorem app_at {α : Type} {i k : Nat} {a b c : α} (hi : i < k + 1) (h1 : i < k → a = c) (h2 : i = k → b = c) : (if i < k then a else b) = c := by
  by_cases h : i < k
  · rw [if_pos h]; exact h1 h
  · rw [if_neg h]; exact h2 (by omega)
theorem cast_neg (n : Nat) : decide ((n : Int) < 0) = false := decide_eq_false (by omega)
theorem ctL_one {α : Type} {ct : α → Nat} (h : ∀ x, ct x = 1) (l : List α) : ctL ct l = l.length := by
  induction l with
  | nil => rfl
  | cons a l ih => unfold ctL at ih ⊢; rw [List.map_cons, List.sum_cons, ih, h, List.length_cons]; omega
/-- A count against a weight. -/
theorem ctL_wtl {α : Type} {ct f : α → Nat} {c : Nat} (h : ∀ x, ct x ≤ c * (1 + f x)) (l : List α) : ctL ct l ≤ c * wtl f l := by
  induction l with
  | nil => exact Nat.zero_le _
  | cons a l ih =>
    have e1 : ctL ct (a :: l) = ct a + ctL ct l := by simp [ctL]
    have e2 : wtl f (a :: l) = (1 + f a) + wtl f l := by simp [wtl]; omega
    rw [e1, e2, Nat.mul_add]
    exact Nat.add_le_add (h a) ih
theorem ctL_len {α : Type} {ct : α → Nat} {c : Nat} (h : ∀ x, ct x ≤ c) (l : List α) : ctL ct l ≤ c * l.length := by
  induction l with
  | nil => exact Nat.zero_le _
  | cons a l ih =>
    have e1 : ctL ct (a :: l) = ct a + ctL ct l := by simp [ctL]
    rw [e1, List.length_cons, Nat.mul_succ, Nat.add_comm]
    exact Nat.add_le_add ih (h a)
end Go.Proofs.Ytmfkmifkkplidaa
