/-
  A calculus for walks, part 19: bodies that hand back trees; functions that write trees.
-/
import Derived.Test.YtmfkmifkkplidaaVu
namespace Go.Proofs.Ytmfkmifkkplidaa
open Go.ChangeShapes Go.WideShapes Go.ChangeAt Go.RowKit Go.BigFrame Go.Deep
set_option linter.unusedVariables false

set_option linter.unusedSimpArgs false
/-- What the walk holds, seen as a tree; U: the names that it takes. -/
inductive Tv (H : Heap) : AV → AV → (Nat → Nat → Prop) → Prop
  | int {k : IntKind} {n : Int} {U : Nat → Nat → Prop} : Tv H (.int k n) (.int k n) U
  | bool {b : Bool} {U : Nat → Nat → Prop} : Tv H (.bool b) (.bool b) U
  | str {s : ByteArray} {U : Nat → Nat → Prop} : Tv H (.str s) (.str s) U
  | con {v : Value} {U : Nat → Nat → Prop} : Tv H (.con v) (.con v) U
  | nil {sz : Nat} {g : Nat → Nat → AV} {U : Nat → Nat → Prop} : Tv H (.con (.slice none 0 0)) (.lst sz 0 g) U
  | tre {id i n : Nat} {X : Nat → AV} {U : Nat → Nat → Prop} : H.lookup id = some (.trees n X) → i < n → U id i → Tv H (.tre id i) (X i) U
  | own {id sz n : Nat} {o : AObj} {g : Nat → Nat → AV} {U : Nat → Nat → Prop} (F : Nat → Nat → Nat → Nat → Prop) : H.lookup id = some o → o.isT = false → o.sz = sz → n ≤ o.n → U id 0 → (∀ i j, i < n → j < sz → Tv H (o.f i j) (g i j) (F i j)) →
      (∀ i j a b, i < n → j < sz → F i j a b → U a b ∧ a ≠ id) → (∀ i j i' j', i < n → j < sz → i' < n → j' < sz → ¬ (i = i' ∧ j = j') → ∀ a b, F i j a b → ¬ F i' j' a b) → Tv H (.own id sz n) (.lst sz n g) U
theorem Tv.cast {H : Heap} {x y z : AV} {U : Nat → Nat → Prop} (h : Tv H x y U) (e : y = z) : Tv H x z U := e ▸ h
def fp (ρ : Rho) (H : Heap) (U : Nat → Nat → Prop) (b : Nat) : Prop := ∃ a c, U a c ∧ ((c = 0 ∧ ∃ o, H.lookup a = some o ∧ o.isT = false ∧ (ρ a).2 ≠ 0 ∧ (ρ a).1 = b) ∨ ∃ n X, H.lookup a = some (.trees n X) ∧ c < n ∧ ρ.tb a c b)
theorem fp_mono {ρ : Rho} {H : Heap} {U U' : Nat → Nat → Prop} (h : ∀ a c, U a c → U' a c) {b : Nat} (hb : fp ρ H U b) : fp ρ H U' b := by
  obtain ⟨a, c, h1, h2⟩ := hb
  exact ⟨a, c, h a c h1, h2⟩
section
variable {B : Nat} {ρ : Rho} {S : Nat → Prop} {H : Heap} {w : World}
theorem fp_in (hm : MemOk B ρ S H w) {U : Nat → Nat → Prop} {b : Nat} (hb : fp ρ H U b) : B ≤ b ∧ b < w.heap.size ∧ ¬ S b := by
  obtain ⟨a, c, _, ⟨_, o, ho, _, hc, rfl⟩ | ⟨n, X, hX, hi, hb⟩⟩ := hb
  · have h0 := hm.blk ho hc
    obtain ⟨cs, e, h1, h2, h3, h4, h5, h6, h7⟩ := hm.obj a o ho hc
    exact ⟨h5, h0, h6⟩
  · obtain ⟨q1, q2, q3, _⟩ := (hm.tree a n X hX c hi).2 b hb
    exact ⟨q1, q2, q3⟩
theorem fp_disj (hm : MemOk B ρ S H w) {U U' : Nat → Nat → Prop} (hd : ∀ a c, U a c → ¬ U' a c) {b : Nat} (hb : fp ρ H U b) : ¬ fp ρ H U' b := by
  intro hb'
  obtain ⟨a, c, hu, hb⟩ := hb
  obtain ⟨a', c', hu', hb'⟩ := hb'
  rcases hb with ⟨h0, o, ho, hT, hc, e⟩ | ⟨n, X, hX, hi, hb⟩ <;> rcases hb' with ⟨h0', o', ho', hT', hc', e'⟩ | ⟨n', X', hX', hi', hb'⟩
  · by_cases ha : a = a'
    · subst ha; subst h0; subst h0'; exact hd _ _ hu hu'
    · exact hm.inj a a' o o' ho ho' ha hc hc' (e.trans e'.symm)
  · exact ((hm.tree a' n' X' hX' c' hi').2 b hb').2.2.2.1 a o ho hc e
  · exact ((hm.tree a n X hX c hi).2 b hb).2.2.2.1 a' o' ho' hc' e'
  · by_cases ha : a' = a ∧ c' = c
    · obtain ⟨rfl, rfl⟩ := ha; exact hd _ _ hu hu'
    · exact ((hm.tree a n X hX c hi).2 b hb).2.2.2.2 a' n' X' c' hX' hi' ha hb'
theorem Tv.sound (hm : MemOk B ρ S H w) {x y : AV} {U : Nat → Nat → Prop} (h : Tv H x y U) : ∀ {v : Value}, R ρ w S x v → Tr w y v (fp ρ H U) := by
  induction h with
  | int => exact fun h => h
  | bool => exact fun h => h
  | str => exact fun h => h
  | con => exact fun h => h
  | nil =>
    intro v hv
    have e : v = Value.slice none 0 0 := hv
    unfold Tr
    exact ⟨none, 0, e, Nat.le_refl _, by decide, .inl ⟨rfl, .inl rfl⟩⟩
  | @tre id i n X U hX hi hU =>
    intro v hv
    obtain ⟨e, _⟩ := hv
    rw [e]
    exact ((hm.tree id n X hX i hi).1).mono fun b hb => ⟨id, i, hU, .inr ⟨n, X, hX, hi, hb⟩⟩
  | @own id sz n o g U F ho hT hsz hn hU _ hF hFd ih =>
    intro v hv
    subst hsz
    obtain ⟨A, hv, hn1, hn2, hA⟩ := hv
    unfold Tr
    refine ⟨A, _, hv, hn1, hn2, ?_⟩
    by_cases hc : (ρ id).2 = 0
    · refine .inl ⟨hc, ?_⟩
      rcases hA with h | ⟨h, _⟩
      · exact .inr ⟨_, h⟩
      · exact .inl h
    · right
      obtain ⟨cs, e, h1, h2, h3, h4, h5, h6, h7⟩ := hm.obj id o ho hc
      refine ⟨(ρ id).1, cs, e, by rcases hA with h | ⟨_, h⟩; (· exact h); (· exact absurd h hc), ⟨id, 0, hU, .inl ⟨rfl, o, ho, hT, hc, rfl⟩⟩, h1, h2, fun i j => fp ρ H (F i j), fun i j hi hj => ⟨fun q hq => ⟨fp_mono (fun a c h => (hF i j a c hi hj h).1) hq, fun e => ?_⟩, ?_⟩, fun i j i' j' hi hj hi' hj' hne q hq => fp_disj hm (hFd i j i' j' hi hj hi' hj' hne) hq⟩
      · have hone : fp ρ H (fun a c => a = id ∧ c = 0) q := ⟨id, 0, ⟨rfl, rfl⟩, .inl ⟨rfl, o, ho, hT, hc, e.symm⟩⟩
        exact fp_disj hm (fun a c h h' => (hF i j a c hi hj h).2 h'.1) hq hone
      · obtain ⟨u, hu, hr⟩ := h7 i j (by omega) hj
        exact ⟨u, hu, ih i j hi hj hr⟩
def TvL (H : Heap) (V : Nat → Nat → Nat → Prop) : Nat → List AV → List AV → Prop
  | _, [], [] => True
  | p, x :: l, y :: m => Tv H x y (V p) ∧ TvL H V (p + 1) l m
  | _, _, _ => False
def TvS (H : Heap) (V : Nat → Nat → Nat → Prop) : Nat → SV → SV → Prop
  | p, .one x, .one y => Tv H x y (V p)
  | p, .agg l, .agg m => TvL H V p l m
  | p, .tup2 a b, .tup2 c d => TvS H V p a c ∧ TvS H V (p + c.leaves.length) b d
  | p, .tup3 a b e, .tup3 c d f => TvS H V p a c ∧ TvS H V (p + c.leaves.length) b d ∧ TvS H V (p + c.leaves.length + d.leaves.length) e f
  | _, _, _ => False
theorem TLs.append {G : Nat → Nat → Prop} : ∀ {l m : List AV} {p : Nat} {us vs : List Value}, TLs w G p l us → TLs w G (p + l.length) m vs → TLs w G p (l ++ m) (us ++ vs)
  | [], _, _, _, _, h, k => by rw [show _ = [] from h]; exact k
  | x :: l, m, p, _, vs, ⟨u, us, e, h1, h2⟩, k => by
    subst e
    refine ⟨u, us ++ vs, rfl, h1, TLs.append h2 ?_⟩
    rw [show p + 1 + l.length = p + (x :: l).length by simp; omega]
    exact k
theorem TvL.sound (hm : MemOk B ρ S H w) {V : Nat → Nat → Nat → Prop} : ∀ {l m : List AV} {p : Nat} {us : List Value}, TvL H V p l m → RL ρ w S l us → TLs w (fun p => fp ρ H (V p)) p m us ∧ us.length = m.length
  | [], [], _, _, _, h => ⟨h, by rw [show _ = [] from h]; rfl⟩
  | _ :: _, _ :: _, _, _, ⟨h1, h2⟩, ⟨u, us, e, g1, g2⟩ => by
    obtain ⟨k1, k2⟩ := TvL.sound hm h2 g2
    exact ⟨⟨u, us, e, h1.sound hm g1, k1⟩, by rw [e]; simp [k2]⟩
  | [], _ :: _, _, _, h, _ => h.elim
  | _ :: _, [], _, _, h, _ => h.elim
theorem TvS.sound (hm : MemOk B ρ S H w) {V : Nat → Nat → Nat → Prop} : ∀ {s y : SV} {p : Nat} {v : Value}, TvS H V p s y → RS ρ w S s v → ∃ us, Shape y us v ∧ TLs w (fun p => fp ρ H (V p)) p y.leaves us
  | .one _, .one _, _, v, h, hr => ⟨[v], rfl, v, [], rfl, Tv.sound hm h hr, rfl⟩
  | .agg _, .agg _, _, _, h, ⟨us, e, hl⟩ => by
    obtain ⟨k1, k2⟩ := TvL.sound hm h hl
    exact ⟨us.toList, ⟨by rw [e], k2⟩, k1⟩
  | .tup2 _ _, .tup2 c d, _, _, ⟨h1, h2⟩, ⟨a, b, e, g1, g2⟩ => by
    obtain ⟨us, k1, k2⟩ := TvS.sound hm h1 g1
    obtain ⟨vs, j1, j2⟩ := TvS.sound hm h2 g2
    exact ⟨us ++ vs, ⟨a, b, us, vs, e, rfl, k1, j1⟩, k2.append j2⟩
  | .tup3 _ _ _, .tup3 c d f, p, _, ⟨h1, h2, h3⟩, ⟨a, b, c', e, g1, g2, g3⟩ => by
    obtain ⟨us, k1, k2⟩ := TvS.sound hm h1 g1
    obtain ⟨vs, j1, j2⟩ := TvS.sound hm h2 g2
    obtain ⟨ts, i1, i2⟩ := TvS.sound hm h3 g3
    exact ⟨us ++ (vs ++ ts), ⟨a, b, c', us, vs, ts, e, rfl, k1, j1, i1⟩, k2.append (j2.append i2)⟩
  | .one _, .agg _, _, _, h, _ => h.elim
  | .one _, .tup2 _ _, _, _, h, _ => h.elim
  | .one _, .tup3 _ _ _, _, _, h, _ => h.elim
  | .one _, .gd _ _, _, _, h, _ => h.elim
  | .agg _, .one _, _, _, h, _ => h.elim
  | .agg _, .tup2 _ _, _, _, h, _ => h.elim
  | .agg _, .tup3 _ _ _, _, _, h, _ => h.elim
  | .agg _, .gd _ _, _, _, h, _ => h.elim
  | .tup2 _ _, .one _, _, _, h, _ => h.elim
  | .tup2 _ _, .agg _, _, _, h, _ => h.elim
  | .tup2 _ _, .tup3 _ _ _, _, _, h, _ => h.elim
  | .tup2 _ _, .gd _ _, _, _, h, _ => h.elim
  | .tup3 _ _ _, .one _, _, _, h, _ => h.elim
  | .tup3 _ _ _, .agg _, _, _, h, _ => h.elim
  | .tup3 _ _ _, .tup2 _ _, _, _, h, _ => h.elim
  | .tup3 _ _ _, .gd _ _, _, _, h, _ => h.elim
  | .gd _ _, .one _, _, _, h, _ => h.elim
  | .gd _ _, .agg _, _, _, h, _ => h.elim
  | .gd _ _, .tup2 _ _, _, _, h, _ => h.elim
  | .gd _ _, .tup3 _ _ _, _, _, h, _ => h.elim
  | .gd _ _, .gd _ _, _, _, h, _ => h.elim
end
/-- Which leaf a name goes to. -/
abbrev ofLeaf (t : Nat → Nat → Nat) : Nat → Nat → Nat → Prop := fun p a b => t a b = p
def RetT (P : Program) (fn : Func) (y : SV) : Exit → Sig → Prop
  | .ret, σ => ∃ s t, ResL P σ fn.results.toList s ∧ TvS σ.heap (ofLeaf t) 0 s y
  | .normal, σ => ∃ s t, ResL P σ fn.results.toList s ∧ TvS σ.heap (ofLeaf t) 0 s y
  | _, _ => False
theorem FnT.of_body {P : Program} {f : FuncId} {fn : Func} {c : Code} {args : List SV} {y : SV} (hf : P.funcs[f]? = some fn) (hb : fn.body = some c) (hle : args.length ≤ fn.ntmps)
    (h : ∀ w0, AW P fn.ntmps w0 c (RetT P fn y) ⟨enumE 0 args, []⟩) : FnT P f args y := by
  intro w S vs hS hd
  have hl := hd.len
  refine calls_of_wp hf hb ?_
  refine h ⟨w.heap.size, w, S, w, ⟨fun _ => (0, 0), w.heap.size, fun _ _ => undef, fun _ _ _ => False, fun _ => 0⟩⟩ ⟨fun _ => (0, 0), w.heap.size, fun _ _ => undef, fun _ _ _ => False, fun _ => 0⟩ S _ w _ (fun e ρ S' σ a w' hs hq => ?_) ⟨?_, rfl, ⟨Below.refl _ _, Same.refl _ _, fun _ _ => .refl _ _⟩, ⟨rfl, Nat.le_refl _, hS, fun id o ho => by simp at ho, fun id o ho => by simp at ho, fun id id' o o' ho => by simp at ho, fun id n X ho => by simp at ho⟩, ?_⟩
  · have fin : (∃ s t, ResL P σ fn.results.toList s ∧ TvS σ.heap (ofLeaf t) 0 s y) → a.defers = [] ∧ ∃ v, (results fn a.tmps).run P w' = .ok v w' ∧ (∃ v' G, Ending.returned v = .returned v' ∧ Below w.heap.size w w' ∧ TRf w' G y v' ∧ Dj G y.leaves.length ∧ ∀ p b, p < y.leaves.length → G p b → newS w w' b) := fun ⟨s, t, hr, hfv⟩ => by
      obtain ⟨v, hv, hrun⟩ := hr.run hs
      obtain ⟨us, k1, k2⟩ := hfv.sound hs.mem hv
      refine ⟨hs.defers, v, hrun, v, _, rfl, hs.below.old, ⟨us, k1, k2⟩, fun p q b _ _ hne hp => fp_disj hs.mem (fun a c h h' => hne (h.symm.trans h')) hp, fun p b _ hb => ?_⟩
      obtain ⟨q1, q2, _⟩ := fp_in hs.mem hb
      exact ⟨q1, q2⟩
    cases e
    case ret => exact fin hq
    case normal => exact fin hq
    all_goals exact hq.elim
  · simp [hl]; omega
  · intro t s ht
    obtain ⟨j, u, e1, e2, e3⟩ := hd.get ht
    have hj : j < vs.length := (List.getElem?_eq_some_iff.1 e2).1
    have : ((vs.toArray ++ Array.replicate (fn.ntmps - vs.toArray.size) undef).getD t undef) = u := by
      rw [Array.getD_eq_getD_getElem?, Array.getElem?_append_left (by simp; omega)]
      simp [show t = j by omega, e2]
    show RS _ w S s ((vs.toArray ++ Array.replicate (fn.ntmps - vs.toArray.size) undef).getD t undef)
    rw [this]
    exact e3.toRS
def SameSh : SV → SV → Prop
  | .one _, .one _ => True
  | .agg l, .agg m => l.length = m.length
  | .tup2 a b, .tup2 c d => SameSh a c ∧ SameSh b d
  | .tup3 a b e, .tup3 c d f => SameSh a c ∧ SameSh b d ∧ SameSh e f
  | _, _ => False
theorem shape_eq : ∀ {x y : SV} {us vs : List Value} {v : Value}, Shape x us v → Shape y vs v → SameSh x y → vs = us
  | .one _, .one _, _, _, _, h, k, _ => by rw [show _ = [_] from h, show _ = [_] from k]
  | .agg _, .agg _, _, _, _, ⟨h, _⟩, ⟨k, _⟩, _ => by rw [h] at k; simpa using k.symm
  | .tup2 _ _, .tup2 _ _, _, _, _, ⟨a, b, us1, us2, e, e2, h1, h2⟩, ⟨a', b', vs1, vs2, e', e2', k1, k2⟩, ⟨s1, s2⟩ => by
    rw [e] at e'
    simp at e'
    obtain ⟨rfl, rfl⟩ := e'
    rw [e2, e2', shape_eq h1 k1 s1, shape_eq h2 k2 s2]
  | .tup3 _ _ _, .tup3 _ _ _, _, _, _, ⟨a, b, c, us1, us2, us3, e, e2, h1, h2, h3⟩, ⟨a', b', c', vs1, vs2, vs3, e', e2', k1, k2, k3⟩, ⟨s1, s2, s3⟩ => by
    rw [e] at e'
    simp at e'
    obtain ⟨rfl, rfl, rfl⟩ := e'
    rw [e2, e2', shape_eq h1 k1 s1, shape_eq h2 k2 s2, shape_eq h3 k3 s3]
  | .gd _ _, _, _, _, _, h, _, _ => h.elim
  | .one _, .agg _, _, _, _, _, _, s => s.elim
  | .one _, .tup2 _ _, _, _, _, _, _, s => s.elim
  | .one _, .tup3 _ _ _, _, _, _, _, _, s => s.elim
  | .one _, .gd _ _, _, _, _, _, _, s => s.elim
  | .agg _, .one _, _, _, _, _, _, s => s.elim
  | .agg _, .tup2 _ _, _, _, _, _, _, s => s.elim
  | .agg _, .tup3 _ _ _, _, _, _, _, _, s => s.elim
  | .agg _, .gd _ _, _, _, _, _, _, s => s.elim
  | .tup2 _ _, .one _, _, _, _, _, _, s => s.elim
  | .tup2 _ _, .agg _, _, _, _, _, _, s => s.elim
  | .tup2 _ _, .tup3 _ _ _, _, _, _, _, _, s => s.elim
  | .tup2 _ _, .gd _ _, _, _, _, _, _, s => s.elim
  | .tup3 _ _ _, .one _, _, _, _, _, _, s => s.elim
  | .tup3 _ _ _, .agg _, _, _, _, _, _, s => s.elim
  | .tup3 _ _ _, .tup2 _ _, _, _, _, _, _, s => s.elim
  | .tup3 _ _ _, .gd _ _, _, _, _, _, _, s => s.elim
/-! Functions that write trees. -/
def lonly : AV → AV
  | .lst sz n f => .lst sz n f
  | _ => .int .i64 0
/-- The contract of a function that is handed the tree x (its first argument; it lies in the blocks G) and leaves x'. -/
def FnM (P : Program) (f : FuncId) (x : SV) (args : List SV) (r x' : SV) : Prop :=
  ∀ (w : World) (G : Nat → Nat → Prop) (base : Nat) (v : Value), base ≤ w.heap.size → (∀ p b, p < x.leaves.length → G p b → base ≤ b ∧ b < w.heap.size) → Dj G x.leaves.length → TRf w G x v →
    Calls P f (v :: args.map SV.val).toArray w fun e w' => e = .returned r.val ∧ Below base w w' ∧ (∀ b, b < w.heap.size → (∀ p, p < x.leaves.length → ¬ G p b) → w'.heap[b]? = w.heap[b]?) ∧ TRf w' G x' v
theorem plain_rss {ρ : Rho} {w : World} {S : Nat → Prop} : ∀ {args : List SV}, (∀ s ∈ args, s.Plain) → RSs ρ w S args (args.map SV.val)
  | [], _ => rfl
  | s :: l, h => ⟨_, _, rfl, (h s (List.mem_cons_self ..)).r ρ w S, plain_rss fun x hx => h x (List.mem_cons_of_mem _ hx)⟩
/-- What is known of plain arguments. -/
def KnV (σ : Sig) : List Operand → List SV → Prop
  | [], [] => True
  | x :: xs, y :: ys => Kn σ x y ∧ y.Plain ∧ KnV σ xs ys
  | _, _ => False
theorem KnV.sound {N : Nat} {w0 : Start} {ρ : Rho} {S : Nat → Prop} {σ : Sig} {a : Act} {w : World} (hs : St N w0 ρ S σ a w) : ∀ {xs : List Operand} {ys : List SV}, KnV σ xs ys → xs.map a.eval = ys.map SV.val
  | [], [], _ => rfl
  | _ :: _, _ :: _, ⟨h1, h2, h3⟩ => by
    simp only [List.map_cons, KnV.sound hs h3, List.cons.injEq, and_true]
    exact h2.eq (h1.sound hs)
  | [], _ :: _, h => h.elim
  | _ :: _, [], h => h.elim
theorem FnM.ofAgg {P : Program} {f : FuncId} {x x' r : SV} {args : List SV} (hp : r.Plain) (ha : ∀ s ∈ args, s.Plain) (hl : x'.leaves.length = x.leaves.length) (hsh : ∀ us v, Shape x us v → Shape x' us v)
    (h : FnG P f (x.nm 1000000 0 :: args) [(1000000, .trees x.leaves.length fun p => x.leaves.getD p (.con undef))] r [(1000000, .trees x.leaves.length fun p => x'.leaves.getD p (.con undef))]) : FnM P f x args r x' := by
  intro w G base v hbase hG hD ⟨us, hx, ht⟩
  let ρ : Rho := ⟨fun _ => (0, 0), base, fun _ p => us.getD p undef, fun _ p => G p, fun _ => x.leaves.length⟩
  let S : Nat → Prop := fun b => b < w.heap.size ∧ ∀ p, p < x.leaves.length → ¬ G p b
  have hlk : ∀ id o, (List.lookup id [(1000000, AObj.trees x.leaves.length fun p => x.leaves.getD p (.con undef))]) = some o → id = 1000000 ∧ o = AObj.trees x.leaves.length fun p => x.leaves.getD p (.con undef) := by
    intro id o ho
    rcases lookup_put ho with h | ⟨_, h⟩
    · exact h
    · simp at h
  have hm : MemOk ρ.base ρ S [(1000000, .trees x.leaves.length fun p => x.leaves.getD p (.con undef))] w := by
    refine ⟨rfl, hbase, fun b hb => hb.1, fun id o ho => ?_, fun id o _ hc => absurd rfl hc, fun id id' o o' _ _ _ hc => absurd rfl hc, fun id n X hX => ?_⟩
    · obtain ⟨_, rfl⟩ := hlk id o ho; exact Nat.zero_le _
    · obtain ⟨rfl, e⟩ := hlk id _ hX
      cases e
      refine ⟨rfl, fun i hi => ⟨?_, fun b hb => ?_⟩⟩
      · have := ht.get (k := i) hi
        rwa [Nat.zero_add] at this
      · obtain ⟨q1, q2⟩ := hG i b hi hb
        refine ⟨q1, q2, fun hS => hS.2 i hi hb, fun _ _ _ hc => absurd rfl hc, fun id' n' X' i' hX' hi' hne => ?_⟩
        obtain ⟨rfl, e⟩ := hlk id' _ hX'
        cases e
        exact hD i i' b hi hi' (fun e => hne ⟨rfl, e.symm⟩) hb
  have hr : RSs ρ w S (x.nm 1000000 0 :: args) (v :: args.map SV.val) := by
    refine ⟨v, _, rfl, Shape.rs (Shape.nm.2 hx) ?_, plain_rss ha⟩
    rw [leaves_nm]
    exact nmL_r ht fun k hk => ⟨by show us.getD (0 + k) undef = _; rw [Nat.zero_add], by show 0 + k < x.leaves.length; omega⟩
  refine (h ρ S w _ hm hr).mono fun e w' ⟨v', ρ', S', he, hb, hs, hbase', hids, hm', hv'⟩ => ?_
  refine ⟨by rw [he, hp.eq hv'], hb, fun b hb1 hb2 => hs.blk b ⟨hb1, hb2⟩, us, hsh us v hx, TLs.mk (by rw [hl]; exact ht.len) fun k hk => ?_⟩
  obtain ⟨k1, _⟩ := hm'.tree 1000000 x.leaves.length (fun p => x'.leaves.getD p (.con undef)) (by simp) k (by omega)
  have hat := hids 1000000 (Nat.le_refl _)
  rw [hat.v, hat.b] at k1
  rw [Nat.zero_add]
  exact k1
theorem nmA_r' {ρ : Rho} {w : World} {S B : Nat → Prop} {id p : Nat} {x : AV} {u : Value} (h : Tr w x u B) (hv : x.isL = true → ρ.tv id p = u) (hn : p < ρ.tn id) : R ρ w S (nmA id p x) u := by
  cases x with
  | lst sz n f => exact nmA_r h (hv rfl) hn
  | int _ _ => exact h
  | bool _ => exact h
  | str _ => exact h
  | con _ => exact h
  | ref _ _ => exact h.elim
  | ptr _ _ _ _ => exact h.elim
  | own _ _ _ => exact h.elim
  | fn _ _ _ => exact h.elim
  | frs _ => exact h.elim
  | tre _ _ => exact h.elim
theorem FnM.ofRow {P : Program} {f : FuncId} {sz n : Nat} {g g' fo fo' : Nat → Nat → AV} {X X' : Nat → AV} {r : SV} {args : List SV} (hp : r.Plain) (ha : ∀ s ∈ args, s.Plain) (hsz : 0 < sz)
    (hfo : ∀ i j, i < n → j < sz → fo i j = nmA 1000001 (i * sz + j) (g i j) ∧ X (i * sz + j) = lonly (g i j)) (hfo' : ∀ i j, i < n → j < sz → fo' i j = nmA 1000001 (i * sz + j) (g' i j) ∧ ((g' i j).isL = true → X' (i * sz + j) = g' i j))
    (hlf : ∀ i j, i < n → j < sz → (g' i j).lf = true)
    (h : FnG P f (.one (.own 1000000 sz n) :: args) [(1000000, .arr sz n fo), (1000001, .trees (n * sz) X)] r [(1000000, .arr sz n fo'), (1000001, .trees (n * sz) X')]) : FnM P f (.one (.lst sz n g)) args r (.one (.lst sz n g')) := by
  intro w G base v hbase hG hD ⟨us, hx, u0, us', e0, ht, _⟩
  obtain rfl : us = [v] := hx
  simp only [List.cons.injEq] at e0
  obtain ⟨rfl, _⟩ := e0
  unfold Tr at ht
  obtain ⟨A, c, ev, hn, hc, hcase⟩ := ht
  let S : Nat → Prop := fun b => b < w.heap.size ∧ ∀ p, p < 1 → ¬ G p b
  -- the opened row
  obtain ⟨b, cs, F, hA, hblk, hcsz, hcell, hF⟩ : ∃ (b : Nat) (cs : Array Value) (F : Nat → Nat → Nat → Prop), (A = some ⟨b, 0, none⟩ ∨ (A = none ∧ c = 0)) ∧ (c ≠ 0 → G 0 b ∧ ∃ e, w.heap[b]? = some (.cells cs e (0, 0))) ∧ cs.size = c * sz ∧
      (∀ i j, i < n → j < sz → (∀ q, F i j q → G 0 q ∧ q ≠ b) ∧ ∃ u, cs[i * sz + j]? = some u ∧ Tr w (g i j) u (F i j)) ∧ (∀ i j i' j', i < n → j < sz → i' < n → j' < sz → ¬ (i = i' ∧ j = j') → ∀ q, F i j q → ¬ F i' j' q) := by
    rcases hcase with ⟨rfl, hA⟩ | ⟨b, cs, e, g1, g2, g3, g4, F, g5, g6⟩
    · rcases hA with hA | ⟨b, hA⟩
      · exact ⟨0, #[], fun _ _ _ => False, .inr ⟨hA, rfl⟩, fun h => absurd rfl h, by simp, fun i j hi => absurd hi (by omega), fun i j i' j' hi => absurd hi (by omega)⟩
      · exact ⟨b, #[], fun _ _ _ => False, .inl hA, fun h => absurd rfl h, by simp, fun i j hi => absurd hi (by omega), fun i j i' j' hi => absurd hi (by omega)⟩
    · exact ⟨b, cs, F, .inl g1, fun _ => ⟨g2, e, g3⟩, g4, g5, g6⟩
  have hdm : ∀ i j, j < sz → (i * sz + j) / sz = i ∧ (i * sz + j) % sz = j := fun i j hj => by
    rw [Nat.mul_comm, Nat.mul_add_div (by omega), Nat.div_eq_of_lt hj, Nat.mul_add_mod, Nat.mod_eq_of_lt hj]
    exact ⟨by omega, rfl⟩
  have hqr : ∀ q, q < n * sz → q / sz < n ∧ q % sz < sz ∧ q / sz * sz + q % sz = q := fun q hq => ⟨(Nat.div_lt_iff_lt_mul hsz).2 hq, Nat.mod_lt _ hsz, by rw [Nat.mul_comm]; exact Nat.div_add_mod q sz⟩
  let ρ : Rho := ⟨fun id => if id = 1000000 then (b, c) else (0, 0), base, fun _ q => if (g (q / sz) (q % sz)).isL then cs.getD q undef else .int .i64 0, fun _ q => F (q / sz) (q % sz), fun _ => n * sz⟩
  have hρ0 : ρ.m 1000000 = (b, c) := by show (if (1000000 : Nat) = 1000000 then (b, c) else (0, 0)) = _; rw [if_pos rfl]
  have hρ1 : ∀ id, id ≠ 1000000 → ρ.m id = (0, 0) := fun id h => by show (if id = 1000000 then (b, c) else (0, 0)) = _; rw [if_neg h]
  have hlk : ∀ {fo : Nat → Nat → AV} {X : Nat → AV} id o, (List.lookup id [(1000000, AObj.arr sz n fo), (1000001, AObj.trees (n * sz) X)]) = some o → (id = 1000000 ∧ o = AObj.arr sz n fo) ∨ (id = 1000001 ∧ o = AObj.trees (n * sz) X) := by
    intro fo X id o ho
    rcases lookup_put ho with h | ⟨_, h⟩
    · exact .inl h
    · rcases lookup_put h with h | ⟨_, h⟩
      · exact .inr h
      · simp at h
  have hm : MemOk ρ.base ρ S [(1000000, .arr sz n fo), (1000001, .trees (n * sz) X)] w := by
    refine ⟨rfl, hbase, fun b hb => hb.1, fun id o ho => ?_, fun id o ho hc0 => ?_, fun id id' o o' ho ho' hne hc1 hc2 => ?_, fun id m Y hY => ?_⟩
    · rcases hlk id o ho with ⟨rfl, rfl⟩ | ⟨rfl, rfl⟩
      · rw [hρ0]; exact hn
      · exact Nat.zero_le _
    · rcases hlk id o ho with ⟨rfl, rfl⟩ | ⟨rfl, rfl⟩
      · rw [hρ0] at hc0 ⊢
        obtain ⟨hg, e, hb⟩ := hblk hc0
        refine ⟨cs, e, hb, hcsz, hn, hc, (hG 0 b (by simp [SV.leaves]) hg).1, fun hS => hS.2 0 (by omega) hg, fun i j hi hj => ?_⟩
        obtain ⟨_, u, hu, hT⟩ := hcell i j hi hj
        refine ⟨u, hu, ?_⟩
        show R ρ w S (fo i j) u
        rw [(hfo i j hi hj).1]
        have hi : i < n := hi
        have hj : j < sz := hj
        obtain ⟨a1, a2⟩ := hdm i j hj
        refine nmA_r' hT (fun hL => ?_) ?_
        · show (if (g ((i * sz + j) / sz) ((i * sz + j) % sz)).isL then cs.getD (i * sz + j) undef else .int .i64 0) = u
          rw [a1, a2, if_pos hL, Array.getD_eq_getD_getElem?, hu]; rfl
        · show i * sz + j < n * sz
          have : (i + 1) * sz ≤ n * sz := Nat.mul_le_mul_right _ hi
          rw [Nat.succ_mul] at this
          omega
      · exact absurd (by rw [hρ1 _ (by omega)]) hc0
    · exfalso
      rcases hlk id o ho with ⟨rfl, rfl⟩ | ⟨rfl, rfl⟩
      · rcases hlk id' o' ho' with ⟨rfl, rfl⟩ | ⟨rfl, rfl⟩
        · exact hne rfl
        · exact hc2 (by rw [hρ1 _ (by omega)])
      · exact hc1 (by rw [hρ1 _ (by omega)])
    · rcases hlk id _ hY with ⟨_, e⟩ | ⟨rfl, e⟩
      · cases e
      · cases e
        refine ⟨rfl, fun q hq => ?_⟩
        obtain ⟨h1, h2, h3⟩ := hqr q hq
        obtain ⟨k1, u, hu, hT⟩ := hcell _ _ h1 h2
        have hX := (hfo _ _ h1 h2).2
        rw [h3] at hu hX
        refine ⟨?_, fun b' hb' => ?_⟩
        · rw [hX]
          show Tr w _ (if (g (q / sz) (q % sz)).isL then cs.getD q undef else .int .i64 0) _
          rw [Array.getD_eq_getD_getElem?, hu]
          generalize g (q / sz) (q % sz) = y at hT
          cases y <;> first | exact hT | rfl
        · obtain ⟨q1, q2⟩ := k1 b' hb'
          obtain ⟨q3, q4⟩ := hG 0 b' (by simp [SV.leaves]) q1
          refine ⟨q3, q4, fun hS => hS.2 0 (by omega) q1, fun id' o ho hc0 => ?_, fun id' m' Y' q' hY' hq' hne => ?_⟩
          · rcases hlk id' o ho with ⟨rfl, rfl⟩ | ⟨rfl, rfl⟩
            · rw [hρ0]; exact fun e => q2 e.symm
            · exact absurd (by rw [hρ1 _ (by omega)]) hc0
          · rcases hlk id' _ hY' with ⟨_, e⟩ | ⟨rfl, e⟩
            · cases e
            · cases e
              obtain ⟨h1', h2', h3'⟩ := hqr q' hq'
              refine hF _ _ _ _ h1 h2 h1' h2' (fun e => hne ⟨rfl, ?_⟩) b' hb'
              rw [← h3, ← h3', e.1, e.2]
  have hr : RSs ρ w S (.one (.own 1000000 sz n) :: args) (v :: args.map SV.val) := by
    refine ⟨v, _, rfl, ⟨A, ?_, ?_, ?_, ?_⟩, plain_rss ha⟩
    · rw [hρ0]; exact ev
    · rw [hρ0]; exact hn
    · rw [hρ0]; exact hc
    · rw [hρ0]; exact hA
  refine (h ρ S w _ hm hr).mono fun e w' ⟨v', ρ', S', he, hb, hs, hbase', hids, hm', hv'⟩ => ?_
  refine ⟨by rw [he, hp.eq hv'], hb, fun b hb1 hb2 => hs.blk b ⟨hb1, hb2⟩, [v], rfl, v, [], rfl, ?_, rfl⟩
  have hat := hids 1000000 (Nat.le_refl _)
  have hat1 := hids 1000001 (by omega)
  unfold Tr
  refine ⟨A, c, ev, hn, hc, ?_⟩
  by_cases hc0 : c = 0
  · refine .inl ⟨hc0, ?_⟩
    rcases hA with h | ⟨h, _⟩
    · exact .inr ⟨_, h⟩
    · exact .inl h
  · right
    have hm1 : ρ' 1000000 = (b, c) := hat.m.trans hρ0
    obtain ⟨cs', e', h1, h2, h3, h4, h5, h6, h7⟩ := hm'.obj 1000000 (.arr sz n fo') rfl (by rw [hm1]; exact hc0)
    rw [hm1] at h1 h2 h3 h4 h5 h6
    refine ⟨b, cs', e', by rcases hA with h | ⟨_, h⟩; (· exact h); (· exact absurd h hc0), (hblk hc0).1, h1, h2, F, fun i j hi hj => ⟨(hcell i j hi hj).1, ?_⟩, hF⟩
    obtain ⟨u, hu, hru⟩ := h7 i j hi hj
    refine ⟨u, hu, ?_⟩
    have hru : R ρ' w' S' (fo' i j) u := hru
    obtain ⟨e1, e2⟩ := hfo' i j hi hj
    rw [e1] at hru
    have hl := hlf i j hi hj
    have hlt : i * sz + j < n * sz := by
      have : (i + 1) * sz ≤ n * sz := Nat.mul_le_mul_right _ hi
      rw [Nat.succ_mul] at this
      omega
    obtain ⟨k1, _⟩ := hm'.tree 1000001 (n * sz) X' rfl (i * sz + j) hlt
    rw [hat1.b] at k1
    have k2 (hL : (g' i j).isL = true) : Tr w' (g' i j) (ρ'.tv 1000001 (i * sz + j)) (F i j) := by
      have : ρ.tb 1000001 (i * sz + j) = F i j := by
        show F ((i * sz + j) / sz) ((i * sz + j) % sz) = F i j
        obtain ⟨a1, a2⟩ := hdm i j hj
        rw [a1, a2]
      rw [this, e2 hL] at k1
      exact k1
    generalize g' i j = y at hru k2 hl
    cases y with
    | lst _ _ _ => obtain ⟨e, _⟩ := hru; rw [e]; exact k2 rfl
    | int _ _ => exact hru
    | bool _ => exact hru
    | str _ => exact hru
    | con _ => exact hru
    | ref _ _ => cases hl
    | ptr _ _ _ _ => cases hl
    | own _ _ _ => cases hl
    | fn _ _ _ => cases hl
    | frs _ => cases hl
    | tre _ _ => cases hl
section
variable {P : Program} {N : Nat} {w0 : Start} {σ : Sig} {ops : Array Oper} {rest : List Oper} {o : Oper} {Q : Sig → Prop}
/-- A call that writes trees of a family. -/
theorem ARun.mark {f d id q0 n : Nat} {x0 : Operand} {xs : List Operand} {ts : Array TypeId} {args : List SV} {r x x' : SV} {X X' : Nat → AV} (ho : o.op = .call { callee := .value (.func f), args := (x0 :: xs).toArray, argTypes := ts })
    (hF : FnM P f x args r x') (hB : callB P f = true) (hp : r.Plain) (hx : Kn σ x0 (x.nm id q0)) (hng : x.ng = true) (hlf : x.leaves.all AV.lf = true) (hK : σ.heap.lookup id = some (.trees n X)) (hle : q0 + x.leaves.length ≤ n)
    (hX : ∀ p, p < x.leaves.length → (x.leaves.getD p (.con undef)).isL = true → X (q0 + p) = x.leaves.getD p (.con undef)) (hl : x'.leaves.length = x.leaves.length) (hss : SameSh x x')
    (hX1 : ∀ p, p < x.leaves.length → (x.leaves.getD p (.con undef)).isL = true → X' (q0 + p) = x'.leaves.getD p (.con undef))
    (hX2 : ∀ q, q < n → (∀ p, p < x.leaves.length → (x.leaves.getD p (.con undef)).isL = true → q ≠ q0 + p) → X' q = X q)
    (hk : KnV σ xs args) (hg : o.guard = none) (hd : o.dst = some d) (hN : d < N) (h : ARun P N w0 ops Q rest ⟨(d, r) :: σ.env, (id, .trees n X') :: σ.heap⟩) : ARun P N w0 ops Q (o :: rest) σ := by
  intro ρ S a w Q' hQ hs
  refine wpList_plain hg fun K' hK' => ?_
  let G : Nat → Nat → Prop := fun p b => (x.leaves.getD p (.con undef)).isL = true ∧ ρ.tb id (q0 + p) b
  have hv := hx.sound hs
  obtain ⟨us, hsh, hrl⟩ := RS.shape (by rw [ng_nm]; exact hng) hv
  rw [leaves_nm] at hrl
  have htree : ∀ p, p < x.leaves.length → _ := fun p (hp' : p < x.leaves.length) => hs.mem.tree id n X hK (q0 + p) (by omega)
  have hT : TRf w G x (a.eval x0) := by
    refine ⟨us, Shape.nm.1 hsh, nmL_tls (q := q0) hlf (fun k hk hL => ?_) hrl⟩
    have := (htree k hk).1
    rw [hX k hk hL] at this
    rw [Nat.zero_add]
    exact this.mono fun b hb => ⟨hL, hb⟩
  have hD : Dj G x.leaves.length := fun p q b hp' hq' hne h1 h2 => ((htree p hp').2 b h1.2).2.2.2.2 id n X (q0 + q) hK (by omega) (by omega) h2.2
  have hGin : ∀ p b, p < x.leaves.length → G p b → w0.base ≤ b ∧ b < w.heap.size := fun p b hp' hb => ⟨((htree p hp').2 b hb.2).1, ((htree p hp').2 b hb.2).2.1⟩
  have h2 := hF w G w0.base (a.eval x0) hs.mem.low hGin hD hT
  have e : (execOp a.eval o).run P w = .ok (.enter f (a.eval x0 :: args.map SV.val).toArray) w := by
    have := execCall (P := P) (ev := a.eval) (caps := #[]) ho rfl hB w
    rw [List.map_cons, hk.sound hs] at this
    simpa using this
  unfold Oper.wp
  rw [e]
  refine Calls.mono h2 fun e w' ⟨he, hb, hout, hT'⟩ => ?_
  subst he
  rw [hd]
  have hsz := hb.size
  have hS : ∀ b, S b → w'.heap[b]? = w.heap[b]? := fun b hb' => hout b (hs.mem.lt b hb') fun p hp' hg' => ((htree p hp').2 b hg'.2).2.2.1 hb'
  have hsame : Same S w S w' := ⟨fun _ h => h, hS⟩
  obtain ⟨us', hsh', ht'⟩ := hT'
  have husl : ∀ p, p < x.leaves.length → (x.leaves.getD p (.con undef)).isL = true → us'.getD p undef = ρ.tv id (q0 + p) := by
    intro p hp' hL
    exact shape_eq (Shape.nm.1 hsh) hsh' hss ▸ nmL_tv hrl p hp' hL
  have hst : St N w0 ρ S ⟨σ.env, (id, .trees n X') :: σ.heap⟩ a w' := by
    refine ⟨hs.size, hs.defers, hs.below.step hb hsame, ⟨hs.mem.base, Nat.le_trans hs.mem.low hsz, fun b hb' => Nat.lt_of_lt_of_le (hs.mem.lt b hb') hsz, ?_, ?_, ?_, ?_⟩, fun t s ht => (hs.env t s ht).keep hsame (Rn.refl _ _)⟩
    · intro k p hp'
      rcases lookup_put hp' with ⟨rfl, rfl⟩ | ⟨_, hp'⟩
      · exact Nat.zero_le _
      · exact hs.mem.cap k p hp'
    · intro k p hp' hc
      have conv : ∀ {p'}, σ.heap.lookup k = some p' → w'.heap[(ρ k).1]? = w.heap[(ρ k).1]? := fun {p'} hp2 => hout _ (hs.mem.blk hp2 hc) fun q hq hg' => ((htree q hq).2 _ hg'.2).2.2.2.1 k p' hp2 hc rfl
      rcases lookup_put hp' with ⟨rfl, rfl⟩ | ⟨_, hp'⟩
      · obtain ⟨cs, e, h1, h2, h3, h4, h5, h6, h7⟩ := hs.mem.obj k _ hK hc
        exact ⟨cs, e, by rw [conv hK]; exact h1, h2, h3, h4, h5, h6, fun i j hi => absurd hi (Nat.not_lt_zero _)⟩
      · obtain ⟨cs, e, h1, h2, h3, h4, h5, h6, h7⟩ := hs.mem.obj k p hp' hc
        refine ⟨cs, e, by rw [conv hp']; exact h1, h2, h3, h4, h5, h6, fun i j hi hj => ?_⟩
        obtain ⟨u, hu, hr⟩ := h7 i j hi hj
        exact ⟨u, hu, hr.keep hsame (Rn.refl _ _)⟩
    · have conv : ∀ {k p}, ((id, AObj.trees n X') :: σ.heap).lookup k = some p → ∃ p', σ.heap.lookup k = some p' := fun {k p} hp' => by
        rcases lookup_put hp' with ⟨rfl, rfl⟩ | ⟨_, hp'⟩
        · exact ⟨_, hK⟩
        · exact ⟨p, hp'⟩
      intro k k' p p' hp1 hp2 hne hc hc'
      obtain ⟨q, hq⟩ := conv hp1
      obtain ⟨q', hq'⟩ := conv hp2
      exact hs.mem.inj k k' q q' hq hq' hne hc hc'
    · have conv : ∀ {k m Y}, ((id, AObj.trees n X') :: σ.heap).lookup k = some (.trees m Y) → ∃ Y', σ.heap.lookup k = some (.trees m Y') ∧ (k ≠ id → Y' = Y) ∧ (k = id → m = n ∧ Y = X') := fun {k m Y} hY => by
        rcases lookup_put hY with ⟨rfl, e⟩ | ⟨hne, hY⟩
        · cases e; exact ⟨X, hK, fun h => absurd rfl h, fun _ => ⟨rfl, rfl⟩⟩
        · exact ⟨Y, hY, fun _ => rfl, fun h => absurd h hne⟩
      intro k m Y hY
      obtain ⟨Y', hY', hk1, hk2⟩ := conv hY
      refine ⟨(hs.mem.tree0 k m Y' hY').1, fun i hi => ?_⟩
      obtain ⟨t1, t2⟩ := hs.mem.tree k m Y' hY' i hi
      have hrest : ∀ b, ρ.tb k i b → w0.base ≤ b ∧ b < w'.heap.size ∧ ¬ S b ∧ (∀ id' o, ((id, AObj.trees n X') :: σ.heap).lookup id' = some o → (ρ id').2 ≠ 0 → (ρ id').1 ≠ b) ∧ ∀ id' n' X2 i', ((id, AObj.trees n X') :: σ.heap).lookup id' = some (.trees n' X2) → i' < n' → ¬ (id' = k ∧ i' = i) → ¬ ρ.tb id' i' b := by
        intro b hb'
        obtain ⟨q1, q2, q3, q4, q5⟩ := t2 b hb'
        refine ⟨q1, by omega, q3, fun id' o ho hc => ?_, fun id' n' X2 i' hX2' hi' hne => ?_⟩
        · rcases lookup_put ho with ⟨rfl, rfl⟩ | ⟨_, ho⟩
          · exact q4 id' _ hK hc
          · exact q4 id' o ho hc
        · obtain ⟨Y2, hY2, _⟩ := conv hX2'
          exact q5 id' n' Y2 i' hY2 hi' hne
      refine ⟨?_, hrest⟩
      by_cases hin : k = id ∧ ∃ p, p < x.leaves.length ∧ (x.leaves.getD p (.con undef)).isL = true ∧ i = q0 + p
      · obtain ⟨rfl, p, hp', hL, rfl⟩ := hin
        obtain ⟨rfl, rfl⟩ := hk2 rfl
        rw [hX1 p hp' hL, ← husl p hp' hL]
        have := ht'.get (k := p) (by omega)
        rw [Nat.zero_add] at this
        exact this.mono fun b hb' => hb'.2
      · have hY2 : Y i = Y' i := by
          by_cases hki : k = id
          · subst hki
            obtain ⟨rfl, rfl⟩ := hk2 rfl
            rw [hX2 i hi fun p hp' hL e => hin ⟨rfl, p, hp', hL, e⟩]
            rw [hK] at hY'
            cases hY'; rfl
          · rw [hk1 hki]
        rw [hY2]
        refine t1.keep fun b hb' => hout b (t2 b hb').2.1 fun p hp' hg' => ?_
        refine (t2 b hb').2.2.2.2 id n X (q0 + p) hK (by omega) (fun e => hin ⟨e.1.symm, p, hp', hg'.1, e.2.symm⟩) hg'.2
  exact hK' _ _ (h ρ S _ w' Q' hQ (hst.put hN (hp.r _ _ _)))
end
end Go.Proofs.Ytmfkmifkkplidaa
