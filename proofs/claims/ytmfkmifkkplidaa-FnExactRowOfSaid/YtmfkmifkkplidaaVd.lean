/-
  A calculus for walks, part 4: contracts of functions that only read, calls, regions, statements, loops.
-/
import Derived.Test.YtmfkmifkkplidaaVc
namespace Go.Proofs.Ytmfkmifkkplidaa
open Go.ChangeShapes Go.WideShapes Go.ChangeAt Go.RowKit Go.BigFrame Go.Deep
set_option linter.unusedVariables false

set_option linter.unusedSimpArgs false
/-- Own memory seen as data that nobody writes. -/
inductive Vw (H : Heap) : AV → AV → Prop
  | int {k : IntKind} {n : Int} : Vw H (.int k n) (.int k n)
  | bool {b : Bool} : Vw H (.bool b) (.bool b)
  | str {s : ByteArray} : Vw H (.str s) (.str s)
  | con {v : Value} : Vw H (.con v) (.con v)
  | lst {sz n : Nat} {f : Nat → Nat → AV} : Vw H (.lst sz n f) (.lst sz n f)
  | ref {sz : Nat} {f : Nat → AV} : Vw H (.ref sz f) (.ref sz f)
  | ptr {id sz i j m : Nat} {g : Nat → AV} {o : AObj} : H.lookup id = some o → o.sz = sz → i < o.n → j + m ≤ sz → (∀ k, k < m → Vw H (o.f i (j + k)) (g k)) → Vw H (.ptr id sz i j) (.ref m g)
  | own {id sz n : Nat} {g : Nat → Nat → AV} {o : AObj} : H.lookup id = some o → o.sz = sz → n ≤ o.n → (∀ i j, i < n → j < sz → Vw H (o.f i j) (g i j)) → Vw H (.own id sz n) (.lst sz n g)
  | fn {f : FuncId} {m : Nat} {caps g : Nat → AV} : (∀ j, j < m → Vw H (caps j) (g j)) → Vw H (.fn f m caps) (.fn f m g)
  | frs {x : AV} : Vw H (.frs x) x
  | tre {id i n : Nat} {X : Nat → AV} : H.lookup id = some (.trees n X) → i < n → Vw H (.tre id i) (X i)
  | nil {sz : Nat} {f : Nat → Nat → AV} : Vw H (.con (.slice none 0 0)) (.lst sz 0 f)
def withOwn (ρ : Rho) (H : Heap) (S : Nat → Prop) (b : Nat) : Prop := S b ∨ (∃ id o, H.lookup id = some o ∧ (ρ id).2 ≠ 0 ∧ (ρ id).1 = b) ∨ ∃ id n X i, H.lookup id = some (.trees n X) ∧ i < n ∧ ρ.tb id i b
theorem D.more {w : World} {S S' : Nat → Prop} {x : AV} {v : Value} (h : D w S x v) (hs : ∀ b, S b → S' b) : D w S' x v := h.keep ⟨hs, fun _ _ => rfl⟩
theorem Vw.sound {B : Nat} {ρ : Rho} {S : Nat → Prop} {H : Heap} {w : World} (hm : MemOk B ρ S H w) {x y : AV} (h : Vw H x y) : ∀ {v : Value}, R ρ w S x v → D w (withOwn ρ H S) y v := by
  induction h with
  | int => exact fun h => h
  | bool => exact fun h => h
  | str => exact fun h => h
  | con => exact fun h => h
  | lst => exact fun h => D.more (x := .lst _ _ _) h fun b hb => .inl hb
  | ref => exact fun h => D.more (x := .ref _ _) h fun b hb => .inl hb
  | @ptr id sz i j m g o ho hsz hi hj _ ih =>
    intro v hv
    subst hsz
    have hv : v = _ := hv
    have hc := hm.pos ho hi
    obtain ⟨cs, e, h1, h2, h3, h4, h5, h6, h7⟩ := hm.obj id o ho hc
    refine ⟨(ρ id).1, i * o.sz + j, hv, .inr (.inl ⟨id, o, ho, hc, rfl⟩), fun k hk => ?_⟩
    obtain ⟨u, hu, hr⟩ := h7 i (j + k) hi (by omega)
    refine ⟨u, ?_, ih k hk hr⟩
    simp [World.cell?, h1, Nat.add_assoc, hu]
  | @own id sz n g o ho hsz hn _ ih =>
    intro v hv
    subst hsz
    obtain ⟨A, hv, hn1, hn2, hA⟩ := hv
    refine ⟨A, _, hv, hn1, hn2, (fun e => by rcases hA with h | ⟨_, h⟩; (· rw [h] at e; cases e); (· exact h)), fun i hi => ?_⟩
    have hc : (ρ id).2 ≠ 0 := by omega
    obtain ⟨cs, e, h1, h2, h3, h4, h5, h6, h7⟩ := hm.obj id o ho hc
    refine ⟨(ρ id).1, 0, by rcases hA with h | ⟨_, h⟩; (· exact h); (· exact absurd h hc), .inr (.inl ⟨id, o, ho, hc, rfl⟩), fun j hj => ?_⟩
    obtain ⟨u, hu, hr⟩ := h7 i j (by omega) hj
    refine ⟨u, ?_, ih i j hi hj hr⟩
    simp [World.cell?, h1, hu]
  | frs => exact fun h => D.keep (S := freshS ρ S) ⟨fun _ hb => .inl hb.1, fun _ _ => rfl⟩ h
  | @tre id i n X hX hi =>
    intro v hv
    obtain ⟨e, _⟩ := hv
    rw [e]
    exact ((hm.tree id n X hX i hi).1).d fun b hb => .inr (.inr ⟨id, n, X, i, hX, hi, hb⟩)
  | nil =>
    intro v hv
    have e : v = Value.slice none 0 0 := hv
    exact ⟨none, 0, e, Nat.le_refl _, by decide, fun _ => rfl, fun i hi => absurd hi (by omega)⟩
  | @fn f m caps g _ ih =>
    intro v hv
    obtain ⟨vs, e, hs, hc⟩ := hv
    refine ⟨vs, e, hs, fun j hj => ?_⟩
    obtain ⟨u, hu, hr⟩ := hc j hj
    exact ⟨u, hu, ih j hj hr⟩

def DL (w : World) (S : Nat → Prop) : List AV → List Value → Prop
  | [], vs => vs = []
  | x :: l, vs => ∃ u us, vs = u :: us ∧ D w S x u ∧ DL w S l us
/-- An argument. -/
def DS (w : World) (S : Nat → Prop) : SV → Value → Prop
  | .one x, v => D w S x v
  | .agg l, v => ∃ us : Array Value, v = .agg us ∧ DL w S l us.toList
  | _, _ => False
def DSs (w : World) (S : Nat → Prop) : List SV → List Value → Prop
  | [], vs => vs = []
  | x :: l, vs => ∃ u us, vs = u :: us ∧ DS w S x u ∧ DSs w S l us
theorem DL.toRL {ρ : Rho} {w : World} {S : Nat → Prop} : ∀ {l : List AV} {us : List Value}, DL w S l us → RL ρ w S l us
  | [], _, h => h
  | _ :: _, _, ⟨u, us, e, h1, h2⟩ => ⟨u, us, e, h1.toR, DL.toRL h2⟩
theorem DS.toRS {ρ : Rho} {w : World} {S : Nat → Prop} : ∀ {s : SV} {v : Value}, DS w S s v → RS ρ w S s v
  | .one _, _, h => D.toR h
  | .agg _, _, ⟨us, e, h⟩ => ⟨us, e, h.toRL⟩
  | .tup2 _ _, _, h => h.elim
  | .tup3 _ _ _, _, h => h.elim
  | .gd _ _, _, h => h.elim
def VL (H : Heap) : List AV → List AV → Prop
  | [], [] => True
  | x :: l, y :: m => Vw H x y ∧ VL H l m
  | _, _ => False
def VS (H : Heap) : SV → SV → Prop
  | .one x, .one y => Vw H x y
  | .agg l, .agg m => VL H l m
  | _, _ => False
theorem VL.sound {B : Nat} {ρ : Rho} {S : Nat → Prop} {H : Heap} {w : World} (hm : MemOk B ρ S H w) : ∀ {l m : List AV} {us : List Value}, VL H l m → RL ρ w S l us → DL w (withOwn ρ H S) m us
  | [], [], _, _, h => h
  | _ :: _, _ :: _, _, ⟨h1, h2⟩, ⟨u, us, e, g1, g2⟩ => ⟨u, us, e, h1.sound hm g1, VL.sound hm h2 g2⟩
  | [], _ :: _, _, h, _ => h.elim
  | _ :: _, [], _, h, _ => h.elim
theorem VS.sound {B : Nat} {ρ : Rho} {S : Nat → Prop} {H : Heap} {w : World} (hm : MemOk B ρ S H w) : ∀ {s t : SV} {v : Value}, VS H s t → RS ρ w S s v → DS w (withOwn ρ H S) t v := by
  intro s t v h hr
  cases s <;> cases t <;> first | exact h.elim | skip
  · exact Vw.sound hm h hr
  · obtain ⟨us, e, hl⟩ := hr
    exact ⟨us, e, VL.sound hm h hl⟩
/-- The arguments of a call. -/
def KnA (σ : Sig) : List Operand → List SV → Prop
  | [], [] => True
  | x :: xs, y :: ys => (∃ s, Kn σ x s ∧ VS σ.heap s y) ∧ KnA σ xs ys
  | _, _ => False
theorem KnA.sound {N : Nat} {w0 : Start} {ρ : Rho} {S : Nat → Prop} {σ : Sig} {a : Act} {w : World} (hs : St N w0 ρ S σ a w) : ∀ {xs : List Operand} {ys : List SV}, KnA σ xs ys → DSs w (withOwn ρ σ.heap S) ys (xs.map a.eval)
  | [], [], _ => rfl
  | _ :: _, _ :: _, ⟨⟨s, h1, h2⟩, h3⟩ => ⟨_, _, rfl, h2.sound hs.mem (h1.sound hs), KnA.sound hs h3⟩
  | [], _ :: _, h => h.elim
  | _ :: _, [], h => h.elim

/-- Values without memory. -/
def AV.val : AV → Value
  | .int k n => .int k n
  | .bool b => .bool b
  | .str s => .string s
  | .con v => v
  | _ => undef
def AV.Plain : AV → Prop
  | .int _ _ => True
  | .bool _ => True
  | .str s => s.size ≤ maxLen
  | .con _ => True
  | _ => False
def SV.val : SV → Value
  | .one x => x.val
  | .agg l => .agg (l.map AV.val).toArray
  | .tup2 x y => .tuple #[x.val, y.val]
  | .tup3 x y z => .tuple #[x.val, y.val, z.val]
  | .gd _ _ => undef
def SV.Plain : SV → Prop
  | .one x => x.Plain
  | .agg l => ∀ x ∈ l, x.Plain
  | .tup2 x y => x.Plain ∧ y.Plain
  | .tup3 x y z => x.Plain ∧ y.Plain ∧ z.Plain
  | .gd _ _ => False
theorem AV.Plain.r {x : AV} (h : x.Plain) (ρ : Rho) (w : World) (S : Nat → Prop) : R ρ w S x x.val := by
  cases x <;> first | exact h.elim | rfl | exact ⟨rfl, h⟩
theorem AV.Plain.eq {x : AV} (h : x.Plain) {ρ : Rho} {w : World} {S : Nat → Prop} {v : Value} (hr : R ρ w S x v) : v = x.val := by
  cases x <;> first | exact h.elim | exact hr | exact hr.1
theorem plainL_r {ρ : Rho} {w : World} {S : Nat → Prop} : ∀ {l : List AV}, (∀ x ∈ l, x.Plain) → RL ρ w S l (l.map AV.val)
  | [], _ => rfl
  | x :: l, h => ⟨_, _, rfl, (h x (List.mem_cons_self ..)).r _ _ _, plainL_r fun y hy => h y (List.mem_cons_of_mem _ hy)⟩
theorem plainL_eq {ρ : Rho} {w : World} {S : Nat → Prop} : ∀ {l : List AV} {us : List Value}, (∀ x ∈ l, x.Plain) → RL ρ w S l us → us = l.map AV.val
  | [], _, _, h => h
  | x :: l, _, hp, ⟨u, us, e, h1, h2⟩ => by rw [e, (hp x (List.mem_cons_self ..)).eq h1, plainL_eq (fun y hy => hp y (List.mem_cons_of_mem _ hy)) h2]; rfl
theorem SV.Plain.r (ρ : Rho) (w : World) (S : Nat → Prop) : ∀ {s : SV}, s.Plain → RS ρ w S s s.val
  | .one _, h => AV.Plain.r h _ _ _
  | .agg l, h => ⟨_, rfl, by simpa using plainL_r h⟩
  | .tup2 _ _, h => ⟨_, _, rfl, SV.Plain.r ρ w S h.1, SV.Plain.r ρ w S h.2⟩
  | .tup3 _ _ _, h => ⟨_, _, _, rfl, SV.Plain.r ρ w S h.1, SV.Plain.r ρ w S h.2.1, SV.Plain.r ρ w S h.2.2⟩
  | .gd _ _, h => h.elim
theorem SV.Plain.eq {ρ : Rho} {w : World} {S : Nat → Prop} : ∀ {s : SV} {v : Value}, s.Plain → RS ρ w S s v → v = s.val
  | .one _, _, h, hr => AV.Plain.eq h hr
  | .agg l, _, h, ⟨us, e, hl⟩ => by
    rw [e, SV.val, ← plainL_eq h hl]
  | .tup2 _ _, _, h, ⟨a, b, e, h1, h2⟩ => by rw [e, SV.Plain.eq h.1 h1, SV.Plain.eq h.2 h2]; rfl
  | .tup3 _ _ _, _, h, ⟨a, b, c, e, h1, h2, h3⟩ => by rw [e, SV.Plain.eq h.1 h1, SV.Plain.eq h.2.1 h2, SV.Plain.eq h.2.2 h3]; rfl
  | .gd _ _, _, h, _ => h.elim

/-- The contract of a function that reads its arguments and yields a plain value. -/
def Fn (P : Program) (f : FuncId) (args : List SV) (r : SV) : Prop :=
  ∀ (w : World) (S : Nat → Prop) (vs : List Value), (∀ b, S b → b < w.heap.size) → DSs w S args vs → Calls P f vs.toArray w fun e w' => e = .returned r.val ∧ Below w.heap.size w w'
def callB (P : Program) (f : FuncId) : Bool := match P.funcs[f]? with | some fn => !(fn.name == "runtime.NumGoroutine") && !fn.body.isNone | none => false
theorem callFunc_run {P : Program} {f : FuncId} (h : callB P f = true) (args : Array Value) (w : World) : (callFunc f args).run P w = .ok (.enter f args) w := by
  unfold callB at h
  split at h
  · rename_i fn hf
    rw [Bool.and_eq_true, Bool.not_eq_true', Bool.not_eq_true'] at h
    have h1 : fn.name ≠ "runtime.NumGoroutine" := by simpa using h.1
    have h2 : fn.body ≠ none := by intro e; simp [e] at h
    simp [callFunc, go_sem, hf, h1, h2]
  · cases h
theorem wpQuiet_mono {P : Program} {ops : Array Oper} {C : World → Prop} {Q Q' : Act → Prop} (hQ : ∀ a, Q a → Q' a) : ∀ {l : List Oper} {a : Act}, wpQuiet P ops C Q l a → wpQuiet P ops C Q' l a
  | [], a, h => hQ a h
  | o :: l, a, h => by
    unfold wpQuiet at h ⊢
    split
    · rename_i hw
      rw [if_pos hw] at h
      exact Oper.quiet_mono (fun a ha => wpQuiet_mono hQ ha) h
    · rename_i hw
      rw [if_neg hw] at h
      exact wpQuiet_mono hQ h
section
variable {P : Program} {σ : Sig}
theorem withOwn_lt {N : Nat} {w0 : Start} {ρ : Rho} {S : Nat → Prop} {a : Act} {w : World} (hs : St N w0 ρ S σ a w) : ∀ b, withOwn ρ σ.heap S b → b < w.heap.size := by
  rintro b (h | ⟨id, o, ho, hc, rfl⟩ | ⟨id, n, X, i, hX, hi, hb⟩)
  · exact hs.mem.lt b h
  · exact hs.mem.blk ho hc
  · exact (((hs.mem.tree id n X hX i hi).2) b hb).2.1
theorem DL.keep {w w' : World} {S S' : Nat → Prop} (h : Same S w S' w') : ∀ {l : List AV} {us : List Value}, DL w S l us → DL w' S' l us
  | [], _, hd => hd
  | _ :: _, _, ⟨u, us, e, h1, h2⟩ => ⟨u, us, e, h1.keep h, DL.keep h h2⟩
theorem DS.keep {w w' : World} {S S' : Nat → Prop} (h : Same S w S' w') : ∀ {s : SV} {v : Value}, DS w S s v → DS w' S' s v
  | .one _, _, hd => D.keep h hd
  | .agg _, _, ⟨us, e, hd⟩ => ⟨us, e, hd.keep h⟩
  | .tup2 _ _, _, h => h.elim
  | .tup3 _ _ _, _, h => h.elim
  | .gd _ _, _, h => h.elim
theorem DSs.keep {w w' : World} {S S' : Nat → Prop} (h : Same S w S' w') : ∀ {l : List SV} {us : List Value}, DSs w S l us → DSs w' S' l us
  | [], _, hd => hd
  | _ :: _, _, ⟨u, us, e, h1, h2⟩ => ⟨u, us, e, h1.keep h, DSs.keep h h2⟩
theorem execCall {o : Oper} {ev : Operand → Value} {c : Operand} {g : FuncId} {caps : Array Value} {xs : List Operand} {ts : Array TypeId} (ho : o.op = .call { callee := .value c, args := xs.toArray, argTypes := ts })
    (hc : ev c = .func (.func g) #[] caps) (hB : callB P g = true) (w : World) : (execOp ev o).run P w = .ok (.enter g ((xs.map ev).toArray ++ caps)) w := by
  simp only [execOp, ho, resolve, Sem.run_bind, hc, Deferred.ofValue]
  simp only [Sem.run_pure, Result.andThen_ok, invoke, Array.empty_append, List.map_toArray]
  exact callFunc_run hB _ w
theorem PureOp.call {o : Oper} {f : FuncId} {xs : List Operand} {ts : Array TypeId} {args : List SV} {r : SV} (ho : o.op = .call { callee := .value (.func f), args := xs.toArray, argTypes := ts })
    (hF : Fn P f args r) (hk : KnA σ xs args) (hB : callB P f = true) (hp : r.Plain) : PureOp P o σ r := by
  intro N w0 ρ S a w hs
  refine ⟨r.val, hp.r _ _ _, fun w' hb => ?_⟩
  have h1 := (KnA.sound hs hk).keep (same_below (withOwn_lt hs) hb)
  have h2 := hF w' _ _ (fun b hb' => Nat.lt_of_lt_of_le (withOwn_lt hs b hb') hb.size) h1
  have e : (execOp a.eval o).run P w' = .ok (.enter f (xs.map a.eval).toArray) w' := by
    have := execCall (P := P) (ev := a.eval) (caps := #[]) ho rfl hB w'
    simpa using this
  rw [e]
  exact ⟨rfl, h2.mono fun e w'' ⟨he, hb2⟩ => ⟨he, hb.trans (hb2.mono hb.size)⟩⟩
/-- A call of a function value: what it captured comes behind the arguments. -/
def capL (m : Nat) (caps : Nat → AV) : List SV := (List.range' 0 m).map fun j => .one (caps j)
theorem DSs.append {w : World} {S : Nat → Prop} : ∀ {l m : List SV} {us vs : List Value}, DSs w S l us → DSs w S m vs → DSs w S (l ++ m) (us ++ vs)
  | [], _, _, _, h, k => by rw [show _ = [] from h]; exact k
  | _ :: _, _, _, _, ⟨u, us, e, h1, h2⟩, k => ⟨u, _, by rw [e]; rfl, h1, DSs.append h2 k⟩
theorem capL_sound {w : World} {S : Nat → Prop} {caps : Nat → AV} : ∀ (m i : Nat) (vs : List Value), vs.length = m → (∀ j, j < m → ∃ u, vs[j]? = some u ∧ D w S (caps (i + j)) u) → DSs w S ((List.range' i m).map fun j => .one (caps j)) vs
  | 0, _, vs, hl, _ => List.eq_nil_of_length_eq_zero hl
  | m + 1, i, [], hl, _ => by simp at hl
  | m + 1, i, v :: vs, hl, h => by
    obtain ⟨u, hu, hd⟩ := h 0 (by omega)
    simp at hu
    subst hu
    refine ⟨_, vs, rfl, hd, capL_sound m (i + 1) vs (by simpa using hl) fun j hj => ?_⟩
    obtain ⟨u, hu, hd⟩ := h (j + 1) (by omega)
    exact ⟨u, by simpa using hu, by rw [show i + 1 + j = i + (j + 1) by omega]; exact hd⟩
theorem PureOp.callv {o : Oper} {c : Operand} {g : FuncId} {m : Nat} {caps cv : Nat → AV} {xs : List Operand} {ts : Array TypeId} {args : List SV} {r : SV} (ho : o.op = .call { callee := .value c, args := xs.toArray, argTypes := ts })
    (hc : Kn σ c (.one (.fn g m caps))) (hF : Fn P g (args ++ capL m cv) r) (hv : ∀ j, j < m → Vw σ.heap (caps j) (cv j)) (hk : KnA σ xs args) (hB : callB P g = true) (hp : r.Plain) : PureOp P o σ r := by
  intro N w0 ρ S a w hs
  refine ⟨r.val, hp.r _ _ _, fun w' hb => ?_⟩
  have h1 := (KnA.sound hs hk).keep (same_below (withOwn_lt hs) hb)
  obtain ⟨vs, ec, hm, hcc⟩ := hc.sound hs
  have h3 : DSs w' (withOwn ρ σ.heap S) (capL m cv) vs.toList := by
    refine DSs.keep (same_below (withOwn_lt hs) hb) (capL_sound m 0 vs.toList (by simpa using hm) fun j hj => ?_)
    obtain ⟨u, hu, hr⟩ := hcc j hj
    exact ⟨u, by simpa using hu, by rw [Nat.zero_add]; exact (hv j hj).sound hs.mem hr⟩
  have h2 := hF w' _ _ (fun b hb' => Nat.lt_of_lt_of_le (withOwn_lt hs b hb') hb.size) (h1.append h3)
  have e : (execOp a.eval o).run P w' = .ok (.enter g (xs.map a.eval ++ vs.toList).toArray) w' := by
    have := execCall (P := P) (ev := a.eval) (caps := vs) ho ec hB w'
    rw [this]; simp
  rw [e]
  exact ⟨rfl, h2.mono fun e w'' ⟨he, hb2⟩ => ⟨he, hb.trans (hb2.mono hb.size)⟩⟩

/-! Regions. -/
/-- A plain region's rest. -/
def ARun (P : Program) (N : Nat) (w0 : Start) (ops : Array Oper) (Q : Sig → Prop) (l : List Oper) (σ : Sig) : Prop :=
  ∀ (ρ : Rho) (S : Nat → Prop) (a : Act) (w : World) (Q' : Exit → Act → World → Prop), (∀ ρ S σ a w, St N w0 ρ S σ a w → Q σ → Q' .normal a w) → St N w0 ρ S σ a w → wpList P ops Q' l a w
/-- The rest of a region that draws its order. -/
def AQ (P : Program) (N : Nat) (w0 : Start) (ops : Array Oper) (Q : Sig → Prop) (l : List Oper) (σ : Sig) : Prop :=
  ∀ (ρ : Rho) (S : Nat → Prop) (a : Act) (w : World), St N w0 ρ S σ a w → wpQuiet P ops (fun w'' => Below w.heap.size w w'') (fun a' => ∃ σ', St N w0 ρ S σ' a' w ∧ Q σ') l a
/-- What a guard comes to. -/
inductive Gate (σ : Sig) (t : Nat) : Bool → Bool → Prop
  | tt {x : Bool} : σ.env.lookup t = some (.one (.bool x)) → Gate σ t true x
  | tf {x : Bool} : σ.env.lookup t = some (.one (.bool x)) → Gate σ t false (!x)
  | gt {b x : Bool} : σ.env.lookup t = some (.gd b (.one (.bool x))) → Gate σ t true (b && x)
  | gf {b x : Bool} : σ.env.lookup t = some (.gd b (.one (.bool x))) → Gate σ t false (b && !x)
variable {N : Nat} {w0 : Start} {ops : Array Oper} {rest : List Oper} {o : Oper}
theorem Gate.sound {ρ : Rho} {S : Nat → Prop} {a : Act} {w : World} (hs : St N w0 ρ S σ a w) {t g : Nat} {want c : Bool} (h : Gate σ t want c) (ht : t < N) (hg : o.guard = some (g, want)) (hd : (ops[g]?).bind (·.dst) = some t) : Region.wanted o (yielded ops a.tmps) = c := by
  have hlt : t < a.tmps.size := by rw [hs.size]; exact ht
  have hget : ∀ v, a.tmps.getD t undef = v → a.tmps[t]? = some v := fun v hv => by
    rw [Array.getElem?_eq_getElem hlt]
    rw [Array.getD_eq_getD_getElem?, Array.getElem?_eq_getElem hlt] at hv
    exact congrArg some hv
  have key : yielded ops a.tmps g = match a.tmps[t]? with | some (.bool b) => some b | _ => none := by
    unfold yielded
    rw [hd]; rfl
  unfold Region.wanted
  rw [hg]
  simp only [key]
  cases h with
  | tt h =>
    have := hget _ (hs.env _ _ h)
    rw [this]; cases c <;> rfl
  | @tf x h =>
    have := hget _ (hs.env _ _ h)
    rw [this]; cases x <;> rfl
  | @gt b x h =>
    obtain ⟨h1, h2⟩ := hs.env _ _ h
    cases b with
    | true =>
      have := hget _ (h1 rfl)
      rw [this]; cases x <;> rfl
    | false =>
      have := hget _ (h2 rfl)
      rw [this]; cases x <;> rfl
  | @gf b x h =>
    obtain ⟨h1, h2⟩ := hs.env _ _ h
    cases b with
    | true =>
      have := hget _ (h1 rfl)
      rw [this]; cases x <;> rfl
    | false =>
      have := hget _ (h2 rfl)
      rw [this]; cases x <;> rfl
variable {Q : Sig → Prop}
theorem ARun.nil (h : Q σ) : ARun P N w0 ops Q [] σ := fun ρ S a w _ hQ hs => hQ ρ S σ a w hs h
theorem AQ.nil (h : Q σ) : AQ P N w0 ops Q [] σ := fun _ _ _ _ hs => ⟨σ, hs, h⟩
theorem ARun.pure {s : SV} {d : Nat} (hp : PureOp P o σ s) (hg : o.guard = none) (hd : o.dst = some d) (hN : d < N) (h : ARun P N w0 ops Q rest (σ.put d s)) : ARun P N w0 ops Q (o :: rest) σ := by
  intro ρ S a w Q' hQ hs
  obtain ⟨v, hv, hq⟩ := hp N w0 ρ S a w hs
  refine wpList_plain hg fun K hK => ?_
  refine Oper.wp_of_quiet (C := fun w'' => Below w.heap.size w w'') (K := fun a' => a' = a.put o.dst v) (Below.refl _ _) (fun a' w' hw ha => ?_) ⟨v, hq, rfl⟩
  subst ha
  rw [hd]
  exact hK _ _ (h ρ S _ w' Q' hQ ((hs.put hN hv).world hw))
theorem AQ.pure {s : SV} {d : Nat} (hp : PureOp P o σ s) (hg : o.guard = none) (hd : o.dst = some d) (hN : d < N) (h : AQ P N w0 ops Q rest (σ.put d s)) : AQ P N w0 ops Q (o :: rest) σ := by
  intro ρ S a w hs
  obtain ⟨v, hv, hq⟩ := hp N w0 ρ S a w hs
  unfold wpQuiet
  rw [if_pos (by simp [Region.wanted, hg])]
  refine ⟨v, hq, ?_⟩
  rw [hd]
  exact h ρ S _ w (hs.put hN hv)
theorem ARun.gpure {s : SV} {d g t : Nat} {want c : Bool} (hgate : Gate σ t want c) (hp : c = true → PureOp P o σ s) (hg : o.guard = some (g, want)) (hgd : (ops[g]?).bind (·.dst) = some t) (ht : t < N) (hd : o.dst = some d) (hN : d < N)
    (h : ARun P N w0 ops Q rest (σ.put d (.gd c s))) : ARun P N w0 ops Q (o :: rest) σ := by
  intro ρ S a w Q' hQ hs
  have hw := hgate.sound (ops := ops) hs ht hg hgd
  refine wpList_step fun K hK => ?_
  cases c with
  | true =>
    rw [if_pos hw]
    obtain ⟨v, hv, hq⟩ := hp rfl N w0 ρ S a w hs
    refine Oper.wp_of_quiet (C := fun w'' => Below w.heap.size w w'') (K := fun a' => a' = a.put o.dst v) (Below.refl _ _) (fun a' w' hw ha => ?_) ⟨v, hq, rfl⟩
    subst ha
    rw [hd]
    exact hK _ _ (h ρ S _ w' Q' hQ ((hs.put hN (s := .gd true s) ⟨fun _ => hv, (fun e => by cases e)⟩).world hw))
  | false =>
    rw [if_neg (by rw [hw]; simp), hd]
    exact hK _ _ (h ρ S _ w Q' hQ (hs.put hN (s := .gd false s) ⟨(fun e => by cases e), fun _ => rfl⟩))
theorem AQ.gpure {s : SV} {d g t : Nat} {want c : Bool} (hgate : Gate σ t want c) (hp : c = true → PureOp P o σ s) (hg : o.guard = some (g, want)) (hgd : (ops[g]?).bind (·.dst) = some t) (ht : t < N) (hd : o.dst = some d) (hN : d < N)
    (h : AQ P N w0 ops Q rest (σ.put d (.gd c s))) : AQ P N w0 ops Q (o :: rest) σ := by
  intro ρ S a w hs
  have hw := hgate.sound (ops := ops) hs ht hg hgd
  unfold wpQuiet
  cases c with
  | true =>
    rw [if_pos hw]
    obtain ⟨v, hv, hq⟩ := hp rfl N w0 ρ S a w hs
    refine ⟨v, hq, ?_⟩
    rw [hd]
    exact h ρ S _ w (hs.put hN (s := .gd true s) ⟨fun _ => hv, (fun e => by cases e)⟩)
  | false =>
    rw [if_neg (by rw [hw]; simp), hd]
    exact h ρ S _ w (hs.put hN (s := .gd false s) ⟨(fun e => by cases e), fun _ => rfl⟩)

/-! Statements. -/
def AW (P : Program) (N : Nat) (w0 : Start) (c : Code) (Q : Exit → Sig → Prop) (σ : Sig) : Prop :=
  ∀ (ρ : Rho) (S : Nat → Prop) (a : Act) (w : World) (Q' : Exit → Act → World → Prop), (∀ e ρ S σ a w, St N w0 ρ S σ a w → Q e σ → Q' e a w) → St N w0 ρ S σ a w → c.wp P Q' a w
def ThenA (P : Program) (N : Nat) (w0 : Start) (y : Code) (Q : Exit → Sig → Prop) : Exit → Sig → Prop
  | .normal, σ => AW P N w0 y Q σ
  | e, σ => Q e σ
def BlkA (id : Nat) (Q : Exit → Sig → Prop) : Exit → Sig → Prop
  | .exit i, σ => if i = id then Q .normal σ else Q (.exit i) σ
  | e, σ => Q e σ
variable {Q : Exit → Sig → Prop}
theorem AW.skip (h : Q .normal σ) : AW P N w0 .skip Q σ := fun ρ S a w _ hQ hs => wp_skip (hQ _ ρ S σ a w hs h)
theorem AW.ret (h : Q .ret σ) : AW P N w0 .ret Q σ := fun ρ S a w _ hQ hs => wp_ret (hQ _ ρ S σ a w hs h)
theorem AW.exit {i : Nat} (h : Q (.exit i) σ) : AW P N w0 (.exit i) Q σ := fun ρ S a w _ hQ hs => wp_exit (hQ _ ρ S σ a w hs h)
theorem AW.seq {x y : Code} (h : AW P N w0 x (ThenA P N w0 y Q) σ) : AW P N w0 (.seq x y) Q σ := by
  intro ρ S a w Q' hQ hs
  refine wp_seq (h ρ S a w _ (fun e ρ S σ a w hs hq => ?_) hs)
  cases e <;> first | exact hq ρ S a w Q' hQ hs | exact hQ _ ρ S σ a w hs hq
theorem AW.block {i : Nat} {c : Code} (h : AW P N w0 c (BlkA i Q) σ) : AW P N w0 (.block i c) Q σ := by
  intro ρ S a w Q' hQ hs
  refine wp_block (h ρ S a w _ (fun e ρ S σ a w hs hq => ?_) hs)
  cases e
  case exit k =>
    simp only [BlkA] at hq
    simp only [Exit.inBlock]
    split
    · rename_i hk; rw [if_pos hk] at hq; exact hQ _ ρ S σ a w hs hq
    · rename_i hk; rw [if_neg hk] at hq; exact hQ _ ρ S σ a w hs hq
  all_goals exact hQ _ ρ S σ a w hs hq
theorem AW.cond {c : Operand} {x y : Code} {b : Bool} (hc : Kn σ c (.one (.bool b))) (ht : b = true → AW P N w0 x Q σ) (hf : b = false → AW P N w0 y Q σ) : AW P N w0 (.cond c x y) Q σ := by
  intro ρ S a w Q' hQ hs
  refine wp_cond_split (t := b) (hc.sound hs) (fun e => ht e ρ S a w Q' hQ hs) (fun e => hf e ρ S a w Q' hQ hs)
theorem AW.region {i : Nat} {l : List Oper} (h : ARun P N w0 l.toArray (fun σ => Q .normal σ) l σ) : AW P N w0 (.region i l.toArray false) Q σ := by
  intro ρ S a w Q' hQ hs
  exact wp_region_lit (h ρ S a w Q' (fun ρ S σ a w hs hq => hQ _ ρ S σ a w hs hq) hs)
theorem AW.draw {i : Nat} {l : List Oper} (hm : P.follows .mixedOrders = true) (hB : Region.lexB .any l.toArray = true) (h : AQ P N w0 l.toArray (fun σ => Q .normal σ) l σ) : AW P N w0 (.region i l.toArray true) Q σ := by
  intro ρ S a w Q' hQ hs
  refine wp_region_quiet (C := fun w'' => Below w.heap.size w w'') hm hB (Below.drew (Below.refl _ _)) ?_
  have h1 := h ρ S a w hs
  refine wpQuiet_mono (l := l) (fun a' ⟨σ', hs', hq⟩ w' hw' => hQ _ ρ S σ' a' w' (hs'.world hw') hq) h1
end
end Go.Proofs.Ytmfkmifkkplidaa
